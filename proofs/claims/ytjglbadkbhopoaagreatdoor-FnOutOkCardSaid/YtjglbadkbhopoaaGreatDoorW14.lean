/- Lemmas and contracts for FnOutOk, part 14. -/
import Derived.Shelf.Strings.BuilderF
import Derived.Shelf.Strings.BuilderK
import Derived.Lib.OthersKept
import Derived.Test.YtjglbadkbhopoaaGreatDoorW11
import Derived.Test.YtjglbadkbhopoaaGreatDoorW04
import Derived.Test.YtjglbadkbhopoaaGreatDoorW06
import Derived.Test.YtjglbadkbhopoaaGreatDoorW07
import Derived.Lib.AppendIntMem
import Derived.Deep.RegionHeld3
import Derived.Test.YtjglbadkbhopoaaGreatDoorW13
import Derived.Test.YtjglbadkbhopoaaGreatDoorW09
namespace Go.Proofs
open Go.Shelf
set_option maxRecDepth 100000
set_option linter.unusedVariables false
def Tryz.bld_ren : Go.Shelf.Ren := ⟨fun | 166 => 61 | 240 => 90 | 276 => 109 | 169 => 28 | n => n, fun | 0 => 0 | 3 => 3 | 4 => 4 | 9 => 9 | 20 => 20 | 37 => 22 | 70 => 48 | 72 => 50 | 75 => 84 | 80 => 52 | 164 => 152 | 127 => 90 | 5 => 5 | n => n, fun | n => n⟩
theorem Tryz.lays166 : Go.Proofs.Lays.n166 Tryz.prog Tryz.bld_ren := {
  mixed := by kernel_rfl
  f166 := Tryz.func61.trans (congrArg some (by kernel_rfl))
  f240 := Tryz.func90.trans (congrArg some (by kernel_rfl))
  f276 := Tryz.func109.trans (congrArg some (by kernel_rfl))
  t0 := by first | exact Tryz.underlying0 | kernel_rfl
  a0 := by first | exact Tryz.isAgg0 | (intro w; kernel_rfl)
  z0 := by first | exact Tryz.sizeOf0 | (intro w; kernel_rfl)
  v0 := by first | exact Tryz.zeroValue0 | (intro w; kernel_rfl)
  t3 := by first | exact Tryz.underlying3 | kernel_rfl
  a3 := by first | exact Tryz.isAgg3 | (intro w; kernel_rfl)
  z3 := by first | exact Tryz.sizeOf3 | (intro w; kernel_rfl)
  v3 := by first | exact Tryz.zeroValue3 | (intro w; kernel_rfl)
  t4 := by first | exact Tryz.underlying4 | kernel_rfl
  a4 := by first | exact Tryz.isAgg4 | (intro w; kernel_rfl)
  z4 := by first | exact Tryz.sizeOf4 | (intro w; kernel_rfl)
  v4 := by first | exact Tryz.zeroValue4 | (intro w; kernel_rfl)
  t9 := by first | exact Tryz.underlying9 | kernel_rfl
  a9 := by first | exact Tryz.isAgg9 | (intro w; kernel_rfl)
  z9 := by first | exact Tryz.sizeOf9 | (intro w; kernel_rfl)
  v9 := by first | exact Tryz.zeroValue9 | (intro w; kernel_rfl)
  t20 := by first | exact Tryz.underlying20 | kernel_rfl
  a20 := by first | exact Tryz.isAgg20 | (intro w; kernel_rfl)
  z20 := by first | exact Tryz.sizeOf20 | (intro w; kernel_rfl)
  v20 := by first | exact Tryz.zeroValue20 | (intro w; kernel_rfl)
  t37 := by first | exact Tryz.underlying22 | kernel_rfl
  a37 := by first | exact Tryz.isAgg22 | (intro w; kernel_rfl)
  z37 := by first | exact Tryz.sizeOf22 | (intro w; kernel_rfl)
  v37 := by first | exact Tryz.zeroValue22 | (intro w; kernel_rfl)
  t70 := by first | exact Tryz.underlying48 | kernel_rfl
  a70 := by first | exact Tryz.isAgg48 | (intro w; kernel_rfl)
  z70 := by first | exact Tryz.sizeOf48 | (intro w; kernel_rfl)
  v70 := by first | exact Tryz.zeroValue48 | (intro w; kernel_rfl)
  t72 := by first | exact Tryz.underlying50 | kernel_rfl
  a72 := by first | exact Tryz.isAgg50 | (intro w; kernel_rfl)
  z72 := by first | exact Tryz.sizeOf50 | (intro w; kernel_rfl)
  v72 := by first | exact Tryz.zeroValue50 | (intro w; kernel_rfl)
  t75 := by first | exact Tryz.underlying84 | kernel_rfl
  a75 := by first | exact Tryz.isAgg84 | (intro w; kernel_rfl)
  z75 := by first | exact Tryz.sizeOf84 | (intro w; kernel_rfl)
  v75 := by first | exact Tryz.zeroValue84 | (intro w; kernel_rfl)
  t164 := by first | exact Tryz.underlying152 | kernel_rfl
  a164 := by first | exact Tryz.isAgg152 | (intro w; kernel_rfl)
  z164 := by first | exact Tryz.sizeOf152 | (intro w; kernel_rfl)
  v164 := by first | exact Tryz.zeroValue152 | (intro w; kernel_rfl)
}
theorem Tryz.lays169 : Go.Proofs.Lays.n169 Tryz.prog Tryz.bld_ren := {
  mixed := by kernel_rfl
  f169 := Tryz.func28.trans (congrArg some (by kernel_rfl))
  t0 := by first | exact Tryz.underlying0 | kernel_rfl
  a0 := by first | exact Tryz.isAgg0 | (intro w; kernel_rfl)
  z0 := by first | exact Tryz.sizeOf0 | (intro w; kernel_rfl)
  v0 := by first | exact Tryz.zeroValue0 | (intro w; kernel_rfl)
  t3 := by first | exact Tryz.underlying3 | kernel_rfl
  a3 := by first | exact Tryz.isAgg3 | (intro w; kernel_rfl)
  z3 := by first | exact Tryz.sizeOf3 | (intro w; kernel_rfl)
  v3 := by first | exact Tryz.zeroValue3 | (intro w; kernel_rfl)
  t9 := by first | exact Tryz.underlying9 | kernel_rfl
  a9 := by first | exact Tryz.isAgg9 | (intro w; kernel_rfl)
  z9 := by first | exact Tryz.sizeOf9 | (intro w; kernel_rfl)
  v9 := by first | exact Tryz.zeroValue9 | (intro w; kernel_rfl)
  t37 := by first | exact Tryz.underlying22 | kernel_rfl
  a37 := by first | exact Tryz.isAgg22 | (intro w; kernel_rfl)
  z37 := by first | exact Tryz.sizeOf22 | (intro w; kernel_rfl)
  v37 := by first | exact Tryz.zeroValue22 | (intro w; kernel_rfl)
  t70 := by first | exact Tryz.underlying48 | kernel_rfl
  a70 := by first | exact Tryz.isAgg48 | (intro w; kernel_rfl)
  z70 := by first | exact Tryz.sizeOf48 | (intro w; kernel_rfl)
  v70 := by first | exact Tryz.zeroValue48 | (intro w; kernel_rfl)
  t72 := by first | exact Tryz.underlying50 | kernel_rfl
  a72 := by first | exact Tryz.isAgg50 | (intro w; kernel_rfl)
  z72 := by first | exact Tryz.sizeOf50 | (intro w; kernel_rfl)
  v72 := by first | exact Tryz.zeroValue50 | (intro w; kernel_rfl)
  t127 := by first | exact Tryz.underlying90 | kernel_rfl
  a127 := by first | exact Tryz.isAgg90 | (intro w; kernel_rfl)
  z127 := by first | exact Tryz.sizeOf90 | (intro w; kernel_rfl)
  v127 := by first | exact Tryz.zeroValue90 | (intro w; kernel_rfl)
}
theorem Tryz.bldExtra : Builder.Extra Tryz.prog Tryz.bld_ren := {
  sizeBuilder := by kernel_rfl
  liesBuilder := by kernel_rfl
  t5 := by first | exact Tryz.underlying5 | kernel_rfl
  a5 := by first | exact Tryz.isAgg5 | (intro w; kernel_rfl)
  z5 := by first | exact Tryz.sizeOf5 | (intro w; kernel_rfl)
  v5 := by first | exact Tryz.zeroValue5 | (intro w; kernel_rfl)
  infoByte := by kernel_rfl
  cellsByte := by kernel_rfl
  sizeByte := by kernel_rfl
  neB5 := by decide }
end Go.Proofs
namespace Go.Proofs.YtjglbadkbhopoaaGreatDoor
open Go.RowKit
set_option maxRecDepth 100000
set_option maxHeartbeats 2000000
set_option linter.unusedVariables false
theorem cell_put {base : Nat} {w : World} {v : Value} {D : Trm} (h : Kd.cell.O 47 w base v D) {k : Nat} {c : Cell} (hk : D[k]? = some c) :
    ∃ ad cap, v = .slice (some ad) D.length cap ∧ base ≤ ad.block ∧ w.cell? (ad.add (k * 3)) = some (.int .i64 c.k) ∧ w.cell? ⟨(ad.add (k * 3)).block, (ad.add (k * 3)).off + 1, none⟩ = some (.int .i64 c.n) ∧ w.frozen? ⟨(ad.add (k * 3)).block, (ad.add (k * 3)).off + 1, none⟩ = false ∧
      ∀ q, Hid (Kd.cell.O 47 (w.setCell ⟨(ad.add (k * 3)).block, (ad.add (k * 3)).off + 1, none⟩ (.int .i64 q)) base v (D.set k { c with n := q }) ∧ Wrote base 47 w (w.setCell ⟨(ad.add (k * 3)).block, (ad.add (k * 3)).off + 1, none⟩ (.int .i64 q))) := by
  have hS := Kd.O_read h
  obtain ⟨ad, cap, hv, hb, hf, hp⟩ := Kd.O_put h (fun q hq => by simp [Kd.cell] at hq) hk
  obtain ⟨A, c', ev, _, _, hC⟩ := hS
  obtain ⟨ad', ea, h1, h2, _⟩ := cell_at hC hk
  rw [hv] at ev
  injection ev with e1 _ _
  rw [← e1] at ea
  injection ea with ea
  subst ea
  refine ⟨ad, cap, hv, hb, h1, h2, hf 1 (by decide), fun q => Lib.hid ?_⟩
  obtain ⟨p1, p2⟩ := hp 1 (by decide) (.int .i64 q) { c with n := q } rfl (fun cs hcs => by obtain rfl : cs = [.int .i64 c.k, .int .i64 c.n, .string c.s] := hcs; rfl)
  exact ⟨p1, p2.below_put (by show base ≤ (ad.add (k * 3)).block; rw [add_block]; exact hb) (by
    have := World.block_lt_of_cell? w _ h1
    rw [add_block] at this
    omega)⟩
theorem map_step {f : Cell → Cell} {t D : Trm} {k : Nat} {c : Cell} (hD : D = (t.take k).map f ++ t.drop k) (hc : t[k]? = some c) : D[k]? = some c ∧ D.set k (f c) = (t.take (k + 1)).map f ++ t.drop (k + 1) := by
  obtain ⟨hl, e⟩ := List.getElem?_eq_some_iff.1 hc
  have hlen : ((t.take k).map f).length = k := by rw [List.length_map, List.length_take]; omega
  subst hD
  constructor
  · rw [List.getElem?_append_right (by omega), hlen, Nat.sub_self, List.getElem?_drop, Nat.add_zero, hc]
  · rw [List.set_append, if_neg (by omega), hlen, Nat.sub_self, List.drop_eq_getElem_cons hl, List.set_cons_zero, List.take_succ_eq_append_getElem hl, List.map_append, e]; simp
theorem map_step_id {f : Cell → Cell} {t D : Trm} {k : Nat} {c : Cell} (hD : D = (t.take k).map f ++ t.drop k) (hc : t[k]? = some c) (hf : f c = c) : D = (t.take (k + 1)).map f ++ t.drop (k + 1) := by
  obtain ⟨h1, h2⟩ := map_step hD hc
  rw [← h2, hf]
  obtain ⟨hl, e⟩ := List.getElem?_eq_some_iff.1 h1
  rw [← e, List.set_getElem_self]
theorem shiftedI_c (t : Trm) (tv : Value) (n : Int) (w : World) (h : Kd.cell.S 47 w tv t) (hl : t.length ≤ 1000000000) (hn0 : -1000000000 ≤ n) (hn1 : n ≤ 1000000000) (hc0 : ∀ x ∈ t, -1000000000 ≤ x.n ∧ x.n ≤ 1000000000) :
    Calls Tryz.prog 41 #[tv, .int .i64 n] w fun e w' => ∃ v, e = .returned v ∧ Kd.cell.O 47 w' w.heap.size v (shift t n) ∧ Below w.heap.size w w' := by
  have H0 := Lib.hid h
  obtain ⟨A, c, rfl, a1, a2, -⟩ := h
  have HC := Lib.hid (cloneS_c t A c w H0.out hl)
  have Hc0 := Lib.hid hc0
  clear H0 hc0
  go_enter Tryz.func41, Tryz.ntmps41
  go_wp2_with (go_at_call 46; (with_reducible refine HC.out.mono ?_); rintro e w1 ⟨cv, rfl, hO, hb⟩; have HO := Lib.hid hO; have HB := Lib.hid hb; obtain ⟨CB, cC, rfl, c1, c2, -⟩ := Kd.O_read hO; clear hO hb)
  go_loopw [11] (fun v11 wr => ∃ (k : Nat) (D : Trm), v11 = .int .i64 k ∧ k ≤ t.length ∧ D.length = t.length ∧ Hid (D = (t.take k).map (shiftCell n) ++ t.drop k) ∧ Hid (Kd.cell.O 47 wr w.heap.size (.slice CB t.length cC) D) ∧ Hid (Below w.heap.size w wr)) (fun v11 _ => t.length - (intOf v11).toNat)
  case atStart => exact ⟨0, t, rfl, Nat.zero_le _, rfl, Lib.hid (by simp), HO, HB⟩
  case round =>
    obtain ⟨k, D, rfl, hk, hD, HD, HOr, HBr⟩ := hrel
    have HDl := Lib.hid hD
    clear hD
    by_cases hlt : k < t.length
    · obtain ⟨cc, hc⟩ : ∃ cc, t[k]? = some cc := ⟨_, List.getElem?_eq_getElem hlt⟩
      have hcn := Hc0.out cc (List.mem_of_getElem? hc)
      obtain ⟨hDk, hst⟩ := map_step HD.out hc
      obtain ⟨ad, cap, ev, hb, x1, x2, x3, hput⟩ := cell_put HOr.out hDk
      have HP := Lib.hid hput
      have Hb := Lib.hid hb
      injection ev with e1 e2 e3
      have HId := Lib.hid (map_step_id HD.out hc)
      have hst' := Lib.hid hst
      clear hc hDk hst hput hb e2 e3
      subst e1
      by_cases h1 : cc.k = 1
      · have e1 : (cc.k == 1) = true := beq_iff_eq.2 h1
        have HN := Lib.hid (show D.set k { cc with n := cc.n + n } = (t.take (k + 1)).map (shiftCell n) ++ t.drop (k + 1) by
          rw [← hst'.out]; unfold shiftCell; rw [if_pos h1])
        clear h1
        go_wp2
        exact ⟨⟨k + 1, D.set k { cc with n := cc.n + n }, by go_num, by omega, by rw [List.length_set]; exact HDl.out, HN, Lib.hid (HP.out (cc.n + n)).out.1, Lib.hid (HBr.out.trans (HP.out (cc.n + n)).out.2.bel)⟩, by simp [intOf]; omega⟩
      · have e1 : (cc.k == 1) = false := beq_eq_false_iff_ne.2 h1
        have HN := Lib.hid (HId.out (by unfold shiftCell; rw [if_neg h1]))
        clear h1
        go_wp2
        exact ⟨⟨k + 1, D, by go_num, by omega, HDl.out, HN, HOr, HBr⟩, by simp [intOf]; omega⟩
    · have HV := Lib.hid (show shift t n = D by have := HD.out; rw [List.take_of_length_le (by omega), List.drop_of_length_le (by omega), List.append_nil] at this; exact this.symm)
      go_wp2
      go_ret
      exact ⟨_, rfl, by rw [HV.out]; have := HOr.out; exact this, HBr.out⟩
theorem idxI_c (xs : List Int) (A : Option Addr) (c : Nat) (n : Int) (w : World) (h : (Kd.int .i64).C 3 w A xs) (hl : xs.length ≤ 1000000000) :
    Calls Tryz.prog 47 #[.slice A xs.length c, .int .i64 n] w fun e w' => e = .returned (.int .i64 (place xs n)) ∧ w = w' := by
  have H := Lib.hid h
  clear h
  go_enter Tryz.func47, Tryz.ntmps47
  go_wp2
  go_loop [8] (fun v8 => ∃ k : Nat, v8 = .int .i64 k ∧ k ≤ xs.length ∧ Hid (∀ j, j < k → xs[j]? ≠ some n)) (fun v8 => xs.length - (intOf v8).toNat)
  case atStart => exact ⟨0, rfl, Nat.zero_le _, Lib.hid (fun j h => by omega)⟩
  case round =>
    obtain ⟨k, rfl, hk, HJ⟩ := hrel
    by_cases hlt : k < xs.length
    · obtain ⟨x, hx⟩ : ∃ x, xs[k]? = some x := ⟨_, List.getElem?_eq_getElem hlt⟩
      obtain ⟨ad, rfl, hc⟩ := int_at H.out hx
      by_cases he : n = x
      · have e1 : (n == x) = true := beq_iff_eq.2 he
        have HV := Lib.hid (place_hit (by rw [he]; exact hx) HJ.out)
        clear he hx
        go_wp2
        go_ret
        exact ⟨ret_int HV.out.symm, rfl⟩
      · have e1 : (n == x) = false := beq_eq_false_iff_ne.2 he
        have HN := Lib.hid (show ∀ j, j < k + 1 → xs[j]? ≠ some n from fun j hj => by
          rcases Nat.lt_or_ge j k with h' | h'
          · exact HJ.out j h'
          · obtain rfl : j = k := by omega
            rw [hx]; exact fun e => he (Option.some.inj e).symm)
        clear he hx
        go_wp2
        exact ⟨⟨k + 1, by go_num, by omega, HN⟩, by simp [intOf]; omega⟩
    · have HV := Lib.hid (place_miss (xs := xs) (n := n) (fun hm => by
        obtain ⟨j, hj, e⟩ := List.mem_iff_getElem.1 hm
        exact HJ.out j (by omega) (by rw [List.getElem?_eq_getElem hj, e])))
      go_wp2
      go_ret
      exact ⟨ret_int HV.out.symm, rfl⟩
theorem canonI_c (t : Trm) (tv : Value) (w : World) (h : Kd.cell.S 47 w tv t) (hl : t.length ≤ 1000000000) :
    Calls Tryz.prog 17 #[tv] w fun e w' => ∃ v, e = .returned v ∧ Kd.cell.O 47 w' w.heap.size v (canon t) ∧ Below w.heap.size w w' := by
  have H0 := Lib.hid h
  obtain ⟨A, c, rfl, a1, a2, hC⟩ := h
  have HF := Lib.hid (imFree_c t A c w hC hl)
  have HC := Lib.hid (fun W hb => cloneS_c t A c W (Kd.S_ext (w' := W) hb H0.out) hl)
  clear hC H0
  go_enter Tryz.func17, Tryz.ntmps17
  go_wp2_with (first | (go_at_call 45; (with_reducible refine HF.out.mono ?_); rintro e w1 ⟨fv, rfl, hO, hb⟩; have HFr := Lib.hid (Kd.O_read hO); have HB1 := Lib.hid hb; obtain ⟨FB, cF, rfl, f1, f2, -⟩ := Kd.O_read hO; clear hO hb)
                     | (go_at_call 46; (with_reducible refine (HC.out _ HB1.out).mono ?_); rintro e w2 ⟨cv, rfl, hO, hb⟩; have HO := Lib.hid (Kd.O_base hO HB1.out.size); have HB := Lib.hid (bel_trans HB1.out hb); have HF2 := Lib.hid (Kd.S_ext hb HFr.out); obtain ⟨CB, cC, rfl, c1, c2, -⟩ := Kd.O_read hO; clear hO hb))
  have hfl := free_len t
  obtain ⟨F, hF⟩ : ∃ F, free t = F := ⟨_, rfl⟩
  have HFe := Lib.hid hF
  rw [hF] at HF2 hfl f1 ⊢
  clear hF HFr HF HC
  have intE : ∀ q ∈ 3 :: (Kd.int .i64).E, q ≠ 47 := by
    intro q hq
    simp [Kd.int] at hq
    subst hq; decide
  have HintE := Lib.hid intE
  clear intE
  go_loopw [12] (fun v11 wr => ∃ (k : Nat) (D : Trm), v11 = .int .i64 k ∧ k ≤ t.length ∧ D.length = t.length ∧ Hid (D = (t.take k).map (canonCell F) ++ t.drop k) ∧ Hid (Kd.cell.O 47 wr w.heap.size (.slice CB t.length cC) D) ∧ Hid ((Kd.int .i64).S 3 wr (.slice FB F.length cF) F) ∧ Hid (Below w.heap.size w wr)) (fun v11 _ => t.length - (intOf v11).toNat)
  case atStart => exact ⟨0, t, rfl, Nat.zero_le _, rfl, Lib.hid (by simp), HO, HF2, HB⟩
  case round =>
    obtain ⟨k, D, rfl, hk, hD, HD, HOr, HFw, HBr⟩ := hrel
    have HDl := Lib.hid hD
    clear hD
    by_cases hlt : k < t.length
    · obtain ⟨cc, hc⟩ : ∃ cc, t[k]? = some cc := ⟨_, List.getElem?_eq_getElem hlt⟩
      obtain ⟨hDk, hst⟩ := map_step HD.out hc
      obtain ⟨ad, cap, ev, hb, x1, x2, x3, hput⟩ := cell_put HOr.out hDk
      have HP := Lib.hid hput
      injection ev with e1 e2 e3
      have HId := Lib.hid (map_step_id HD.out hc)
      have hst' := Lib.hid hst
      have HIx := Lib.hid (by
        obtain ⟨A', c', ev, _, _, hC'⟩ := HFw.out
        injection ev with u1 _ _
        subst u1
        exact idxI_c F FB cF cc.n wr hC' (by omega) : Calls Tryz.prog 47 #[.slice FB F.length cF, .int .i64 cc.n] wr fun e w' => e = .returned (.int .i64 (place F cc.n)) ∧ wr = w')
      clear hc hDk hst hput hb e2 e3
      subst e1
      by_cases h1 : cc.k = 1
      · have e1 : (cc.k == 1) = true := beq_iff_eq.2 h1
        obtain ⟨q, hq⟩ : ∃ q, place F cc.n = q := ⟨_, rfl⟩
        have HN := Lib.hid (show D.set k { cc with n := q } = (t.take (k + 1)).map (canonCell F) ++ t.drop (k + 1) by
          rw [← hst'.out]; unfold canonCell; rw [if_pos h1, hq])
        rw [hq] at HIx
        clear h1 hq
        go_wp2_with (go_at_call 47; (with_reducible refine HIx.out.mono ?_); rintro e w3 ⟨rfl, rfl⟩)
        exact ⟨⟨k + 1, D.set k { cc with n := q }, by go_num, by omega, by rw [List.length_set]; exact HDl.out, HN, Lib.hid (HP.out q).out.1, Lib.hid ((HP.out q).out.2.S HFw.out HintE.out), Lib.hid (HBr.out.trans (HP.out q).out.2.bel)⟩, by simp [intOf]; omega⟩
      · have e1 : (cc.k == 1) = false := beq_eq_false_iff_ne.2 h1
        have HN := Lib.hid (HId.out (by unfold canonCell; rw [if_neg h1]))
        clear h1
        go_wp2
        exact ⟨⟨k + 1, D, by go_num, by omega, HDl.out, HN, HOr, HFw, HBr⟩, by simp [intOf]; omega⟩
    · have HV := Lib.hid (show canon t = D by
        have := HD.out; rw [List.take_of_length_le (by omega), List.drop_of_length_le (by omega), List.append_nil] at this
        rw [this, ← HFe.out]; rfl)
      go_wp2
      go_ret
      exact ⟨_, rfl, by rw [HV.out]; exact HOr.out, HBr.out⟩
end Go.Proofs.YtjglbadkbhopoaaGreatDoor
namespace Go.Proofs.YtjglbadkbhopoaaGreatDoor
open Go.RowKit
set_option maxRecDepth 100000
set_option maxHeartbeats 2000000
set_option linter.unusedVariables false
theorem equalI_c (t u : Trm) (A B : Option Addr) (c d : Nat) (w : World) (h : Kd.cell.C 47 w A t) (h' : Kd.cell.C 47 w B u) (hl : t.length ≤ 1000000000) (hl' : u.length ≤ 1000000000) :
    Calls Tryz.prog 74 #[.slice A t.length c, .slice B u.length d] w fun e w' => e = .returned (.bool (decide (t = u))) ∧ Below w.heap.size w w' := by
  by_cases hlen : t.length = u.length
  · have H := Lib.hid h
    have H' := Lib.hid h'
    have HL := Lib.hid hlen
    clear h h'
    rw [← hlen]
    clear hlen hl'
    go_enter Tryz.func74, Tryz.ntmps74
    go_wp2
    go_loopw [13] (fun v5 wr => ∃ k : Nat, v5 = .int .i64 k ∧ k ≤ t.length ∧ Hid (t.take k = u.take k) ∧ Hid (Below w.heap.size w wr)) (fun v5 _ => t.length - (intOf v5).toNat)
    case atStart => exact ⟨0, rfl, Nat.zero_le _, Lib.hid rfl, Lib.hid (Below.refl _ _)⟩
    case round =>
      obtain ⟨k, rfl, hk, HS, HB⟩ := hrel
      by_cases hlt : k < t.length
      · obtain ⟨x, hx⟩ : ∃ x, t[k]? = some x := ⟨_, List.getElem?_eq_getElem hlt⟩
        obtain ⟨y, hy⟩ : ∃ y, u[k]? = some y := ⟨_, List.getElem?_eq_getElem (show k < u.length by rw [← HL.out]; exact hlt)⟩
        obtain ⟨ad, rfl, a1, a2, a3⟩ := cell_at (Kd.C_ext HB.out H.out) hx
        obtain ⟨ad', rfl, b1, b2, b3⟩ := cell_at (Kd.C_ext HB.out H'.out) hy
        by_cases hxy : x = y
        · subst hxy
          have HN := Lib.hid (show t.take (k + 1) = u.take (k + 1) by
            rw [List.take_add_one, List.take_add_one, HS.out, hx, hy])
          clear hx hy
          go_upto_region 6 with fail
          go_quiet (fail)
          go_wp2
          exact ⟨⟨k + 1, by go_num, by omega, HN, Lib.hid (bel_drewN HB.out _)⟩, by simp [intOf]; omega⟩
        · have HV := Lib.hid (show decide (t = u) = false from decide_eq_false (fun e => hxy (by rw [e, hy] at hx; exact (Option.some.inj hx).symm)))
          have hcc := cell_neb hxy
          clear hx hy hxy
          rcases hcc with e2 | ⟨e2, e3⟩ | ⟨e2, e3, e4⟩
          all_goals
            go_upto_region 6 with fail
            go_quiet (fail)
            go_wp2
            go_ret
            exact ⟨ret_bool HV.out.symm, bel_drewN HB.out _⟩
      · have HV := Lib.hid (show decide (t = u) = true from decide_eq_true (by
          have e := HS.out
          rwa [List.take_of_length_le (by omega), List.take_of_length_le (by rw [← HL.out]; omega)] at e))
        go_wp2
        go_ret
        exact ⟨ret_bool HV.out.symm, HB.out⟩
  · have hne : ((t.length : Int) != (u.length : Int)) = true := bne_iff_ne.2 (by omega)
    have HV := Lib.hid (show decide (t = u) = false from decide_eq_false (fun e => hlen (by rw [e])))
    go_enter Tryz.func74, Tryz.ntmps74
    go_wp2
    go_ret
    exact ⟨ret_bool HV.out.symm, Below.refl _ _⟩
theorem sameI_c (t u : Trm) (tv uv : Value) (w : World) (h : Kd.cell.S 47 w tv t) (h' : Kd.cell.S 47 w uv u) (hl : t.length ≤ 1000000000) (hl' : u.length ≤ 1000000000) :
    Calls Tryz.prog 39 #[tv, uv] w fun e w' => e = .returned (.bool (decide (t = u))) ∧ Below w.heap.size w w' := by
  obtain ⟨A, c, rfl, _, _, hC⟩ := h
  obtain ⟨B, d, rfl, _, _, hC'⟩ := h'
  have HE := Lib.hid (equalI_c t u A B c d w hC hC' hl hl')
  obtain ⟨q, hq⟩ : ∃ q, decide (t = u) = q := ⟨_, rfl⟩
  rw [hq] at HE ⊢
  clear hC hC' hq
  go_enter Tryz.func39, Tryz.ntmps39
  go_wp2_with (go_at_call 74; (with_reducible refine HE.out.mono ?_); rintro e w1 ⟨rfl, hb⟩)
  go_ret
  exact ⟨rfl, hb⟩
theorem imOkS_c (t : Trm) (tv : Value) (w : World) (h : Kd.cell.S 47 w tv t) (hl : t.length ≤ 1000000000) (hz : sized t) :
    Calls Tryz.prog 26 #[tv] w fun e w' => e = .returned (.bool (trmOk t)) ∧ Below w.heap.size w w' := by
  obtain ⟨A, c, rfl, _, _, hC⟩ := h
  exact imOk_c t A c w hC hl hz
theorem calledI_c (t : Trm) (tv : Value) (w : World) (h : Kd.cell.S 47 w tv t) (hl : t.length ≤ 1000000000) (hz : sized t) :
    Calls Tryz.prog 73 #[tv] w fun e w' => e = .returned (.bool (trmOk t && calls t)) ∧ Below w.heap.size w w' := by
  have HT := Lib.hid (imOkS_c t tv w h hl hz)
  have H := Lib.hid h
  cases hq : trmOk t with
  | false =>
    rw [hq] at HT
    clear h hq
    go_enter Tryz.func73, Tryz.ntmps73
    go_wp2_with (go_at_call 26; (with_reducible refine HT.out.mono ?_); rintro e w1 ⟨rfl, hb⟩)
    go_ret
    exact ⟨rfl, hb⟩
  | true =>
    rw [hq] at HT
    obtain ⟨x, r, rfl⟩ : ∃ x r, t = x :: r := by
      cases t with
      | nil => simp [trmOk] at hq
      | cons x r => exact ⟨x, r, rfl⟩
    obtain ⟨ad, n, k, rfl, h1, h2, h3, h4⟩ := S_open h
    have HC := Lib.hid (fun W (hb : Below w.heap.size w W) => S_cells (Kd.S_ext hb H.out))
    clear h hq
    by_cases h3 : x.k = 3
    · have e1 : (x.k == 3) = true := beq_iff_eq.2 h3
      have HV := Lib.hid (show calls (x :: r) = true from decide_eq_true h3)
      clear h3
      go_enter Tryz.func73, Tryz.ntmps73
      go_wp2_with (go_at_call 26; (with_reducible refine HT.out.mono ?_); rintro e w1 ⟨rfl, hb⟩; obtain ⟨c1, -, -⟩ := HC.out _ hb)
      go_ret
      exact ⟨ret_bool (by rw [HV.out]; rfl), hb⟩
    · have e1 : (x.k == 3) = false := beq_eq_false_iff_ne.2 h3
      have HV := Lib.hid (show calls (x :: r) = false from decide_eq_false h3)
      clear h3
      go_enter Tryz.func73, Tryz.ntmps73
      go_wp2_with (go_at_call 26; (with_reducible refine HT.out.mono ?_); rintro e w1 ⟨rfl, hb⟩; obtain ⟨c1, -, -⟩ := HC.out _ hb)
      go_ret
      exact ⟨ret_bool (by rw [HV.out]; rfl), hb⟩
theorem isQI_c (t : Trm) (tv : Value) (w : World) (h : Kd.cell.S 47 w tv t) (hl : t.length ≤ 1000000000) (hz : sized t) :
    Calls Tryz.prog 37 #[tv] w fun e w' => e = .returned (.bool (isQ t)) ∧ Below w.heap.size w w' := by
  have HT := Lib.hid (calledI_c t tv w h hl hz)
  have HC := Lib.hid (fun W hb => canonI_c t tv W (Kd.S_ext (w' := W) hb h) hl)
  have HS := Lib.hid (fun W v hb hv => sameI_c t (canon t) tv v W (Kd.S_ext hb h) hv hl (by rw [canon_len]; exact hl))
  cases hq : (trmOk t && calls t) with
  | false =>
    rw [hq] at HT
    have HV := Lib.hid (show isQ t = false by unfold isQ; rw [hq]; rfl)
    clear h hq
    go_enter Tryz.func37, Tryz.ntmps37
    go_wp2_with (go_at_call 73; (with_reducible refine HT.out.mono ?_); rintro e w1 ⟨rfl, hb⟩)
    go_ret
    exact ⟨ret_bool HV.out.symm, hb⟩
  | true =>
    rw [hq] at HT
    have HV := Lib.hid (show isQ t = decide (t = canon t) by unfold isQ; rw [hq, Bool.true_and]; exact decide_eq_decide.2 ⟨Eq.symm, Eq.symm⟩)
    obtain ⟨q, hq2⟩ : ∃ q, decide (t = canon t) = q := ⟨_, rfl⟩
    rw [hq2] at HS HV
    clear h hq hq2
    go_enter Tryz.func37, Tryz.ntmps37
    go_wp2_with (first | (go_at_call 73; (with_reducible refine HT.out.mono ?_); rintro e w1 ⟨rfl, hb⟩; have HB := Lib.hid hb; clear hb) | (go_at_call 17; (with_reducible refine (HC.out _ HB.out).mono ?_); rintro e w2 ⟨v, rfl, ho, hb2⟩; have HO := Lib.hid (Kd.O_read ho); have HB2 := Lib.hid (bel_trans HB.out hb2); clear ho hb2) | (go_at_call 39; (with_reducible refine (HS.out _ _ HB2.out HO.out).mono ?_); rintro e w3 ⟨rfl, hb3⟩))
    go_ret
    exact ⟨ret_bool HV.out.symm, bel_trans HB2.out hb3⟩
end Go.Proofs.YtjglbadkbhopoaaGreatDoor
namespace Go.Proofs.YtjglbadkbhopoaaGreatDoor
open Go.RowKit
set_option maxRecDepth 100000
set_option maxHeartbeats 2000000
set_option linter.unusedVariables false
theorem outOkI_c (top : Trm) (tv : Value) (st : Int) (t : Trm) (ov : Value) (w : World) (h : Kd.cell.S 47 w tv top) (h' : Kd.cell.S 47 w ov t) (hl : top.length ≤ 1000000000) (hl' : t.length ≤ 1000000000) (hz : sized top) (hz' : sized t) :
    Calls Tryz.prog 13 #[tv, .agg #[.int .i64 st, ov]] w fun e w' => e = .returned (.bool (outOk top st t)) ∧ Below w.heap.size w w' := by
  have H := Lib.hid h
  have H' := Lib.hid h'
  obtain ⟨B, k, rfl, b1, b2, -⟩ := h'
  have HT := Lib.hid (fun W hb => isQI_c top tv W (Kd.S_ext (w' := W) hb H.out) hl hz)
  clear h
  cases hq : isQ top with
  | false =>
    have HV := Lib.hid (show outOk top st t = false by unfold outOk; rw [if_pos hq])
    rw [hq] at HT
    clear hq
    go_enter Tryz.func13, Tryz.ntmps13
    go_wp2_with (go_at_call 37; (with_reducible refine (HT.out _ (bel_alloc (Below.refl _ _) _)).mono ?_); rintro e w1 ⟨rfl, hb⟩)
    go_ret
    exact ⟨ret_bool HV.out.symm, bel_trans (bel_alloc (Below.refl _ _) _) hb⟩
  | true =>
    rw [hq] at HT
    have HQ := Lib.hid hq
    clear hq
    have hbx : ∀ w1, Below (w.alloc (.cells #[.int .i64 st, .slice B t.length k] 25)).heap.size (w.alloc (.cells #[.int .i64 st, .slice B t.length k] 25)) w1 →
        w1.cell? ⟨w.heap.size, 0, none⟩ = some (.int .i64 st) ∧ w1.cell? ⟨w.heap.size, 1, none⟩ = some (.slice B t.length k) ∧ Below w.heap.size w w1 := fun w1 hb => ⟨cell_keep hb (box_cell _ _ _ 0), cell_keep hb (box_cell _ _ _ 1), bel_trans (bel_alloc (Below.refl _ _) _) hb⟩
    have HBX := Lib.hid hbx
    clear hbx
    by_cases h2 : st = 2
    · subst h2
      have HI2 : Hid (∀ W, Calls Tryz.prog 38 #[.int .i64 2, .int .i64 3, .int .i64 5] W fun e w' => e = .returned (.bool false) ∧ W = w') := Lib.hid (fun W => imIn_c 2 3 5 W)
      have HO := Lib.hid (fun W hb => imOkS_c t _ W (Kd.S_ext (w' := W) hb H'.out) hl' hz')
      have HV0 := Lib.hid (show outOk top 2 t = (trmOk t && (decide (canon t = t) && (uni [] [(t, shift top t.length)]).isSome)) by
        unfold outOk
        rw [if_neg (by rw [HQ.out]; simp), if_neg (by omega), if_neg (by omega)]
        cases trmOk t with
        | false => rfl
        | true =>
          rw [if_neg (by simp), Bool.true_and]
          by_cases hc : canon t = t
          · rw [if_neg (by simpa using hc), decide_eq_true hc, Bool.true_and]
          · rw [if_pos hc, decide_eq_false hc, Bool.false_and])
      have hst : ∀ W W' : World, Below W.heap.size W W' → (W.cell? ⟨w.heap.size, 0, none⟩ = some (.int .i64 2) ∧ W.cell? ⟨w.heap.size, 1, none⟩ = some (.slice B t.length k) ∧ Hid (Below w.heap.size w W)) → (W'.cell? ⟨w.heap.size, 0, none⟩ = some (.int .i64 2) ∧ W'.cell? ⟨w.heap.size, 1, none⟩ = some (.slice B t.length k) ∧ Hid (Below w.heap.size w W')) := fun W W' hb h => ⟨cell_keep hb h.1, cell_keep hb h.2.1, Lib.hid (bel_trans h.2.2.out hb)⟩
      cases ho : trmOk t with
      | false =>
        rw [ho] at HO
        have HV := Lib.hid (show outOk top 2 t = false by rw [HV0.out, ho]; rfl)
        clear ho
        have HO2 := Lib.hid (fun W (h : W.cell? ⟨w.heap.size, 0, none⟩ = some (.int .i64 2) ∧ W.cell? ⟨w.heap.size, 1, none⟩ = some (.slice B t.length k) ∧ Hid (Below w.heap.size w W)) => HO.out W h.2.2.out)
        go_enter Tryz.func13, Tryz.ntmps13
        go_upto_region 5 with (first | (go_at_call 37; (with_reducible refine (HT.out _ (bel_alloc (Below.refl _ _) _)).mono ?_); rintro e w1 ⟨rfl, hb⟩; obtain ⟨c0, c1, hb1⟩ := HBX.out _ hb; have HB1 := Lib.hid hb1; clear hb hb1) | (go_at_call 38; (with_reducible refine (HI2.out _).mono ?_); rintro e w9 ⟨rfl, rfl⟩))
        have hS0 := hst w1 w1.drew (bel_drew (Below.refl _ _)) ⟨c0, c1, HB1⟩
        obtain ⟨C, hC⟩ : ∃ C : World → Prop, ∀ W, C W ↔ (W.cell? ⟨w.heap.size, 0, none⟩ = some (.int .i64 2) ∧ W.cell? ⟨w.heap.size, 1, none⟩ = some (.slice B t.length k) ∧ Hid (Below w.heap.size w W)) := ⟨_, fun W => Iff.rfl⟩
        have HCi := Lib.hid hC
        have hC0 := (hC _).2 hS0
        clear hC hS0
        refine wp_region_class (C := C) (by kernel_rfl) (by kernel_rfl) hC0 ?_; (repeat (first | go_big_quiet_skip | (go_big_quiet_want; first | (go_big_quiet_op; first | go_big_quiet_on | (refine ⟨_, fun _ _ => rfl, ?_⟩; go_big_quiet_on)) | (refine quiet_cell rfl rfl (fun W v hv => (by go_simp)) (fun W hW => ((HCi.out W).1 hW).1) ?_; go_big_quiet_on; simp only [Act.put, List.setIfInBounds_toArray, List.set_cons_zero, List.set_cons_succ]) | (refine quiet_cell rfl rfl (fun W v hv => (by go_simp)) (fun W hW => ((HCi.out W).1 hW).2.1) ?_; go_big_quiet_on; simp only [Act.put, List.setIfInBounds_toArray, List.set_cons_zero, List.set_cons_succ]) | (go_big_quiet_op; refine ⟨_, fun W hW => ((HO2.out W ((HCi.out W).1 hW)).mono (fun e w' hh => ⟨hh.1, (HCi.out _).2 (hst _ _ hh.2 ((HCi.out W).1 hW))⟩)), ?_⟩; go_big_quiet_on)))); refine wpQuiet_nil ?_; intro w2 hw2
        have HB := ((HCi.out w2).1 hw2).2.2
        clear hw2 hC0
        go_wp2
        go_ret
        exact ⟨ret_bool HV.out.symm, HB.out⟩
      | true =>
        rw [ho] at HO
        have hcan : Hid (∀ W, (W.cell? ⟨w.heap.size, 0, none⟩ = some (.int .i64 2) ∧ W.cell? ⟨w.heap.size, 1, none⟩ = some (.slice B t.length k) ∧ Hid (Below w.heap.size w W)) → Calls Tryz.prog 17 #[.slice B t.length k] W fun e w' => ∃ v, e = .returned v ∧ Kd.cell.S 47 w' v (canon t) ∧ Below W.heap.size W w') := Lib.hid (fun W h => (canonI_c t _ W (Kd.S_ext h.2.2.out H'.out) hl').mono (fun e w' hh => by obtain ⟨v, h1, h2, h3⟩ := hh; exact ⟨v, h1, Kd.O_read h2, h3⟩))
        have hsam : Hid (∀ W v, (W.cell? ⟨w.heap.size, 0, none⟩ = some (.int .i64 2) ∧ W.cell? ⟨w.heap.size, 1, none⟩ = some (.slice B t.length k) ∧ Hid (Below w.heap.size w W)) → Kd.cell.S 47 W v (canon t) → Calls Tryz.prog 39 #[.slice B t.length k, v] W fun e w' => e = .returned (.bool (decide (canon t = t))) ∧ Below W.heap.size W w') := Lib.hid (fun W v h hv => by rw [show decide (canon t = t) = decide (t = canon t) from decide_eq_decide.2 ⟨Eq.symm, Eq.symm⟩]; exact sameI_c t (canon t) _ v W (Kd.S_ext h.2.2.out H'.out) hv hl' (by rw [canon_len]; exact hl'))
        have HO2 := Lib.hid (fun W (h : W.cell? ⟨w.heap.size, 0, none⟩ = some (.int .i64 2) ∧ W.cell? ⟨w.heap.size, 1, none⟩ = some (.slice B t.length k) ∧ Hid (Below w.heap.size w W)) => HO.out W h.2.2.out)
        cases hc : decide (canon t = t) with
        | false =>
          have HV := Lib.hid (show outOk top 2 t = false by rw [HV0.out, ho, hc]; rfl)
          rw [hc] at hsam
          clear ho hc
          go_enter Tryz.func13, Tryz.ntmps13
          go_upto_region 5 with (first | (go_at_call 37; (with_reducible refine (HT.out _ (bel_alloc (Below.refl _ _) _)).mono ?_); rintro e w1 ⟨rfl, hb⟩; obtain ⟨c0, c1, hb1⟩ := HBX.out _ hb; have HB1 := Lib.hid hb1; clear hb hb1) | (go_at_call 38; (with_reducible refine (HI2.out _).mono ?_); rintro e w9 ⟨rfl, rfl⟩))
          have hS0 := hst w1 w1.drew (bel_drew (Below.refl _ _)) ⟨c0, c1, HB1⟩
          go_region_held3 (fun W => W.cell? ⟨w.heap.size, 0, none⟩ = some (.int .i64 2) ∧ W.cell? ⟨w.heap.size, 1, none⟩ = some (.slice B t.length k) ∧ Hid (Below w.heap.size w W)) (assumption) (first | (go_at_call 26; refine (HO2.out _ (by assumption)).mono ?_; rintro e w2 ⟨rfl, hb2⟩; have hS1 := hst _ _ hb2 (by assumption); clear hb2) | (go_at_call 17; refine (hcan.out _ (by assumption)).mono ?_; rintro e w3 ⟨v3, rfl, hv3, hb3⟩; have hS3 := hst _ _ hb3 (by assumption); have HV3 := Lib.hid (fun W' hb' => Kd.S_ext (w' := W') hb' hv3); clear hb3 hv3) | (go_at_call 39; refine (hsam.out _ _ (by assumption) (HV3.out _ (by first | exact Below.refl _ _ | exact bel_drew (Below.refl _ _)))).mono ?_; rintro e w4 ⟨rfl, hb4⟩; have hS4 := hst _ _ hb4 (by assumption); clear hb4))
          all_goals
            have HB := hS4.2.2
            clear hS0 hst
            go_wp2
            go_ret
            exact ⟨ret_bool HV.out.symm, HB.out⟩
        | true =>
          rw [hc] at hsam
          have ht40 := (trmOk_iff.1 ho).2.1
          have hsq := shiftQ_ok HQ.out ht40
          have hI : Uinv (vars (shift top t.length) ++ vars t) [] [(t, shift top t.length)] := .start (.nil _) ho hsq (fun v hv => List.mem_append_right _ hv) (fun v hv => List.mem_append_left _ hv)
          have hVr : ∀ x ∈ vars (shift top t.length) ++ vars t, 0 ≤ x ∧ x ≤ 1000000000 := fun x hx => by
            rcases List.mem_append.1 hx with hx | hx
            · have := vars_ok hsq x hx; omega
            · have := vars_ok ho x hx; omega
          obtain ⟨n, hU⟩ := uni_U hI
          have hVl : (vars (shift top t.length) ++ vars t).length ≤ 4000000 := by
            have h1 := vars_len (shift top t.length)
            have h2 := vars_len t
            have h3 := (trmOk_iff.1 hsq).2.1
            rw [List.length_append]; omega
          have HV := Lib.hid (show outOk top 2 t = (uni [] [(t, shift top t.length)]).isSome by rw [HV0.out, ho, hc]; rfl)
          have HSh := Lib.hid (fun W (h : W.cell? ⟨w.heap.size, 0, none⟩ = some (.int .i64 2) ∧ W.cell? ⟨w.heap.size, 1, none⟩ = some (.slice B t.length k) ∧ Hid (Below w.heap.size w W)) => shiftedI_c top tv t.length W (Kd.S_ext h.2.2.out H.out) hl (by omega) (by omega) (n_small (isQ_ok HQ.out).1))
          obtain ⟨r, hr⟩ : ∃ r, uni [] [(t, shift top t.length)] = r := ⟨_, rfl⟩
          rw [hr] at HV hU
          have HUn := Lib.hid (fun W av h1 (h : W.cell? ⟨w.heap.size, 0, none⟩ = some (.int .i64 2) ∧ W.cell? ⟨w.heap.size, 1, none⟩ = some (.slice B t.length k) ∧ Hid (Below w.heap.size w W)) hb => unifyI_c _ (w.heap.size + 1) hVl hVr (n + 1) n [] (.slice none 0 0) (.slice B t.length k) av t (shift top t.length) r W (Nat.lt_succ_self _) hU hI.b (hI.p _ List.mem_cons_self) (Kd.F_nil _ _ _ _) (Kd.S_ext h.2.2.out H'.out) h1 hb)
          have hst2 : ∀ W W' : World, Wrote (w.heap.size + 1) 107 W W' → (W.cell? ⟨w.heap.size, 0, none⟩ = some (.int .i64 2) ∧ W.cell? ⟨w.heap.size, 1, none⟩ = some (.slice B t.length k) ∧ Hid (Below w.heap.size w W)) → (W'.cell? ⟨w.heap.size, 0, none⟩ = some (.int .i64 2) ∧ W'.cell? ⟨w.heap.size, 1, none⟩ = some (.slice B t.length k) ∧ Hid (Below w.heap.size w W')) := fun W W' hb h => ⟨(hb.bel.cell (p := ⟨w.heap.size, 0, none⟩) (Nat.lt_succ_self _)).trans h.1, (hb.bel.cell (p := ⟨w.heap.size, 1, none⟩) (Nat.lt_succ_self _)).trans h.2.1, Lib.hid (h.2.2.out.trans (hb.bel.mono (Nat.le_succ _)))⟩
          have hsz : ∀ W : World, (W.cell? ⟨w.heap.size, 0, none⟩ = some (.int .i64 2) ∧ W.cell? ⟨w.heap.size, 1, none⟩ = some (.slice B t.length k) ∧ Hid (Below w.heap.size w W)) → w.heap.size + 1 ≤ W.heap.size := fun W h => World.block_lt_of_cell? W _ h.1
          have Hsz := Lib.hid hsz
          clear ho hc hsq hI hU hVl hVr hr ht40 hsz
          cases r with
          | none =>
            go_enter Tryz.func13, Tryz.ntmps13
            go_upto_region 5 with (first | (go_at_call 37; (with_reducible refine (HT.out _ (bel_alloc (Below.refl _ _) _)).mono ?_); rintro e w1 ⟨rfl, hb⟩; obtain ⟨c0, c1, hb1⟩ := HBX.out _ hb; have HB1 := Lib.hid hb1; clear hb hb1) | (go_at_call 38; (with_reducible refine (HI2.out _).mono ?_); rintro e w9 ⟨rfl, rfl⟩))
            have hS0 := hst w1 w1.drew (bel_drew (Below.refl _ _)) ⟨c0, c1, HB1⟩
            go_region_held3 (fun W => W.cell? ⟨w.heap.size, 0, none⟩ = some (.int .i64 2) ∧ W.cell? ⟨w.heap.size, 1, none⟩ = some (.slice B t.length k) ∧ Hid (Below w.heap.size w W)) (assumption) (first | (go_at_call 26; refine (HO2.out _ (by assumption)).mono ?_; rintro e w2 ⟨rfl, hb2⟩; have hS1 := hst _ _ hb2 (by assumption); clear hb2) | (go_at_call 17; refine (hcan.out _ (by assumption)).mono ?_; rintro e w3 ⟨v3, rfl, hv3, hb3⟩; have hS3 := hst _ _ hb3 (by assumption); have HV3 := Lib.hid (fun W' hb' => Kd.S_ext (w' := W') hb' hv3); clear hb3 hv3) | (go_at_call 39; refine (hsam.out _ _ (by assumption) (HV3.out _ (by first | exact Below.refl _ _ | exact bel_drew (Below.refl _ _)))).mono ?_; rintro e w4 ⟨rfl, hb4⟩; have hS4 := hst _ _ hb4 (by assumption); clear hb4))
            clear hS0 hS1 hS3
            go_upto_region 7 with fail
            have hS0 := hst _ _ (bel_drew (Below.refl w4.heap.size w4)) hS4
            go_region_held3 (fun W => W.cell? ⟨w.heap.size, 0, none⟩ = some (.int .i64 2) ∧ W.cell? ⟨w.heap.size, 1, none⟩ = some (.slice B t.length k) ∧ Hid (Below w.heap.size w W)) (first | assumption | (exact hst _ _ (bel_alloc (Below.refl _ _) _) (by assumption))) (first | (go_at_call 41; refine (HSh.out _ (by assumption)).mono ?_; rintro e w5 ⟨v5, rfl, ho5, hb5⟩; have hv5 := Kd.O_read ho5; have hS5 := hst _ _ hb5 (by assumption); have HV5 := Lib.hid (fun W' hb' => Kd.S_ext (w' := W') hb' hv5); have HB5 := Lib.hid hb5; clear hb5 hv5 ho5) | (go_at_call 40; refine (HUn.out _ _ (HV5.out _ (by first | exact Below.refl _ _ | exact bel_alloc (Below.refl _ _) _)) (by assumption) (Hsz.out _ (by assumption))).mono ?_; rintro e w6 ⟨rv, rfl, hw6⟩; have hS6 := hst2 _ _ hw6 (by assumption); clear hw6))
            all_goals
              have HB := hS6.2.2
              clear hS0 hst
              go_wp2
              go_ret
              exact ⟨ret_bool HV.out.symm, HB.out⟩
          | some s' =>
            go_enter Tryz.func13, Tryz.ntmps13
            go_upto_region 5 with (first | (go_at_call 37; (with_reducible refine (HT.out _ (bel_alloc (Below.refl _ _) _)).mono ?_); rintro e w1 ⟨rfl, hb⟩; obtain ⟨c0, c1, hb1⟩ := HBX.out _ hb; have HB1 := Lib.hid hb1; clear hb hb1) | (go_at_call 38; (with_reducible refine (HI2.out _).mono ?_); rintro e w9 ⟨rfl, rfl⟩))
            have hS0 := hst w1 w1.drew (bel_drew (Below.refl _ _)) ⟨c0, c1, HB1⟩
            go_region_held3 (fun W => W.cell? ⟨w.heap.size, 0, none⟩ = some (.int .i64 2) ∧ W.cell? ⟨w.heap.size, 1, none⟩ = some (.slice B t.length k) ∧ Hid (Below w.heap.size w W)) (assumption) (first | (go_at_call 26; refine (HO2.out _ (by assumption)).mono ?_; rintro e w2 ⟨rfl, hb2⟩; have hS1 := hst _ _ hb2 (by assumption); clear hb2) | (go_at_call 17; refine (hcan.out _ (by assumption)).mono ?_; rintro e w3 ⟨v3, rfl, hv3, hb3⟩; have hS3 := hst _ _ hb3 (by assumption); have HV3 := Lib.hid (fun W' hb' => Kd.S_ext (w' := W') hb' hv3); clear hb3 hv3) | (go_at_call 39; refine (hsam.out _ _ (by assumption) (HV3.out _ (by first | exact Below.refl _ _ | exact bel_drew (Below.refl _ _)))).mono ?_; rintro e w4 ⟨rfl, hb4⟩; have hS4 := hst _ _ hb4 (by assumption); clear hb4))
            clear hS0 hS1 hS3
            go_upto_region 7 with fail
            have hS0 := hst _ _ (bel_drew (Below.refl w4.heap.size w4)) hS4
            go_region_held3 (fun W => W.cell? ⟨w.heap.size, 0, none⟩ = some (.int .i64 2) ∧ W.cell? ⟨w.heap.size, 1, none⟩ = some (.slice B t.length k) ∧ Hid (Below w.heap.size w W)) (first | assumption | (exact hst _ _ (bel_alloc (Below.refl _ _) _) (by assumption))) (first | (go_at_call 41; refine (HSh.out _ (by assumption)).mono ?_; rintro e w5 ⟨v5, rfl, ho5, hb5⟩; have hv5 := Kd.O_read ho5; have hS5 := hst _ _ hb5 (by assumption); have HV5 := Lib.hid (fun W' hb' => Kd.S_ext (w' := W') hb' hv5); have HB5 := Lib.hid hb5; clear hb5 hv5 ho5) | (go_at_call 40; refine (HUn.out _ _ (HV5.out _ (by first | exact Below.refl _ _ | exact bel_alloc (Below.refl _ _) _)) (by assumption) (Hsz.out _ (by assumption))).mono ?_; rintro e w6 ⟨rv, ⟨rfl, -⟩, hw6⟩; have hS6 := hst2 _ _ hw6 (by assumption); clear hw6))
            all_goals
              have HB := hS6.2.2
              clear hS0 hst
              go_wp2
              go_ret
              exact ⟨ret_bool HV.out.symm, HB.out⟩
    · have e2 : (st != 2) = true := bne_iff_ne.2 h2
      have HI := Lib.hid (fun W => imIn_c st 3 5 W)
      by_cases h35 : 3 ≤ st ∧ st ≤ 5
      · have HV := Lib.hid (show outOk top st t = t.isEmpty by unfold outOk; rw [if_neg (by rw [HQ.out]; simp), if_pos h35])
        have hI : (decide (3 ≤ st) && decide (st ≤ 5)) = true := by rw [decide_eq_true h35.1, decide_eq_true h35.2]; rfl
        rw [hI] at HI
        have HE := Lib.hid (show (((t.length : Nat) : Int) == 0) = t.isEmpty by cases t <;> simp <;> try omega)
        obtain ⟨m, hm⟩ : ∃ m, t.length = m := ⟨_, rfl⟩
        have HM := Lib.hid hm
        rw [hm] at HBX HE ⊢
        clear hI h35 h2 hm
        go_enter Tryz.func13, Tryz.ntmps13
        go_wp2_with (first | (go_at_call 37; (with_reducible refine (HT.out _ (bel_alloc (Below.refl _ _) _)).mono ?_); rintro e w1 ⟨rfl, hb⟩; obtain ⟨c0, c1, hb1⟩ := HBX.out _ hb; have HB1 := Lib.hid hb1; clear hb hb1) | (go_at_call 38; (with_reducible refine (HI.out _).mono ?_); rintro e w2 ⟨rfl, rfl⟩))
        go_ret
        exact ⟨ret_bool (by rw [HV.out, ← HE.out]), HB1.out⟩
      · have HV := Lib.hid (show outOk top st t = false by unfold outOk; rw [if_neg (by rw [HQ.out]; simp), if_neg h35, if_pos h2])
        have hI : (decide (3 ≤ st) && decide (st ≤ 5)) = false := by
          cases hd : (decide (3 ≤ st) && decide (st ≤ 5)) with
          | false => rfl
          | true => simp at hd; exact absurd hd h35
        rw [hI] at HI
        clear hI h35 h2
        go_enter Tryz.func13, Tryz.ntmps13
        go_upto_region 5 with (first | (go_at_call 37; (with_reducible refine (HT.out _ (bel_alloc (Below.refl _ _) _)).mono ?_); rintro e w1 ⟨rfl, hb⟩; obtain ⟨c0, c1, hb1⟩ := HBX.out _ hb; have HB1 := Lib.hid hb1; clear hb hb1) | (go_at_call 38; (with_reducible refine (HI.out _).mono ?_); rintro e w2 ⟨rfl, rfl⟩))
        go_quiet (fail)
        go_wp2
        go_ret
        exact ⟨ret_bool HV.out.symm, bel_drewN HB1.out _⟩
end Go.Proofs.YtjglbadkbhopoaaGreatDoor
namespace Go.Proofs.YtjglbadkbhopoaaGreatDoor
open Go.RowKit
set_option maxRecDepth 100000
set_option maxHeartbeats 2000000
set_option linter.unusedVariables false
def Tab (w : World) : Prop := Lib.TabIs Tryz.prog w "internal/strconv.uint64pow10" .u64 Lib.pow10Tab
theorem Tab.ext {w w' : World} (h : Tab w) (hb : Below w.heap.size w w') : Tab w' :=
  var?_below hb (g := 0) (by kernel_rfl) (World.block_lt_of_cell? w _ (Lib.TabIs.cell h (by kernel_rfl) 0 (by decide))) h
theorem itoa_c (v : Int) (h0 : -99999 ≤ v) (h1 : v ≤ 99999) (w : World) (hT : Tab w) :
    Calls Tryz.prog 62 #[.int .i64 v] w fun e w' => e = .returned (.string (B (Lib.itoa v))) ∧ Below w.heap.size w w' := by
  refine (Tryz.strconv_Itoa v (by omega) (by omega) w hT).mono ?_
  rintro e w' ⟨rfl, k, os, rfl⟩
  exact ⟨rfl, Lib.below_grow _ w (Nat.le_refl _) k os⟩
def Bld (b0 b : Nat) (l : Bs) (w : World) : Prop := Lib.IsBuilderF 50 5 b0 b (Lib.byteCells l) w
structure BW (b0 b : Nat) (w w' : World) : Prop where
  bel : Below b0 w w'
  oth : Lib.OthersKept 5 (some b) w w'
theorem BW.trans {b0 b : Nat} {w w1 w2 : World} (h : BW b0 b w w1) (k : BW b0 b w1 w2) : BW b0 b w w2 := ⟨h.bel.trans k.bel, h.oth.trans k.oth⟩
theorem BW.of_below {b0 b : Nat} {w w' : World} (hb : b0 ≤ w.heap.size) (h : Below w.heap.size w w') : BW b0 b w w' :=
  ⟨h.mono hb, fun k o hk _ _ => (h.block k (Array.getElem?_eq_some_iff.1 hk).1).trans hk⟩
theorem BAt.ext {b0 b : Nat} {p : Value} {bs : List Value} {w w' : World} (h : Lib.BuilderAtF 50 5 b0 b p bs w) (hb : Below w.heap.size w w') : Lib.BuilderAtF 50 5 b0 b p bs w' := by
  have hlt := h.lt
  obtain ⟨hB, v, hbk, hown, hne⟩ := h
  refine ⟨hB, v, (hb.block b hlt).trans hbk, hown.kept (row := none) ⟨hb.os, hb.tape, hb.output, hb.size, fun k hk _ => hb.block k hk⟩ ?_, hne⟩
  cases hv : v.ownBlock <;> simp
theorem Bld.ext {b0 b : Nat} {l : Bs} {w w' : World} (h : Bld b0 b l w) (hb : Below w.heap.size w w') : Bld b0 b l w' := h.imp (BAt.ext · hb) (BAt.ext · hb)
theorem Bld.ty {b0 b : Nat} {l : Bs} {w : World} (h : Bld b0 b l w) : ∃ c f, w.heap[b]? = some (.cells c 50 f) := by
  rcases h with ⟨_, v, hb, _⟩ | ⟨_, v, hb, _⟩ <;> exact ⟨_, _, hb⟩
theorem BW.keep {b0 b : Nat} {l : Bs} {w w' : World} (h : BW b0 b w w') (hB : Bld b0 b l w) {E : List Nat} (hE : ∀ q ∈ E, q ≠ 5 ∧ q ≠ 50) : Keep E w w' := fun k c q f hk hq => by
  obtain ⟨c', f', hb⟩ := hB.ty
  refine (h.oth k _ hk (fun e => ?_) (fun c2 f2 e => ?_)).trans hk.symm
  · injection e with e
    subst e
    rw [hk] at hb
    injection hb with hb
    injection hb with _ hq' _
    exact (hE q hq).2 hq'
  · injection e with _ hq' _
    exact (hE q hq).1 hq'
theorem BW.S {α : Type} {b0 b : Nat} {l : Bs} {w w' : World} (h : BW b0 b w w') (hB : Bld b0 b l w) {d : Kd α} {e2 : Nat} {v : Value} {xs : List α} (hs : d.S e2 w v xs) (hE : ∀ q ∈ e2 :: d.E, q ≠ 5 ∧ q ≠ 50) : d.S e2 w' v xs := Kd.S_mov (h.keep hB hE) hs
theorem BW.O {α : Type} {b0 b : Nat} {l : Bs} {w w' : World} (h : BW b0 b w w') (hB : Bld b0 b l w) {d : Kd α} {e2 b2 : Nat} {v : Value} {xs : List α} (hs : d.O e2 w b2 v xs) (hE : ∀ q ∈ e2 :: d.E, q ≠ 5 ∧ q ≠ 50) : d.O e2 w' b2 v xs :=
  Kd.O_mov (h.keep hB (fun q hq => hE q (List.mem_cons_of_mem _ hq))) (fun k hk => by obtain ⟨c, hc⟩ := Kd.O_typed hs k hk; exact h.keep hB hE k c e2 _ hc List.mem_cons_self) hs
theorem cellBE : ∀ q ∈ 47 :: Kd.cell.E, q ≠ 5 ∧ q ≠ 50 := fun q hq => by
  have : q = 47 := by simpa [Kd.cell] using hq
  rw [this]; decide
theorem trmBE : ∀ q ∈ 23 :: Kd.trm.E, q ≠ 5 ∧ q ≠ 50 := fun q hq => by
  have : q = 23 ∨ q = 47 := by simpa [Kd.trm, Kd.slice, Kd.cell] using hq
  rcases this with this | this <;> rw [this] <;> decide
theorem write_c (b0 b : Nat) (l : Bs) (s : ByteArray) (w w1 : World) (hB : Bld b0 b l w) (hb : Below w.heap.size w w1) (hb0 : b0 ≤ w.heap.size) (hl : l.length ≤ 1000000000) (hs : s.size ≤ 1000000000) :
    Calls Tryz.prog 61 #[.pointer (some ⟨b, 0, none⟩), .string s] w1 fun e w' => e = .returned (.tuple #[.int .i64 s.size, .nilIface]) ∧ Bld b0 b (l ++ L s) w' ∧ BW b0 b w w' := by
  refine (Any.Builder_WriteString_k Tryz.lays166 Tryz.bldExtra b0 b (Lib.byteCells l) s w1 (hB.ext hb) (by rw [Lib.byteCells_length]; omega) (Nat.le_trans hb0 hb.size)).mono ?_
  rintro e w' ⟨rfl, h1, h2, h3⟩
  refine ⟨rfl, .inr ?_, (BW.of_below hb0 hb).trans ⟨h2, h3⟩⟩
  rw [Lib.byteCells_append]
  exact h1
def tl : Bool → List Trm → Bs
  | true, [] => []
  | false, [] => [41]
  | f, a :: r => (if f then 40 else 44) :: (txt a ++ tl false r)
theorem joinT_tl : ∀ (a : Trm) (r : List Trm), joinT (a :: r) ++ [41] = txt a ++ tl false r
  | a, [] => by simp [joinT, tl]
  | a, b :: r => by
    have := joinT_tl b r
    rw [joinT, List.append_assoc, List.cons_append, this]
    simp [tl]
theorem txt_tl {c : Cell} {r : Trm} (h : Ms 1 (c :: r)) : txt (c :: r) = wordB c ++ tl true (argsOf (ar c).toNat r) := by
  rw [txt_cons h]
  congr 1
  have hl := argsOf_len (ar c).toNat r
  split
  · rename_i h0
    match hA : argsOf (ar c).toNat r with
    | [] => rw [hA] at hl; simp at hl; omega
    | a :: l => rw [List.cons_append, joinT_tl, tl, if_pos rfl]
  · rename_i h0
    rw [List.eq_nil_of_length_eq_zero (by omega : (argsOf (ar c).toNat r).length = 0)]
    rfl
theorem closeB_len : ∀ op : List Nat, (closeB op).1.length + (closeB op).2.length ≤ op.length + 1
  | [] => by simp [closeB]
  | 0 :: op => by simp [closeB]
  | 1 :: op => by have := closeB_len op; simp [closeB]; omega
  | (m + 2) :: op => by simp [closeB]; omega
theorem R_len : ∀ (t : Trm) (op : List Nat), t.all cellOk = true → (R op t).length ≤ 10 * t.length + op.length
  | [], op, _ => by simp [R]
  | c :: t, op, h => by
    have hc : cellOk c = true := List.all_eq_true.1 h c List.mem_cons_self
    have hw := word_len hc
    have ht : t.all cellOk = true := List.all_eq_true.2 (fun x hx => List.all_eq_true.1 h x (List.mem_cons_of_mem _ hx))
    rw [R, List.length_append, List.length_cons]
    split
    · have := R_len t ((ar c).toNat :: op) ht
      rw [List.length_cons] at this ⊢
      omega
    · have := R_len t (closeB op).2 ht
      have := closeB_len op
      rw [List.length_append]
      omega
theorem txt_len {t : Trm} (h : trmOk t = true) : (txt t).length ≤ 1000000000 := by
  obtain ⟨_, h40, hall⟩ := trmOk_iff.1 h
  have := R_len t [] hall
  unfold txt
  simp only [List.length_nil] at this
  omega
theorem str_c (b0 b : Nat) (l : Bs) (w : World) (hB : Bld b0 b l w) (hb : b0 ≤ w.heap.size) :
    Calls Tryz.prog 28 #[.pointer (some ⟨b, 0, none⟩)] w fun e w' => e = .returned (.string (B l)) ∧ Below b0 w w' := by
  refine (Any.Builder_String_any_f Tryz.lays169 Tryz.bldExtra b0 b l w hB hb).mono ?_
  rintro e w' ⟨rfl, _, h⟩
  exact ⟨rfl, h⟩
end Go.Proofs.YtjglbadkbhopoaaGreatDoor
namespace Go.Proofs.YtjglbadkbhopoaaGreatDoor
open Go.RowKit
set_option maxRecDepth 100000
set_option maxHeartbeats 8000000
set_option linter.unusedVariables false
theorem textW_c (t : Trm) (tv : Value) (w : World) (h : T0 w tv t) (hl : t.length ≤ 1000000) : Calls Tryz.prog 18 #[tv] w fun e w' => ∃ s : ByteArray, e = .returned (.string s) ∧ s.size ≤ 400 ∧ Below w.heap.size w w' := by
  refine (textS_c t tv w h (by omega)).mono ?_
  rintro e w' ⟨rfl, hb⟩
  refine ⟨_, rfl, ?_, hb⟩
  rw [size_B]
  split
  · rename_i hok
    obtain ⟨_, h40, hc⟩ := trmOk_iff.1 hok
    have := R_len t [] hc
    unfold txt
    simp only [List.length_nil] at this
    omega
  · exact Nat.zero_le _
theorem gtext_c (g : Goal) (av bv cv : Value) (w : World) (h1 : T0 w av g.a) (h2 : T0 w bv g.b) (h3 : T0 w cv g.c) (l1 : g.a.length ≤ 1000000) (l2 : g.b.length ≤ 1000000) (l3 : g.c.length ≤ 1000000) :
    Calls Tryz.prog 141 #[.agg #[.int .i64 g.k, av, bv, cv]] w fun e w' => ∃ s : ByteArray, e = .returned (.string s) ∧ s.size ≤ 2000 ∧ Below w.heap.size w w' := by
  have HT1 := Lib.hid (fun W (hb : Below w.heap.size w W) => textW_c g.a av W (Kd.S_ext hb h1) l1)
  have HT2 := Lib.hid (fun W (hb : Below w.heap.size w W) => textW_c g.b bv W (Kd.S_ext hb h2) l2)
  have HT3 := Lib.hid (fun W (hb : Below w.heap.size w W) => textW_c g.c cv W (Kd.S_ext hb h3) l3)
  have HGo := Lib.hid (fun W (hb : Below w.heap.size w W) => goalS_c g.k g.a g.b g.c av bv cv W (Kd.S_ext hb h1) (Kd.S_ext hb h2) (Kd.S_ext hb h3) (by omega) (by omega) (by omega))
  obtain ⟨qg, hqg⟩ : ∃ qg, goalOk g.k g.a g.b g.c = qg := ⟨_, rfl⟩
  rw [hqg] at HGo
  obtain ⟨A1, n1, rfl, -, -, -⟩ := h1
  obtain ⟨A2, n2, rfl, -, -, -⟩ := h2
  obtain ⟨A3, n3, rfl, -, -, -⟩ := h3
  have hkk : qg = true → g.k = 1 ∨ g.k = 2 ∨ g.k = 3 ∨ g.k = 4 ∨ g.k = 5 := fun hq => by
    rw [hq] at hqg
    unfold goalOk at hqg
    split at hqg
    · omega
    split at hqg
    · omega
    split at hqg
    · omega
    split at hqg
    · omega
    · cases hqg
  have HB0 := Lib.hid (show Below w.heap.size w (w.alloc (.cells #[.int .i64 g.k, .slice A1 g.a.length n1, .slice A2 g.b.length n2, .slice A3 g.c.length n3] 160)) from bel_alloc (Below.refl _ _) _)
  have HG0 := Lib.hid (show Bx (w.alloc (.cells #[.int .i64 g.k, .slice A1 g.a.length n1, .slice A2 g.b.length n2, .slice A3 g.c.length n3] 160)) w.heap.size 160 #[.int .i64 g.k, .slice A1 g.a.length n1, .slice A2 g.b.length n2, .slice A3 g.c.length n3] from Bx.new w 160 #[.int .i64 g.k, .slice A1 g.a.length n1, .slice A2 g.b.length n2, .slice A3 g.c.length n3])
  clear hqg l1 l2 l3
  go_enter Tryz.func141, Tryz.ntmps141
  go_upto_region 1 with (fail)
  cases qg with
  | false =>
    go_wp2_with (first | (go_at_call 139; (with_reducible refine (HGo.out _ HB0.out).mono ?_); rintro e w1 ⟨rfl, hb'⟩; have HB1 := Lib.hid (bel_trans HB0.out hb'); have HG1 := Lib.hid (Bx.below HG0.out hb'); clear hb') | fail)
    go_ret
    exact ⟨_, rfl, Nat.zero_le _, HB1.out⟩
  | true =>
    have hk := hkk rfl
    clear hkk
    go_upto_region 3 with (first | (go_at_call 139; (with_reducible refine (HGo.out _ HB0.out).mono ?_); rintro e w1 ⟨rfl, hb'⟩; have HB1 := Lib.hid (bel_trans HB0.out hb'); have HG1 := Lib.hid (Bx.below HG0.out hb'); clear hb') | fail)
    have g0 := Bx.at' HG1.out 0 (.int .i64 g.k) rfl
    have g1 := Bx.at' HG1.out 1 (.slice A1 g.a.length n1) rfl
    have g2 := Bx.at' HG1.out 2 (.slice A2 g.b.length n2) rfl
    have g3 := Bx.at' HG1.out 3 (.slice A3 g.c.length n3) rfl
    obtain ⟨gk, hgk⟩ : ∃ gk, g.k = gk := ⟨_, rfl⟩
    rw [hgk] at g0 hk
    clear hgk HG0 HG1 HB0
    rcases hk with rfl | rfl | rfl | rfl | rfl
    · go_wp2_with (first | (go_at_call 18; (with_reducible refine (HT1.out _ HB1.out).mono ?_); rintro e w2 ⟨s1, rfl, hs1, hb'⟩; have HB2 := Lib.hid (bel_trans HB1.out hb'); clear hb') | fail)
      go_ret
      exact ⟨_, rfl, by omega, HB2.out⟩
    · have hst : ∀ W1 W2, Below W1.heap.size W1 W2 → (W1.cell? ⟨w.heap.size, 1, none⟩ = some (.slice A1 g.a.length n1) ∧ W1.cell? ⟨w.heap.size, 2, none⟩ = some (.slice A2 g.b.length n2) ∧ W1.cell? ⟨w.heap.size, 3, none⟩ = some (.slice A3 g.c.length n3) ∧ Hid (Below w.heap.size w W1)) → (W2.cell? ⟨w.heap.size, 1, none⟩ = some (.slice A1 g.a.length n1) ∧ W2.cell? ⟨w.heap.size, 2, none⟩ = some (.slice A2 g.b.length n2) ∧ W2.cell? ⟨w.heap.size, 3, none⟩ = some (.slice A3 g.c.length n3) ∧ Hid (Below w.heap.size w W2)) := fun W1 W2 hb h => ⟨cell_keep hb h.1, cell_keep hb h.2.1, cell_keep hb h.2.2.1, Lib.hid (bel_trans h.2.2.2.out hb)⟩
      have hS0 := hst w1 w1.drew (bel_drew (Below.refl _ _)) ⟨g1, g2, g3, HB1⟩
      go_upto_region 5 with (fail)
      go_region_held3 (fun W => W.cell? ⟨w.heap.size, 1, none⟩ = some (.slice A1 g.a.length n1) ∧ W.cell? ⟨w.heap.size, 2, none⟩ = some (.slice A2 g.b.length n2) ∧ W.cell? ⟨w.heap.size, 3, none⟩ = some (.slice A3 g.c.length n3) ∧ Hid (Below w.heap.size w W)) (first | (with_reducible assumption)) (first | (go_at_call 18; (with_reducible refine (HT1.out _ hS0.2.2.2.out).mono ?_); rintro e v1 ⟨s1, rfl, hs1, hb'⟩; have hS1 := hst _ _ hb' hS0; have u1_0 : ¬ 9223372036854775807 < s1.size + 3 := (by omega); clear hb') | (go_at_call 18; (with_reducible refine (HT2.out _ hS1.2.2.2.out).mono ?_); rintro e v2 ⟨s2, rfl, hs2, hb'⟩; have hS2 := hst _ _ hb' hS1; have u2_0 : ¬ 9223372036854775807 < s1.size + 3 + s2.size := (by omega); have u2_1 : ¬ 9223372036854775807 < s1.size + 3 + s2.size + 3 := (by omega); clear hb') | fail)
      all_goals
        go_wp2
        go_ret
        exact ⟨_, rfl, by simp only [ByteArray.size_append]; first | omega | (show _ + 3 + _ ≤ 2000; omega) | (show _ + 3 + _ + 3 + _ ≤ 2000; omega), hS2.2.2.2.out⟩
    · go_wp2
      go_ret
      exact ⟨_, rfl, by show 1 ≤ 2000; omega, HB1.out⟩
    · have hst : ∀ W1 W2, Below W1.heap.size W1 W2 → (W1.cell? ⟨w.heap.size, 1, none⟩ = some (.slice A1 g.a.length n1) ∧ W1.cell? ⟨w.heap.size, 2, none⟩ = some (.slice A2 g.b.length n2) ∧ W1.cell? ⟨w.heap.size, 3, none⟩ = some (.slice A3 g.c.length n3) ∧ Hid (Below w.heap.size w W1)) → (W2.cell? ⟨w.heap.size, 1, none⟩ = some (.slice A1 g.a.length n1) ∧ W2.cell? ⟨w.heap.size, 2, none⟩ = some (.slice A2 g.b.length n2) ∧ W2.cell? ⟨w.heap.size, 3, none⟩ = some (.slice A3 g.c.length n3) ∧ Hid (Below w.heap.size w W2)) := fun W1 W2 hb h => ⟨cell_keep hb h.1, cell_keep hb h.2.1, cell_keep hb h.2.2.1, Lib.hid (bel_trans h.2.2.2.out hb)⟩
      have hS0 := hst w1 w1.drew (bel_drew (Below.refl _ _)) ⟨g1, g2, g3, HB1⟩
      go_upto_region 9 with (fail)
      go_region_held3 (fun W => W.cell? ⟨w.heap.size, 1, none⟩ = some (.slice A1 g.a.length n1) ∧ W.cell? ⟨w.heap.size, 2, none⟩ = some (.slice A2 g.b.length n2) ∧ W.cell? ⟨w.heap.size, 3, none⟩ = some (.slice A3 g.c.length n3) ∧ Hid (Below w.heap.size w W)) (first | (with_reducible assumption)) (first | (go_at_call 18; (with_reducible refine (HT1.out _ hS0.2.2.2.out).mono ?_); rintro e v1 ⟨s1, rfl, hs1, hb'⟩; have hS1 := hst _ _ hb' hS0; have u1_0 : ¬ 9223372036854775807 < s1.size + 3 := (by omega); clear hb') | (go_at_call 18; (with_reducible refine (HT2.out _ hS1.2.2.2.out).mono ?_); rintro e v2 ⟨s2, rfl, hs2, hb'⟩; have hS2 := hst _ _ hb' hS1; have u2_0 : ¬ 9223372036854775807 < s1.size + 3 + s2.size := (by omega); have u2_1 : ¬ 9223372036854775807 < s1.size + 3 + s2.size + 3 := (by omega); clear hb') | fail)
      all_goals
        go_wp2
        go_ret
        exact ⟨_, rfl, by simp only [ByteArray.size_append]; first | omega | (show _ + 3 + _ ≤ 2000; omega) | (show _ + 3 + _ + 3 + _ ≤ 2000; omega), hS2.2.2.2.out⟩
    · have hst : ∀ W1 W2, Below W1.heap.size W1 W2 → (W1.cell? ⟨w.heap.size, 1, none⟩ = some (.slice A1 g.a.length n1) ∧ W1.cell? ⟨w.heap.size, 2, none⟩ = some (.slice A2 g.b.length n2) ∧ W1.cell? ⟨w.heap.size, 3, none⟩ = some (.slice A3 g.c.length n3) ∧ Hid (Below w.heap.size w W1)) → (W2.cell? ⟨w.heap.size, 1, none⟩ = some (.slice A1 g.a.length n1) ∧ W2.cell? ⟨w.heap.size, 2, none⟩ = some (.slice A2 g.b.length n2) ∧ W2.cell? ⟨w.heap.size, 3, none⟩ = some (.slice A3 g.c.length n3) ∧ Hid (Below w.heap.size w W2)) := fun W1 W2 hb h => ⟨cell_keep hb h.1, cell_keep hb h.2.1, cell_keep hb h.2.2.1, Lib.hid (bel_trans h.2.2.2.out hb)⟩
      have hS0 := hst w1 w1.drew (bel_drew (Below.refl _ _)) ⟨g1, g2, g3, HB1⟩
      go_upto_region 11 with (fail)
      go_region_held3 (fun W => W.cell? ⟨w.heap.size, 1, none⟩ = some (.slice A1 g.a.length n1) ∧ W.cell? ⟨w.heap.size, 2, none⟩ = some (.slice A2 g.b.length n2) ∧ W.cell? ⟨w.heap.size, 3, none⟩ = some (.slice A3 g.c.length n3) ∧ Hid (Below w.heap.size w W)) (first | (with_reducible assumption)) (first | (go_at_call 18; (with_reducible refine (HT1.out _ hS0.2.2.2.out).mono ?_); rintro e v1 ⟨s1, rfl, hs1, hb'⟩; have hS1 := hst _ _ hb' hS0; have u1_0 : ¬ 9223372036854775807 < s1.size + 3 := (by omega); clear hb') | (go_at_call 18; (with_reducible refine (HT2.out _ hS1.2.2.2.out).mono ?_); rintro e v2 ⟨s2, rfl, hs2, hb'⟩; have hS2 := hst _ _ hb' hS1; have u2_0 : ¬ 9223372036854775807 < s1.size + 3 + s2.size := (by omega); have u2_1 : ¬ 9223372036854775807 < s1.size + 3 + s2.size + 3 := (by omega); clear hb') | (go_at_call 18; (with_reducible refine (HT3.out _ hS2.2.2.2.out).mono ?_); rintro e v3 ⟨s3, rfl, hs3, hb'⟩; have hS3 := hst _ _ hb' hS2; have u3_0 : ¬ 9223372036854775807 < s1.size + 3 + s2.size + 3 + s3.size := (by omega); clear hb') | fail)
      all_goals
        go_wp2
        go_ret
        exact ⟨_, rfl, by simp only [ByteArray.size_append]; first | omega | (show _ + 3 + _ ≤ 2000; omega) | (show _ + 3 + _ + 3 + _ ≤ 2000; omega), hS3.2.2.2.out⟩
end Go.Proofs.YtjglbadkbhopoaaGreatDoor
