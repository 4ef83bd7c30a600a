/- Contracts: the program's shifted, canonical and same terms; its questions. -/
import Derived.Test.YtjnangiggnmkoaaGreatDoorImUnify
namespace Go.Proofs.YtjnangiggnmkoaaGreatDoor
open Go.RowKit
set_option maxRecDepth 100000
set_option maxHeartbeats 2000000
set_option linter.unusedVariables false
theorem cell_put {base : Nat} {w : World} {v : Value} {D : Trm} (h : Kd.cell.O 47 w base v D) {k : Nat} {c : Cell} (hk : D[k]? = some c) :
    ∃ ad cap, v = .slice (some ad) D.length cap ∧ base ≤ ad.block ∧ w.cell? (ad.add (k * 3)) = some (.int .i64 c.k) ∧ w.cell? ⟨(ad.add (k * 3)).block, (ad.add (k * 3)).off + 1, none⟩ = some (.int .i64 c.n) ∧ w.frozen? ⟨(ad.add (k * 3)).block, (ad.add (k * 3)).off + 1, none⟩ = false ∧
      ∀ q, Hid (Kd.cell.O 47 (w.setCell ⟨(ad.add (k * 3)).block, (ad.add (k * 3)).off + 1, none⟩ (.int .i64 q)) base v (D.set k { c with n := q }) ∧ Wrote base 47 w (w.setCell ⟨(ad.add (k * 3)).block, (ad.add (k * 3)).off + 1, none⟩ (.int .i64 q))) := by
  have hS := Kd.O_read h
  obtain ⟨ad, cap, hv, hb, hf, hp⟩ := Kd.O_put h (fun q hq => by simp [Kd.cell] at hq) hk
  obtain ⟨A, c', ev, _, _, hC⟩ := hS
  obtain ⟨ad', ea, h1, h2, _⟩ := cell_at hC hk
  rw [hv] at ev
  injection ev with e1 _ _
  rw [← e1] at ea
  injection ea with ea
  subst ea
  refine ⟨ad, cap, hv, hb, h1, h2, hf 1 (by decide), fun q => Lib.hid ?_⟩
  obtain ⟨p1, p2⟩ := hp 1 (by decide) (.int .i64 q) { c with n := q } rfl (fun cs hcs => by obtain rfl : cs = [.int .i64 c.k, .int .i64 c.n, .string c.s] := hcs; rfl)
  exact ⟨p1, p2.below_put (by show base ≤ (ad.add (k * 3)).block; rw [add_block]; exact hb) (by
    have := World.block_lt_of_cell? w _ h1
    rw [add_block] at this
    omega)⟩
theorem map_step {f : Cell → Cell} {t D : Trm} {k : Nat} {c : Cell} (hD : D = (t.take k).map f ++ t.drop k) (hc : t[k]? = some c) : D[k]? = some c ∧ D.set k (f c) = (t.take (k + 1)).map f ++ t.drop (k + 1) := by
  obtain ⟨hl, e⟩ := List.getElem?_eq_some_iff.1 hc
  have hlen : ((t.take k).map f).length = k := by rw [List.length_map, List.length_take]; omega
  subst hD
  constructor
  · rw [List.getElem?_append_right (by omega), hlen, Nat.sub_self, List.getElem?_drop, Nat.add_zero, hc]
  · rw [List.set_append, if_neg (by omega), hlen, Nat.sub_self, List.drop_eq_getElem_cons hl, List.set_cons_zero, List.take_succ_eq_append_getElem hl, List.map_append, e]; simp
theorem map_step_id {f : Cell → Cell} {t D : Trm} {k : Nat} {c : Cell} (hD : D = (t.take k).map f ++ t.drop k) (hc : t[k]? = some c) (hf : f c = c) : D = (t.take (k + 1)).map f ++ t.drop (k + 1) := by
  obtain ⟨h1, h2⟩ := map_step hD hc
  rw [← h2, hf]
  obtain ⟨hl, e⟩ := List.getElem?_eq_some_iff.1 h1
  rw [← e, List.set_getElem_self]
theorem shiftedI_c (t : Trm) (tv : Value) (n : Int) (w : World) (h : Kd.cell.S 47 w tv t) (hl : t.length ≤ 1000000000) (hn0 : -1000000000 ≤ n) (hn1 : n ≤ 1000000000) (hc0 : ∀ x ∈ t, -1000000000 ≤ x.n ∧ x.n ≤ 1000000000) :
    Calls Tryz.prog 41 #[tv, .int .i64 n] w fun e w' => ∃ v, e = .returned v ∧ Kd.cell.O 47 w' w.heap.size v (shift t n) ∧ Below w.heap.size w w' := by
  have H0 := Lib.hid h
  obtain ⟨A, c, rfl, a1, a2, -⟩ := h
  have HC := Lib.hid (cloneS_c t A c w H0.out hl)
  have Hc0 := Lib.hid hc0
  clear H0 hc0
  go_enter Tryz.func41, Tryz.ntmps41
  go_wp2_with (go_at_call 70; (with_reducible refine HC.out.mono ?_); rintro e w1 ⟨cv, rfl, hO, hb⟩; have HO := Lib.hid hO; have HB := Lib.hid hb; obtain ⟨CB, cC, rfl, c1, c2, -⟩ := Kd.O_read hO; clear hO hb)
  go_loopw [11] (fun v11 wr => ∃ (k : Nat) (D : Trm), v11 = .int .i64 k ∧ k ≤ t.length ∧ D.length = t.length ∧ Hid (D = (t.take k).map (shiftCell n) ++ t.drop k) ∧ Hid (Kd.cell.O 47 wr w.heap.size (.slice CB t.length cC) D) ∧ Hid (Below w.heap.size w wr)) (fun v11 _ => t.length - (intOf v11).toNat)
  case atStart => exact ⟨0, t, rfl, Nat.zero_le _, rfl, Lib.hid (by simp), HO, HB⟩
  case round =>
    obtain ⟨k, D, rfl, hk, hD, HD, HOr, HBr⟩ := hrel
    have HDl := Lib.hid hD
    clear hD
    by_cases hlt : k < t.length
    · obtain ⟨cc, hc⟩ : ∃ cc, t[k]? = some cc := ⟨_, List.getElem?_eq_getElem hlt⟩
      have hcn := Hc0.out cc (List.mem_of_getElem? hc)
      obtain ⟨hDk, hst⟩ := map_step HD.out hc
      obtain ⟨ad, cap, ev, hb, x1, x2, x3, hput⟩ := cell_put HOr.out hDk
      have HP := Lib.hid hput
      have Hb := Lib.hid hb
      injection ev with e1 e2 e3
      have HId := Lib.hid (map_step_id HD.out hc)
      have hst' := Lib.hid hst
      clear hc hDk hst hput hb e2 e3
      subst e1
      by_cases h1 : cc.k = 1
      · have e1 : (cc.k == 1) = true := beq_iff_eq.2 h1
        have HN := Lib.hid (show D.set k { cc with n := cc.n + n } = (t.take (k + 1)).map (shiftCell n) ++ t.drop (k + 1) by
          rw [← hst'.out]; unfold shiftCell; rw [if_pos h1])
        clear h1
        go_wp2
        exact ⟨⟨k + 1, D.set k { cc with n := cc.n + n }, by go_num, by omega, by rw [List.length_set]; exact HDl.out, HN, Lib.hid (HP.out (cc.n + n)).out.1, Lib.hid (HBr.out.trans (HP.out (cc.n + n)).out.2.bel)⟩, by simp [intOf]; omega⟩
      · have e1 : (cc.k == 1) = false := beq_eq_false_iff_ne.2 h1
        have HN := Lib.hid (HId.out (by unfold shiftCell; rw [if_neg h1]))
        clear h1
        go_wp2
        exact ⟨⟨k + 1, D, by go_num, by omega, HDl.out, HN, HOr, HBr⟩, by simp [intOf]; omega⟩
    · have HV := Lib.hid (show shift t n = D by have := HD.out; rw [List.take_of_length_le (by omega), List.drop_of_length_le (by omega), List.append_nil] at this; exact this.symm)
      go_wp2
      go_ret
      exact ⟨_, rfl, by rw [HV.out]; have := HOr.out; exact this, HBr.out⟩
theorem idxI_c (xs : List Int) (A : Option Addr) (c : Nat) (n : Int) (w : World) (h : (Kd.int .i64).C 3 w A xs) (hl : xs.length ≤ 1000000000) :
    Calls Tryz.prog 71 #[.slice A xs.length c, .int .i64 n] w fun e w' => e = .returned (.int .i64 (place xs n)) ∧ w = w' := by
  have H := Lib.hid h
  clear h
  go_enter Tryz.func71, Tryz.ntmps71
  go_wp2
  go_loop [8] (fun v8 => ∃ k : Nat, v8 = .int .i64 k ∧ k ≤ xs.length ∧ Hid (∀ j, j < k → xs[j]? ≠ some n)) (fun v8 => xs.length - (intOf v8).toNat)
  case atStart => exact ⟨0, rfl, Nat.zero_le _, Lib.hid (fun j h => by omega)⟩
  case round =>
    obtain ⟨k, rfl, hk, HJ⟩ := hrel
    by_cases hlt : k < xs.length
    · obtain ⟨x, hx⟩ : ∃ x, xs[k]? = some x := ⟨_, List.getElem?_eq_getElem hlt⟩
      obtain ⟨ad, rfl, hc⟩ := int_at H.out hx
      by_cases he : n = x
      · have e1 : (n == x) = true := beq_iff_eq.2 he
        have HV := Lib.hid (place_hit (by rw [he]; exact hx) HJ.out)
        clear he hx
        go_wp2
        go_ret
        exact ⟨ret_int HV.out.symm, rfl⟩
      · have e1 : (n == x) = false := beq_eq_false_iff_ne.2 he
        have HN := Lib.hid (show ∀ j, j < k + 1 → xs[j]? ≠ some n from fun j hj => by
          rcases Nat.lt_or_ge j k with h' | h'
          · exact HJ.out j h'
          · obtain rfl : j = k := by omega
            rw [hx]; exact fun e => he (Option.some.inj e).symm)
        clear he hx
        go_wp2
        exact ⟨⟨k + 1, by go_num, by omega, HN⟩, by simp [intOf]; omega⟩
    · have HV := Lib.hid (place_miss (xs := xs) (n := n) (fun hm => by
        obtain ⟨j, hj, e⟩ := List.mem_iff_getElem.1 hm
        exact HJ.out j (by omega) (by rw [List.getElem?_eq_getElem hj, e])))
      go_wp2
      go_ret
      exact ⟨ret_int HV.out.symm, rfl⟩
theorem canonI_c (t : Trm) (tv : Value) (w : World) (h : Kd.cell.S 47 w tv t) (hl : t.length ≤ 1000000000) :
    Calls Tryz.prog 39 #[tv] w fun e w' => ∃ v, e = .returned v ∧ Kd.cell.O 47 w' w.heap.size v (canon t) ∧ Below w.heap.size w w' := by
  have H0 := Lib.hid h
  obtain ⟨A, c, rfl, a1, a2, hC⟩ := h
  have HF := Lib.hid (imFree_c t A c w hC hl)
  have HC := Lib.hid (fun W hb => cloneS_c t A c W (Kd.S_ext (w' := W) hb H0.out) hl)
  clear hC H0
  go_enter Tryz.func39, Tryz.ntmps39
  go_wp2_with (first | (go_at_call 69; (with_reducible refine HF.out.mono ?_); rintro e w1 ⟨fv, rfl, hO, hb⟩; have HFr := Lib.hid (Kd.O_read hO); have HB1 := Lib.hid hb; obtain ⟨FB, cF, rfl, f1, f2, -⟩ := Kd.O_read hO; clear hO hb)
                     | (go_at_call 70; (with_reducible refine (HC.out _ HB1.out).mono ?_); rintro e w2 ⟨cv, rfl, hO, hb⟩; have HO := Lib.hid (Kd.O_base hO HB1.out.size); have HB := Lib.hid (bel_trans HB1.out hb); have HF2 := Lib.hid (Kd.S_ext hb HFr.out); obtain ⟨CB, cC, rfl, c1, c2, -⟩ := Kd.O_read hO; clear hO hb))
  have hfl := free_len t
  obtain ⟨F, hF⟩ : ∃ F, free t = F := ⟨_, rfl⟩
  have HFe := Lib.hid hF
  rw [hF] at HF2 hfl f1 ⊢
  clear hF HFr HF HC
  have intE : ∀ q ∈ 3 :: (Kd.int .i64).E, q ≠ 47 := by
    intro q hq
    simp [Kd.int] at hq
    subst hq; decide
  have HintE := Lib.hid intE
  clear intE
  go_loopw [12] (fun v11 wr => ∃ (k : Nat) (D : Trm), v11 = .int .i64 k ∧ k ≤ t.length ∧ D.length = t.length ∧ Hid (D = (t.take k).map (canonCell F) ++ t.drop k) ∧ Hid (Kd.cell.O 47 wr w.heap.size (.slice CB t.length cC) D) ∧ Hid ((Kd.int .i64).S 3 wr (.slice FB F.length cF) F) ∧ Hid (Below w.heap.size w wr)) (fun v11 _ => t.length - (intOf v11).toNat)
  case atStart => exact ⟨0, t, rfl, Nat.zero_le _, rfl, Lib.hid (by simp), HO, HF2, HB⟩
  case round =>
    obtain ⟨k, D, rfl, hk, hD, HD, HOr, HFw, HBr⟩ := hrel
    have HDl := Lib.hid hD
    clear hD
    by_cases hlt : k < t.length
    · obtain ⟨cc, hc⟩ : ∃ cc, t[k]? = some cc := ⟨_, List.getElem?_eq_getElem hlt⟩
      obtain ⟨hDk, hst⟩ := map_step HD.out hc
      obtain ⟨ad, cap, ev, hb, x1, x2, x3, hput⟩ := cell_put HOr.out hDk
      have HP := Lib.hid hput
      injection ev with e1 e2 e3
      have HId := Lib.hid (map_step_id HD.out hc)
      have hst' := Lib.hid hst
      have HIx := Lib.hid (by
        obtain ⟨A', c', ev, _, _, hC'⟩ := HFw.out
        injection ev with u1 _ _
        subst u1
        exact idxI_c F FB cF cc.n wr hC' (by omega) : Calls Tryz.prog 71 #[.slice FB F.length cF, .int .i64 cc.n] wr fun e w' => e = .returned (.int .i64 (place F cc.n)) ∧ wr = w')
      clear hc hDk hst hput hb e2 e3
      subst e1
      by_cases h1 : cc.k = 1
      · have e1 : (cc.k == 1) = true := beq_iff_eq.2 h1
        obtain ⟨q, hq⟩ : ∃ q, place F cc.n = q := ⟨_, rfl⟩
        have HN := Lib.hid (show D.set k { cc with n := q } = (t.take (k + 1)).map (canonCell F) ++ t.drop (k + 1) by
          rw [← hst'.out]; unfold canonCell; rw [if_pos h1, hq])
        rw [hq] at HIx
        clear h1 hq
        go_wp2_with (go_at_call 71; (with_reducible refine HIx.out.mono ?_); rintro e w3 ⟨rfl, rfl⟩)
        exact ⟨⟨k + 1, D.set k { cc with n := q }, by go_num, by omega, by rw [List.length_set]; exact HDl.out, HN, Lib.hid (HP.out q).out.1, Lib.hid ((HP.out q).out.2.S HFw.out HintE.out), Lib.hid (HBr.out.trans (HP.out q).out.2.bel)⟩, by simp [intOf]; omega⟩
      · have e1 : (cc.k == 1) = false := beq_eq_false_iff_ne.2 h1
        have HN := Lib.hid (HId.out (by unfold canonCell; rw [if_neg h1]))
        clear h1
        go_wp2
        exact ⟨⟨k + 1, D, by go_num, by omega, HDl.out, HN, HOr, HFw, HBr⟩, by simp [intOf]; omega⟩
    · have HV := Lib.hid (show canon t = D by
        have := HD.out; rw [List.take_of_length_le (by omega), List.drop_of_length_le (by omega), List.append_nil] at this
        rw [this, ← HFe.out]; rfl)
      go_wp2
      go_ret
      exact ⟨_, rfl, by rw [HV.out]; exact HOr.out, HBr.out⟩
end Go.Proofs.YtjnangiggnmkoaaGreatDoor
