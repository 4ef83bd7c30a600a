/- Lemmas and contracts for FnOutOk, part 11. -/
import Derived.Test.YtjglbadkbhopoaaGreatDoorW07
import Derived.Test.YtjglbadkbhopoaaGreatDoorW10
import Derived.BigRegion
namespace Go.Proofs.YtjglbadkbhopoaaGreatDoor
open Go.RowKit
set_option maxRecDepth 100000
set_option maxHeartbeats 2000000
set_option linter.unusedVariables false
theorem B_cons (b : UInt8) (l : Bs) : B (b :: l) = (⟨#[b]⟩ : ByteArray) ++ B l := L_inj (by rw [L_append, L_B, L_B]; rfl)
theorem word_c (c : Cell) (w : World) (h : cellOk c = true) : Calls Tryz.prog 48 #[.agg #[.int .i64 c.k, .int .i64 c.n, .string c.s]] w fun e w' => e = .returned (.string (B (wordB c))) ∧ Below w.heap.size w w' := by
  have hn := cellOk_n' h
  rcases cellOk_k h with h1 | h1 | h1
  · have e1 : (c.k == 1) = true := beq_iff_eq.2 h1
    have h0 := (cellOk_var h h1).2.1
    have hlen := dec_len5' (u := c.n.toNat) (by omega)
    have HV := Lib.hid (show B (wordB c) = (⟨#[88]⟩ : ByteArray) ++ B (Lib.decDigits c.n.toNat) by
      rw [← B_cons]; unfold wordB Lib.itoa; rw [if_pos h1, if_neg (by omega)])
    have HP := Lib.hid (fun W => plain_c c.n.toNat W (by omega))
    rw [Int.toNat_of_nonneg h0] at HP
    have hz : (B (Lib.decDigits c.n.toNat)).size ≤ 5 := by rw [size_B]; exact hlen
    obtain ⟨Z, hZ⟩ : ∃ Z, B (Lib.decDigits c.n.toNat) = Z := ⟨_, rfl⟩
    rw [hZ] at HP HV hz
    clear h1 hZ hlen h
    go_enter Tryz.func48, Tryz.ntmps48
    go_wp2_with (go_at_call 83; (with_reducible refine (HP.out _).mono ?_); rintro e w1 ⟨rfl, hb⟩)
    go_ret
    exact ⟨ret_str HV.out.symm, bel_trans (bel_alloc (Below.refl _ _) _) hb⟩
  · have e0 : (c.k == 1) = false := beq_eq_false_iff_ne.2 (by omega)
    have e1 : (c.k == 2) = true := beq_iff_eq.2 h1
    by_cases h0 : c.n < 0
    · have hlen := dec_len5' (u := c.n.natAbs) (by omega)
      have HV := Lib.hid (show B (wordB c) = (⟨#[45]⟩ : ByteArray) ++ B (Lib.decDigits c.n.natAbs) by
        rw [← B_cons]; unfold wordB Lib.itoa; rw [if_neg (by omega), if_pos h1, if_pos h0])
      have HP := Lib.hid (fun W => plain_c c.n.natAbs W (by omega))
      rw [show ((c.n.natAbs : Nat) : Int) = -c.n by omega] at HP
      have hz : (B (Lib.decDigits c.n.natAbs)).size ≤ 5 := by rw [size_B]; exact hlen
      obtain ⟨Z, hZ⟩ : ∃ Z, B (Lib.decDigits c.n.natAbs) = Z := ⟨_, rfl⟩
      rw [hZ] at HP HV hz
      clear h1 hZ hlen h
      go_enter Tryz.func48, Tryz.ntmps48
      go_wp2_with (go_at_call 83; (with_reducible refine (HP.out _).mono ?_); rintro e w1 ⟨rfl, hb⟩)
      go_ret
      exact ⟨ret_str HV.out.symm, bel_trans (bel_alloc (Below.refl _ _) _) hb⟩
    · have HV := Lib.hid (show B (wordB c) = B (Lib.decDigits c.n.toNat) by unfold wordB Lib.itoa; rw [if_neg (by omega), if_pos h1, if_neg h0])
      have HP := Lib.hid (fun W => plain_c c.n.toNat W (by omega))
      rw [Int.toNat_of_nonneg (by omega)] at HP
      have hd : decide (c.n < 0) = false := decide_eq_false h0
      clear h1 h
      go_enter Tryz.func48, Tryz.ntmps48
      go_wp2_with (go_at_call 83; (with_reducible refine (HP.out _).mono ?_); rintro e w1 ⟨rfl, hb⟩)
      go_ret
      exact ⟨ret_str HV.out.symm, bel_trans (bel_alloc (Below.refl _ _) _) hb⟩
  · have e0 : (c.k == 1) = false := beq_eq_false_iff_ne.2 (by omega)
    have e1 : (c.k == 2) = false := beq_eq_false_iff_ne.2 (by omega)
    have HV := Lib.hid (show B (wordB c) = c.s by unfold wordB; rw [if_neg (by omega), if_neg (by omega), B_L])
    clear h1 h
    go_enter Tryz.func48, Tryz.ntmps48
    go_wp2
    go_ret
    exact ⟨ret_str HV.out.symm, bel_alloc (Below.refl _ _) _⟩
theorem int_put {base : Nat} {w : World} {v : Value} {D : List Int} (h : (Kd.int .i64).O 3 w base v D) {k : Nat} {x : Int} (hk : D[k]? = some x) :
    ∃ ad cap, v = .slice (some ad) D.length cap ∧ base ≤ ad.block ∧ w.cell? (ad.add k) = some (.int .i64 x) ∧ w.frozen? (ad.add k) = false ∧
      ∀ q, Hid ((Kd.int .i64).O 3 (w.setCell (ad.add k) (.int .i64 q)) base v (D.set k q) ∧ Wrote base 3 w (w.setCell (ad.add k) (.int .i64 q))) := by
  have hS := Kd.O_read h
  obtain ⟨ad, cap, hv, hb, hf, hp⟩ := Kd.O_put h (fun q hq => by simp [Kd.int] at hq) hk
  obtain ⟨A, c', ev, _, _, hC⟩ := hS
  obtain ⟨ad', ea, h1⟩ := int_at hC hk
  have hv' := hv
  rw [hv] at ev
  injection ev with e1 _ _
  rw [← e1] at ea
  injection ea with ea
  subst ea
  have hpath : ad.spot = none := by
    obtain ⟨cs, ⟨_, hx⟩, _⟩ := h
    rcases hx with ⟨rfl, _⟩ | ⟨g, cap', cur, rfl, _⟩
    · cases hv'
    · injection hv' with e _ _; injection e with e; rw [← e]
  have ez : (⟨(ad.add (k * (Kd.int .i64).sz)).block, (ad.add (k * (Kd.int .i64).sz)).off + 0, none⟩ : Addr) = ad.add k := by
    have : k * (Kd.int .i64).sz = k := by show k * 1 = k; omega
    rw [this]
    unfold Addr.add
    split
    · obtain ⟨b, o, p⟩ := ad; dsimp only at hpath; subst hpath; rfl
    · rfl
  refine ⟨ad, cap, hv, hb, h1, by have := hf 0 (by decide); rwa [ez] at this, fun q => Lib.hid ?_⟩
  obtain ⟨p1, p2⟩ := hp 0 (by decide) (.int .i64 q) q rfl (fun cs hcs => by obtain rfl : cs = [.int .i64 x] := hcs; rfl)
  rw [ez] at p1 p2
  exact ⟨p1, p2.below_put (by rw [add_block]; exact hb) (by
    have := World.block_lt_of_cell? w _ h1
    rw [add_block] at this
    omega)⟩
def ints (op : List Nat) : List Int := (op.map (fun n : Nat => (n : Int))).reverse
theorem ints_cons (m : Nat) (op : List Nat) : ints (m :: op) = ints op ++ [(m : Int)] := by unfold ints; rw [List.map_cons, List.reverse_cons]
theorem ints_len (op : List Nat) : (ints op).length = op.length := by unfold ints; rw [List.length_reverse, List.length_map]
theorem textS_c (t : Trm) (tv : Value) (w : World) (h : Kd.cell.S 47 w tv t) (hl : t.length ≤ 1000000000) :
    Calls Tryz.prog 18 #[tv] w fun e w' => e = .returned (.string (B (if trmOk t then txt t else []))) ∧ Below w.heap.size w w' := by
  have HT := Lib.hid (trmOkS_c t tv w h hl)
  cases hq : trmOk t with
  | false =>
    rw [hq] at HT
    clear h hq
    go_enter Tryz.func18, Tryz.ntmps18
    go_wp2_with (go_at_call 21; (with_reducible refine HT.out.mono ?_); rintro e w1 ⟨rfl, hb⟩)
    go_ret
    exact ⟨rfl, hb⟩
  | true =>
    rw [hq] at HT
    rw [if_pos rfl]
    have H := Lib.hid h
    obtain ⟨h1, h40, hall⟩ := trmOk_iff.1 hq
    have HA := Lib.hid (List.all_eq_true.1 hall)
    obtain ⟨A, c, rfl, a1, a2, -⟩ := h
    clear hq h1 hall
    go_enter Tryz.func18, Tryz.ntmps18
    go_wp2_with (go_at_call 21; (with_reducible refine HT.out.mono ?_); rintro e w1 ⟨rfl, hb⟩; have HB := Lib.hid hb; clear hb)
    have hw1 := Lib.hid HB.out.size
    go_loopw [3, 4, 5] (fun v3 v4 v5 wr => ∃ (k : Nat) (op : List Nat) (X : ByteArray), v3 = .string X ∧ v5 = .int .i64 k ∧ k ≤ t.length ∧ X.size + op.length ≤ 10 * k ∧ Hid (L X ++ R op (t.drop k) = txt t) ∧ Hid (∀ m ∈ op, 1 ≤ m ∧ m ≤ 3) ∧ Hid ((Kd.int .i64).O 3 wr w1.heap.size v4 (ints op)) ∧ Hid (Below w1.heap.size w1 wr)) (fun _ _ v5 _ => t.length - (intOf v5).toNat)
    case atStart => exact ⟨0, [], ⟨#[]⟩, rfl, rfl, Nat.zero_le _, by simp [ByteArray.size], Lib.hid (by simp [L, txt]), Lib.hid (fun m hm => by simp at hm), Lib.hid (Kd.O_empty _ _ w1 (Nat.le_refl _)), Lib.hid (bel_alloc (Below.refl _ _) _)⟩
    case round =>
      obtain ⟨k, op, X, rfl, rfl, hk, hX, HR, HOp, HO, HBr⟩ := hrel
      by_cases hlt : k < t.length
      · obtain ⟨cc, hc⟩ : ∃ cc, t[k]? = some cc := ⟨_, List.getElem?_eq_getElem hlt⟩
        obtain ⟨A', c', ev, _, _, hC⟩ := Kd.S_ext (bel_trans HB.out HBr.out) H.out
        injection ev with e1 e2 e3
        obtain ⟨ad, had, x1, x2, x3⟩ := cell_at hC hc
        have had2 := e1.trans had
        have hcok := HA.out cc (List.mem_of_getElem? hc)
        have hwl := word_len hcok
        have hcn := cellOk_n' hcok
        have HWd := Lib.hid (fun W => word_c cc W hcok)
        have hrr := ar_of_ok hcok
        have HR2 := Lib.hid (show L (X ++ B (wordB cc)) ++ (if 0 < (ar cc).toNat then 40 :: R ((ar cc).toNat :: op) (t.drop (k + 1)) else (closeB op).1 ++ R (closeB op).2 (t.drop (k + 1))) = txt t by
          have := HR.out
          rw [List.drop_eq_getElem_cons hlt, (List.getElem?_eq_some_iff.1 hc).2, R] at this
          rw [L_append, L_B, List.append_assoc]; exact this)
        have hwz : (B (wordB cc)).size ≤ 8 := by rw [size_B]; exact hwl
        obtain ⟨Z, hZ⟩ : ∃ Z, B (wordB cc) = Z := ⟨_, rfl⟩
        rw [hZ] at hwz HWd HR2
        have hXZ : (X ++ Z).size = X.size + Z.size := ByteArray.size_append
        have HXZ := Lib.hid hXZ
        clear hC e1 e2 e3 had hc hZ hwl HR hXZ
        subst had2
        by_cases h3 : cc.k = 3 ∧ 0 < cc.n
        · have e3 : (cc.k == 3) = true := beq_iff_eq.2 h3.1
          have e4 := h3.2
          have har : ar cc = cc.n := by unfold ar; rw [if_pos h3.1]
          obtain ⟨m, hm⟩ := Int.eq_ofNat_of_zero_le hrr.1
          have hm3 : m ≤ 3 := by omega
          have hm1 : 1 ≤ m := by omega
          have hxn : cc.n = (m : Int) := by rw [← har, hm]
          rw [hxn] at x2 HWd hcn e4
          have HR3 := Lib.hid (show L ((X ++ Z) ++ ⟨#[40]⟩) ++ R (m :: op) (t.drop (k + 1)) = txt t by
            have := HR2.out
            rw [hm, Int.toNat_natCast, if_pos (by omega)] at this
            rw [L_append, List.append_assoc]; exact this)
          clear h3 har hm hxn hrr HR2
          go_wp2_with (first | (go_at_call 48; (with_reducible refine (HWd.out _).mono ?_); rintro e w2 ⟨rfl, hb2⟩; have HB2 := Lib.hid hb2; obtain ⟨y1, y2⟩ : w2.cell? (ad.add (k * 3)) = some (.int .i64 cc.k) ∧ w2.cell? ⟨(ad.add (k * 3)).block, (ad.add (k * 3)).off + 1, none⟩ = some (.int .i64 (m : Int)) := ⟨cell_keep hb2 x1, cell_keep hb2 x2⟩; clear hb2)
                             | (at_builtin; refine wp_app AppI.int rfl rfl (Kd.O_alloc _ (Kd.O_ext HB2.out HO.out)) rfl (Kd.S_lit (Kd.int .i64) _ (x := (m : Int)) (cs := [.int .i64 (m : Int)]) rfl rfl) rfl ?c1 ?c2 ?_; (case c1 => rw [ints_len]; simp; omega); (case c2 => have h1 := HBr.out.size; have h2 := HB2.out.size; simp; omega); intro v8 w3 hg; have HG := Lib.hid hg; clear hg))
          exact ⟨⟨k + 1, m :: op, (X ++ Z) ++ ⟨#[40]⟩, rfl, by go_num, by omega, by rw [ByteArray.size_append, HXZ.out, List.length_cons]; show X.size + Z.size + 1 + (op.length + 1) ≤ _; omega, HR3, Lib.hid (fun j hj => by rcases List.mem_cons.1 hj with rfl | hj; exact ⟨hm1, hm3⟩; exact HOp.out j hj), Lib.hid (by rw [ints_cons]; exact HG.out.own), Lib.hid (HG.out.below (bel_alloc (bel_trans HBr.out HB2.out) _) (Kd.O_alloc _ (Kd.O_ext HB2.out HO.out)))⟩, by simp [intOf]; omega⟩
        · have h0 : ¬ 0 < (ar cc).toNat := by
            intro h0
            apply h3
            by_cases hk3 : cc.k = 3
            · refine ⟨hk3, ?_⟩
              unfold ar at h0; rw [if_pos hk3] at h0; omega
            · unfold ar at h0; rw [if_neg hk3] at h0; exact absurd h0 (by decide)
          have HR3 := Lib.hid (show L (X ++ Z) ++ ((closeB op).1 ++ R (closeB op).2 (t.drop (k + 1))) = txt t by
            have := HR2.out
            rwa [if_neg h0] at this)
          have e3 : (cc.k == 3) = false ∨ ((cc.k == 3) = true ∧ decide (0 < cc.n) = false) := by
            by_cases hk3 : cc.k = 3
            · exact .inr ⟨beq_iff_eq.2 hk3, decide_eq_false (fun h => h3 ⟨hk3, h⟩)⟩
            · exact .inl (beq_eq_false_iff_ne.2 hk3)
          clear h3 h0 HR2 hrr
          rcases e3 with e3 | ⟨e3, e4⟩
          all_goals
            go_wp2_with (go_at_call 48; (with_reducible refine (HWd.out _).mono ?_); rintro e w2 ⟨rfl, hb2⟩; have HB2 := Lib.hid hb2; obtain ⟨y1, y2⟩ : w2.cell? (ad.add (k * 3)) = some (.int .i64 cc.k) ∧ w2.cell? ⟨(ad.add (k * 3)).block, (ad.add (k * 3)).off + 1, none⟩ = some (.int .i64 cc.n) := ⟨cell_keep hb2 x1, cell_keep hb2 x2⟩; clear hb2)
            go_loopg [3, 4] op.length (fun g v3 v4 wi => ∃ (op' : List Nat) (X' : ByteArray), v3 = .string X' ∧ op'.length = g ∧ X'.size + op'.length ≤ 10 * k + 8 ∧ Hid (L X' ++ ((closeB op').1 ++ R (closeB op').2 (t.drop (k + 1))) = txt t) ∧ Hid (∀ m ∈ op', 1 ≤ m ∧ m ≤ 3) ∧ Hid ((Kd.int .i64).O 3 wi w1.heap.size v4 (ints op')) ∧ Hid (Below w1.heap.size w1 wi))
            case atStart => exact ⟨op, X ++ Z, rfl, rfl, by rw [HXZ.out]; omega, HR3, HOp, Lib.hid (Kd.O_ext HB2.out HO.out), Lib.hid (bel_trans HBr.out HB2.out)⟩
            case round =>
              clear y1 y2 x1 x2 x3
              obtain ⟨op', X', rfl, hg, hX', HRi, HOpi, HOi, HBi⟩ := hrel
              match op', hg, hX', HRi, HOpi, HOi with
              | [], hg, hX', HRi, HOpi, HOi =>
                have HRn := Lib.hid (show L X' ++ R [] (t.drop (k + 1)) = txt t by have := HRi.out; simpa [closeB] using this)
                obtain ⟨OB, oc, rfl, o1, o2, -⟩ := Kd.O_read HOi.out
                go_wp2
                exact ⟨⟨k + 1, [], X', rfl, by go_num, by omega, by simp at hX' ⊢; omega, HRn, HOpi, HOi, HBi⟩, by simp [intOf]; omega⟩
              | m :: op2, hg, hX', HRi, HOpi, HOi =>
                rw [ints_cons] at HOi
                have hm := HOpi.out m List.mem_cons_self
                obtain ⟨OB, oc, rfl, o1, o2, -⟩ := Kd.O_read HOi.out
                obtain ⟨oa, cap, ev, ob, z1, z2, hput⟩ := int_put HOi.out (k := (ints op2).length) (x := (m : Int)) (by rw [List.getElem?_append_right (Nat.le_refl _)]; simp)
                have HP := Lib.hid hput
                injection ev with e1 e2 e3
                clear hput e2 e3 ob
                subst e1
                rw [List.length_append, List.length_singleton] at HOi HP o1 ⊢
                have hl2 := ints_len op2
                obtain ⟨n2, hn2⟩ : ∃ n, (ints op2).length = n := ⟨_, rfl⟩
                have HN2 := Lib.hid hn2
                rw [hn2] at HOi HP o1 hl2 z1 z2 ⊢
                have hop2 : op2.length = n2 := hl2.symm
                have HOP2 := Lib.hid hop2
                have hXb : X'.size + (n2 + 1) ≤ 10 * k + 8 := by rw [← hop2]; exact hX'
                clear hn2 hl2 hop2 hX'
                have HO3 := Lib.hid hm.2
                by_cases h1 : m = 1
                · subst h1
                  have z1' : wr.cell? (oa.add n2) = some (.int .i64 1) := z1
                  have HRn := Lib.hid (show L (X' ++ ⟨#[41]⟩) ++ ((closeB op2).1 ++ R (closeB op2).2 (t.drop (k + 1))) = txt t by
                    have := HRi.out
                    rw [closeB] at this
                    rw [L_append, List.append_assoc]; exact this)
                  have HT2 := Lib.hid (take_snoc' (ints op2) ((1 : Nat) : Int))
                  have Hg := Lib.hid hg
                  have HOpn := Lib.hid (fun j hj => HOpi.out j (List.mem_cons_of_mem _ hj))
                  clear z1 hg hm
                  go_wp2_with (refine wp_sub_own AppI.int rfl rfl HOi.out rfl rfl (by omega) (by rw [List.length_append, HN2.out, List.length_singleton]; omega) ?_; intro v9 hv9 hb9; rw [HT2.out _ (by rw [HN2.out]; omega)] at hv9; have HV9 := Lib.hid hv9; clear hv9 hb9)
                  go_roundg n2
                  case measure => have := Hg.out; rw [List.length_cons, HOP2.out] at this; omega
                  case rel => exact ⟨op2, X' ++ ⟨#[41]⟩, rfl, HOP2.out, by rw [ByteArray.size_append, HOP2.out]; show X'.size + 1 + n2 ≤ _; omega, HRn, HOpn, HV9, HBi⟩
                · obtain ⟨m', rfl⟩ : ∃ m', m = m' + 2 := ⟨m - 2, by omega⟩
                  have e5 : (((m' + 2 : Nat) : Int) == 1) = false := beq_eq_false_iff_ne.2 (by omega)
                  have HRn := Lib.hid (show L (X' ++ ⟨#[44]⟩) ++ R ((m' + 1) :: op2) (t.drop (k + 1)) = txt t by
                    have := HRi.out
                    rw [closeB] at this
                    rw [L_append, List.append_assoc]; exact this)
                  have hPn := (HP.out ((m' + 1 : Nat) : Int)).out
                  have hset : (ints op2 ++ [((m' + 2 : Nat) : Int)]).set n2 ((m' + 1 : Nat) : Int) = ints ((m' + 1) :: op2) := by
                    rw [ints_cons, List.set_append, if_neg (by rw [HN2.out]; omega), HN2.out, Nat.sub_self]; rfl
                  rw [hset] at hPn
                  have HPn := Lib.hid hPn
                  have HOpn := Lib.hid (show ∀ j ∈ (m' + 1) :: op2, 1 ≤ j ∧ j ≤ 3 from fun j hj => by
                    rcases List.mem_cons.1 hj with rfl | hj
                    · omega
                    · exact HOpi.out j (List.mem_cons_of_mem _ hj))
                  have hm3 : m' + 2 ≤ 3 := hm.2
                  obtain ⟨mi, hmi⟩ : ∃ mi : Int, ((m' + 2 : Nat) : Int) = mi := ⟨_, rfl⟩
                  have hmj : ((m' + 1 : Nat) : Int) = mi - 1 := by omega
                  have hmi3 : 2 ≤ mi ∧ mi ≤ 3 := by omega
                  rw [hmi] at z1 e5
                  rw [hmj] at HPn
                  clear h1 hPn hset hm hg hmi hmj
                  go_wp2
                  exact ⟨⟨k + 1, (m' + 1) :: op2, X' ++ ⟨#[44]⟩, rfl, by go_num, by omega, by rw [ByteArray.size_append, List.length_cons, HOP2.out]; show X'.size + 1 + (n2 + 1) ≤ _; omega, HRn, HOpn, Lib.hid HPn.out.1, Lib.hid (HBi.out.trans HPn.out.2.bel)⟩, by simp [intOf]; omega⟩
      · have HV := Lib.hid (show X = B (txt t) by
          have := HR.out
          rw [List.drop_of_length_le (by omega), R, List.append_nil] at this
          exact L_inj (by rw [L_B]; exact this))
        go_wp2
        go_ret
        exact ⟨ret_str HV.out, bel_trans HB.out HBr.out⟩
end Go.Proofs.YtjglbadkbhopoaaGreatDoor
namespace Go.Proofs.YtjglbadkbhopoaaGreatDoor
open Go.RowKit
set_option maxRecDepth 100000
set_option maxHeartbeats 8000000
set_option linter.unusedVariables false
theorem O_shape' {α : Type} {d : Kd α} {e b : Nat} {w : World} {v : Value} {t : List α} (h : d.O e w b v t) (hl : 1 ≤ t.length) : ∃ g cap, v = .slice (some ⟨g, 0, none⟩) t.length cap := by
  obtain ⟨cs, ⟨h0, h1⟩, h2⟩ := h
  rcases h1 with ⟨rfl, hn⟩ | ⟨g, cap, cur, rfl, _⟩
  · omega
  · exact ⟨g, cap, rfl⟩
theorem int_at0 {e b gp n cap k : Nat} {w : World} {op : List Int} {x : Int} (h : (Kd.int .i64).O e w b (.slice (some ⟨gp, 0, none⟩) n cap) op) (hk : op[k]? = some x) : w.cell? ⟨gp, k, none⟩ = some (.int .i64 x) := by
  obtain ⟨A, c', ev, _, _, hC⟩ := Kd.O_read h
  injection ev with e1 _ _
  obtain ⟨ad', ea, h1⟩ := int_at hC hk
  rw [← e1] at ea
  injection ea with ea
  subst ea
  have ea0 : (⟨gp, 0, none⟩ : Addr).add k = ⟨gp, k, none⟩ := by unfold Addr.add; split <;> simp_all
  rwa [ea0] at h1
theorem read_c (s : ByteArray) (w : World) (hs : s.size ≤ 1000000) :
    Calls Tryz.prog 69 #[.string s] w fun e w' => ∃ v t ok, e = .returned (.tuple #[v, .bool ok]) ∧ Kd.cell.S 47 w' v t ∧ t.length ≤ 40 ∧ (∀ c ∈ t, c.s.size ≤ 1000000) ∧ Below w.heap.size w w' := by
  have HO0 := Lib.hid (Kd.O_alloc (.cells #[] 3) (Kd.O_empty Kd.cell 47 w (Nat.le_refl _)))
  have HP0 := Lib.hid (O_empty_at (Kd.int .i64) 3 (w.alloc (.cells #[] 47)) (g := w.heap.size + 1) (base := w.heap.size) (by rw [size_alloc]) (by rw [size_alloc]; omega))
  have HB0 := Lib.hid (bel_alloc (bel_alloc (Below.refl w.heap.size w) (.cells #[] 47)) (.cells #[] 3))
  have HTk := Lib.hid (fun a (ha : a ≤ s.size) W => take_c s a W (by omega) ha)
  go_enter Tryz.func69, Tryz.ntmps69
  go_wp2
  go_loopw [4, 5, 6] (fun v4 v5 v6 wr => ∃ (L : Trm) (op : List Int) (a : Nat) (OA : Option Addr) (oc : Nat) (PA : Option Addr) (pc : Nat), v4 = .slice OA L.length oc ∧ v5 = .slice PA op.length pc ∧ v6 = .int .i64 (a : Int) ∧ a ≤ s.size ∧ L.length ≤ 40 ∧ op.length ≤ a ∧ Hid (Kd.cell.O 47 wr w.heap.size (.slice OA L.length oc) L) ∧ Hid ((Kd.int .i64).O 3 wr w.heap.size (.slice PA op.length pc) op) ∧ Hid (∀ x ∈ op, 0 ≤ x ∧ x < (L.length : Int)) ∧ Hid (∀ c ∈ L, c.s.size ≤ 1000000) ∧ Hid (Below w.heap.size w wr)) (fun _ _ v6 _ => s.size - (intOf v6).toNat)
  case atStart => exact ⟨[], [], 0, _, _, _, _, rfl, rfl, rfl, Nat.zero_le _, Nat.zero_le _, Nat.zero_le _, HO0, HP0, Lib.hid (fun x hx => by cases hx), Lib.hid (fun c hc => by cases hc), HB0⟩
  case round =>
    obtain ⟨L, op, a, OA, oc, PA, pc, rfl, rfl, rfl, ha, hL, hop, HOr, HPr, HMr, HSr, HBr⟩ := hrel
    clear HO0 HP0 HB0
    have HTx := Lib.hid (textS_c L (.slice OA L.length oc) wr (Kd.O_read HOr.out) (by omega))
    by_cases hgo : ¬ (a < s.size ∧ L.length < 40)
    · obtain ⟨Z, hZ⟩ : ∃ Z, B (if trmOk L then txt L else []) = Z := ⟨_, rfl⟩
      rw [hZ] at HTx
      have hcase : s.size ≤ a ∨ (a < s.size ∧ 40 ≤ L.length) := by omega
      rcases hcase with hc | ⟨hc1, hc2⟩
      all_goals
        by_cases hne : Z = s
        · subst hne
          by_cases he : Z.size = 0
          · obtain rfl : Z = ⟨#[]⟩ := ByteArray.ext (Array.eq_empty_of_size_eq_zero he)
            go_wp2_with (first | (go_at_call 18; (with_reducible refine HTx.out.mono ?_); rintro e w1 ⟨rfl, hb'⟩; have HBz := Lib.hid (bel_trans HBr.out hb'); clear hb') | fail)
            first
            | done
            | (go_ret2
               exact ⟨_, [], _, rfl, S_zero Kd.cell _ _ _ _ (Nat.zero_le _), Nat.zero_le _, (fun c hc => by cases hc), bel_alloc HBz.out _⟩)
          · have e1 : (Z.toList == Z.toList) = true := beq_self_eq_true _
            have e2 : (Z.toList == []) = false := by rw [Lib.toList_data]; exact beq_eq_false_iff_ne.2 (fun e => he (by have := congrArg List.length e; simpa using this))
            go_wp2_with (first | (go_at_call 18; (with_reducible refine HTx.out.mono ?_); rintro e w1 ⟨rfl, hb'⟩; have HBz := Lib.hid (bel_trans HBr.out hb'); have HOz := Lib.hid (Kd.S_ext hb' (Kd.O_read HOr.out)); clear hb') | fail)
            go_ret2
            exact ⟨_, L, _, rfl, HOz.out, hL, HSr.out, HBz.out⟩
        · have e1 : (Z.toList == s.toList) = false := by rw [Lib.toList_data, Lib.toList_data]; exact beq_eq_false_iff_ne.2 (fun e => hne (ByteArray.ext (Array.toList_inj.1 e)))
          go_wp2_with (first | (go_at_call 18; (with_reducible refine HTx.out.mono ?_); rintro e w1 ⟨rfl, hb'⟩; have HBz := Lib.hid (bel_trans HBr.out hb'); clear hb') | fail)
          go_ret2
          exact ⟨_, [], _, rfl, S_zero Kd.cell _ _ _ _ (Nat.zero_le _), Nat.zero_le _, (fun c hc => by cases hc), bel_alloc HBz.out _⟩
    obtain ⟨hg1, hg2⟩ : a < s.size ∧ L.length < 40 := by omega
    clear HTx hgo
    go_upto_region 6 with (first | (go_at_call 98; (with_reducible refine (HTk.out a ha _).mono ?_); rintro e w1 ⟨⟨ck, cn, cs⟩, k, rfl, hcs, hk, hb'⟩; have HCs := Lib.hid hcs; have HOt := Lib.hid (Kd.O_ext hb' HOr.out); have HNe := Lib.hid (show ∀ k, (Value.slice OA L.length oc).ownBlock = some k → k ≠ w1.heap.size from fun k hk => by have := (Kd.O_lt HOt.out k hk).2; omega); have HO1 := Lib.hid (Kd.O_alloc (.cells #[.int .i64 ck, .int .i64 cn, .string cs] 47) HOt.out); have HP1 := Lib.hid (Kd.O_alloc (.cells #[.int .i64 ck, .int .i64 cn, .string cs] 47) (Kd.O_ext hb' HPr.out)); have HB1 := Lib.hid (bel_alloc (bel_trans HBr.out hb') (.cells #[.int .i64 ck, .int .i64 cn, .string cs] 47)); have HX1 := Lib.hid (Bx.new w1 47 #[.int .i64 ck, .int .i64 cn, .string cs]); have hz1 : w.heap.size ≤ w1.heap.size := (bel_trans HBr.out hb').size; clear hcs hb') | fail)
    generalize w1.alloc (.cells #[.int .i64 ck, .int .i64 cn, .string cs] 47) = w2 at *
    clear HOr HPr HBr HOt
    have hgc : w1.heap.size < w2.heap.size := (Array.getElem?_eq_some_iff.1 HX1.out).1
    have x1_0 := Bx.at' HX1.out 0 (.int .i64 ck) rfl
    have x1_1 := Bx.at' HX1.out 1 (.int .i64 cn) rfl
    have x1_2 := Bx.at' HX1.out 2 (.string cs) rfl
    by_cases hka : k ≤ (a : Int)
    · go_wp2
      go_ret2
      exact ⟨_, [], _, rfl, S_zero Kd.cell _ _ _ _ (Nat.zero_le _), Nat.zero_le _, (fun c hc => by cases hc), bel_alloc HB1.out _⟩
    obtain ⟨kn, rfl⟩ : ∃ kn : Nat, k = kn := ⟨k.toNat, by omega⟩
    have hk1 : a < kn := by omega
    have hk2 : kn ≤ s.size := by omega
    clear hk
    by_cases ho0 : op.length = 0
    · have fo : decide ((0 : Int) < (op.length : Int)) = false := decide_eq_false (by omega)
      have fo2 : ¬ 0 < op.length := by omega
      have HSz := HSr
      clear ho0
      go_upto_region 12 with (first | (at_builtin; refine wp_app AppI.cell rfl rfl (Kd.O_alloc _ HO1.out) rfl (Kd.S_lit Kd.cell _ (x := (⟨ck, cn, cs⟩ : Cell)) (cs := [.int .i64 ck, .int .i64 cn, .string cs]) rfl rfl) rfl (by simp only [List.length_singleton]; omega) (Nat.le_trans HB1.out.size (bel_alloc (Below.refl _ _) _).size) ?_; intro v9 w9 hg; have hwg := Wrote.grew hg (Kd.O_alloc _ HO1.out) (Nat.le_trans HB1.out.size (bel_alloc (Below.refl _ _) _).size); have hO9 := hg.own; obtain ⟨L2, hL2⟩ : ∃ L2, L ++ [(⟨ck, cn, cs⟩ : Cell)] = L2 := ⟨_, rfl⟩; rw [hL2] at hO9; have HO9 := Lib.hid hO9; have HL2 := Lib.hid hL2; obtain ⟨OB, od, rfl, -, -, -⟩ := Kd.O_read hO9; have HP9 := Lib.hid (hwg.O (Kd.O_alloc _ HP1.out) (by decide)); have HB9 := Lib.hid ((bel_alloc HB1.out (.cells #[.int .i64 ck, .int .i64 cn, .string cs] 47)).trans hwg.bel); have HX9 := Lib.hid (show Bx w9 w1.heap.size 47 #[.int .i64 ck, .int .i64 cn, .string cs] from (hg.grown.block w1.heap.size (Nat.lt_of_lt_of_le (Array.getElem?_eq_some_iff.1 HX1.out).1 (bel_alloc (Below.refl _ _) _).size) (fun e => HNe.out _ e.symm rfl)).trans (Bx.alloc HX1.out (.cells #[.int .i64 ck, .int .i64 cn, .string cs] 47))); clear hg hwg hO9 hL2) | fail)
      have x9_0 := Bx.at' HX9.out 0 (.int .i64 ck) rfl
      have x9_1 := Bx.at' HX9.out 1 (.int .i64 cn) rfl
      have x9_2 := Bx.at' HX9.out 2 (.string cs) rfl
      have HLe := Lib.hid (show L2.length = L.length + 1 by rw [← HL2.out, List.length_append, List.length_singleton])
      have hl2a : 1 ≤ L2.length := by have := HLe.out; omega
      have hl2b : L2.length ≤ 40 := by have := HLe.out; omega
      have HS2 := Lib.hid (show ∀ c ∈ L2, c.s.size ≤ 1000000 from fun d hd => by
        rw [← HL2.out, List.mem_append, List.mem_singleton] at hd
        rcases hd with hd | rfl
        · exact HSz.out d hd
        · exact Nat.le_trans HCs.out hs)
      have HM2 := Lib.hid (show ∀ x ∈ op, 0 ≤ x ∧ x < (L2.length : Int) from fun x hx => by have := HMr.out x hx; have := HLe.out; omega)
      have hcase : (ck = 3 ∧ kn < s.size ∧ byt s kn = 40) ∨ ck ≠ 3 ∨ (ck = 3 ∧ s.size ≤ kn) ∨ (ck = 3 ∧ kn < s.size ∧ byt s kn ≠ 40) := by omega
      rcases hcase with ⟨rfl, h2, h3⟩ | hcase
      · have hy := byt_at s kn
        have f3 : (byt s kn == 40) = true := beq_iff_eq.2 h3
        go_wp2_with (first | (at_builtin; refine wp_app AppI.int rfl rfl (Kd.O_alloc _ HP9.out) rfl (Kd.S_lit (Kd.int .i64) _ (x := (L2.length : Int) - 1) (cs := [.int .i64 ((L2.length : Int) - 1)]) rfl rfl) rfl (by simp only [List.length_singleton]; omega) (Nat.le_trans HB9.out.size (bel_alloc (Below.refl _ _) _).size) ?_; intro v7 w7 hg; have hwg := Wrote.grew hg (Kd.O_alloc _ HP9.out) (Nat.le_trans HB9.out.size (bel_alloc (Below.refl _ _) _).size); have hO7 := hg.own; obtain ⟨q2, hq2⟩ : ∃ q2, op ++ [(L2.length : Int) - 1] = q2 := ⟨_, rfl⟩; rw [hq2] at hO7; have HP7 := Lib.hid hO7; have HQ2 := Lib.hid hq2; obtain ⟨PB, pd, rfl, -, -, -⟩ := Kd.O_read hO7; have HO7 := Lib.hid (hwg.O (Kd.O_alloc _ HO9.out) (by decide)); have HB7 := Lib.hid ((bel_alloc HB9.out (.cells #[.int .i64 ((L2.length : Int) - 1)] 3)).trans hwg.bel); clear hg hwg hO7 hq2) | fail)
        have hq : q2.length = op.length + 1 := by rw [← HQ2.out, List.length_append, List.length_singleton]
        exact ⟨⟨L2, q2, kn + 1, OB, od, PB, pd, rfl, rfl, by go_num, by omega, by omega, by omega, HO7, HP7, Lib.hid (fun x hx => by
          rw [← HQ2.out, List.mem_append, List.mem_singleton] at hx
          rcases hx with hx | rfl
          · exact HM2.out x hx
          · omega), HS2, HB7⟩, by simp [intOf]; omega⟩
      rcases hcase with h1 | ⟨rfl, h2⟩ | ⟨rfl, h2, h3⟩
      all_goals
        try have hy := byt_at s kn
        try have f3 : (byt s kn == 40) = false := beq_eq_false_iff_ne.2 h3
        try have f1 : (ck == 3) = false := beq_eq_false_iff_ne.2 h1
        go_wp2
        go_loopw [5, 6] (fun v5 v6 ws => ∃ (q : List Int) (a2 : Nat) (PB : Option Addr) (pd : Nat), v5 = .slice PB q.length pd ∧ v6 = .int .i64 (a2 : Int) ∧ kn ≤ a2 ∧ a2 ≤ s.size ∧ q.length ≤ op.length ∧ Hid ((Kd.int .i64).O 3 ws w.heap.size (.slice PB q.length pd) q) ∧ Hid (∀ x ∈ q, 0 ≤ x ∧ x < (L2.length : Int)) ∧ Hid (Kd.cell.O 47 ws w.heap.size (.slice OB L2.length od) L2) ∧ Hid (Below w.heap.size w ws)) (fun _ v6 _ => s.size - (intOf v6).toNat)
        case atStart => exact ⟨op, kn, PA, pc, rfl, rfl, Nat.le_refl _, hk2, Nat.le_refl _, HP9, HM2, HO9, HB9⟩
        case round =>
          obtain ⟨q, a2, PB, pd, rfl, rfl, hka2, ha2, hql, HPq, HMq, HOq, HBq⟩ := hrel
          clear HP9 HO9 HB9 HX9 x9_0 x9_1 x9_2 HP1 HO1 HB1 HX1 x1_0 x1_1 x1_2
          try clear hy
          try clear f3
          by_cases hlt : a2 < s.size
          · have hz := byt_at s a2
            by_cases h41 : byt s a2 = 41
            · have f41 : (byt s a2 == 41) = true := beq_iff_eq.2 h41
              have f44 : (byt s a2 == 44) = false := beq_eq_false_iff_ne.2 (by omega)
              by_cases hq0 : q.length = 0
              · have fq : decide ((0 : Int) < (q.length : Int)) = false := decide_eq_false (by omega)
                clear h41
                go_wp2
                exact ⟨⟨L2, q, a2, OB, od, PB, pd, rfl, rfl, by go_num, by omega, by omega, by omega, HOq, HPq, HMq, HS2, HBq⟩, by simp [intOf]; omega⟩
              have fq : decide ((0 : Int) < (q.length : Int)) = true := decide_eq_true (by omega)
              clear h41
              go_wp2_with (first | (refine wp_sub_own AppI.int rfl rfl HPq.out rfl rfl (by omega) (by omega) ?_; intro v8 hv8 hb8; have HQ8 := Lib.hid (show v8 = v8 ∧ (Kd.int .i64).O 3 _ w.heap.size v8 (q.take (q.length - 1)) from ⟨rfl, by rw [show q.length - 1 = ((q.length : Int) - 1).toNat by omega]; exact hv8⟩); obtain ⟨Q8, hQ8⟩ : ∃ Q8, q.take (q.length - 1) = Q8 := ⟨_, rfl⟩; rw [hQ8] at HQ8; have HQe := Lib.hid hQ8; clear hQ8; obtain ⟨PC, pe, rfl, -, -, -⟩ := Kd.O_read HQ8.out.2; clear hv8 hb8) | fail)
              all_goals
                have hq8 : Q8.length = q.length - 1 := by rw [← HQe.out, List.length_take]; omega
                exact ⟨⟨Q8, a2 + 1, PC, pe, rfl, by go_num, by omega, by omega, by omega, Lib.hid HQ8.out.2, Lib.hid (fun x hx => HMq.out x (List.mem_of_mem_take (HQe.out ▸ hx))), HOq, HBq⟩, by simp [intOf]; omega⟩
            have f41 : (byt s a2 == 41) = false := beq_eq_false_iff_ne.2 h41
            clear h41
            by_cases h44 : byt s a2 = 44
            · have f44 : (byt s a2 == 44) = true := beq_iff_eq.2 h44
              clear h44
              go_wp2
              exact ⟨⟨L2, q, (a2 + 1), OB, od, PB, pd, rfl, rfl, by go_num, by omega, by omega, by omega, HOq, HPq, HMq, HS2, HBq⟩, by simp [intOf]; omega⟩
            have f44 : (byt s a2 == 44) = false := beq_eq_false_iff_ne.2 h44
            clear h44
            go_wp2
            exact ⟨⟨L2, q, a2, OB, od, PB, pd, rfl, rfl, by go_num, by omega, by omega, by omega, HOq, HPq, HMq, HS2, HBq⟩, by simp [intOf]; omega⟩
          · go_wp2
            exact ⟨⟨L2, q, a2, OB, od, PB, pd, rfl, rfl, by go_num, by omega, by omega, by omega, HOq, HPq, HMq, HS2, HBq⟩, by simp [intOf]; omega⟩
    have fo : decide ((0 : Int) < (op.length : Int)) = true := decide_eq_true (by omega)
    have fo2 : 0 < op.length := by omega
    obtain ⟨m, hm⟩ : ∃ m, op.length = m + 1 := ⟨op.length - 1, by omega⟩
    obtain ⟨xo, hxo⟩ : ∃ x, op[m]? = some x := ⟨_, List.getElem?_eq_getElem (by omega)⟩
    have hxm := HMr.out xo (List.mem_of_getElem? hxo)
    obtain ⟨xi, rfl⟩ : ∃ xi : Nat, xo = xi := ⟨xo.toNat, by omega⟩
    obtain ⟨gp, pc', ep⟩ := O_shape' HP1.out (by omega)
    injection ep with e1 _ e3
    subst e1
    have px := int_at0 HP1.out hxo
    obtain ⟨gx, oc', eo⟩ := O_shape' HO1.out (by omega)
    injection eo with e4 _ e6
    subst e4
    obtain ⟨d, hd⟩ : ∃ d, L[xi]? = some d := ⟨_, List.getElem?_eq_getElem (by omega)⟩
    have HPt := Lib.hid (cell_put1 HO1.out hd)
    obtain ⟨hgx, z0, z1, z2, zf, -⟩ := HPt.out
    have zf1 := zf 1 (by decide)
    have hxI : (xi : Int) < (L.length : Int) := hxm.2
    have hx0 : (0 : Int) ≤ (xi : Int) := by omega
    have hmI : (m : Int) < (op.length : Int) := by omega
    have hm0 : (0 : Int) ≤ (m : Int) := by omega
    have hwm : IntKind.i64.wrap ((op.length : Int) - 1) = (m : Int) := by rw [show (op.length : Int) - 1 = (m : Int) by omega]; exact IntWalk.i64_in _ (by omega)
    obtain ⟨zz, hzz⟩ : ∃ zz, IntKind.i64.wrap (d.n + 1) = zz := ⟨_, rfl⟩
    have hcd := HSr.out d (List.mem_of_getElem? hd)
    clear hm hxo hxm e3 e6 zf z0 z2
    go_upto_region 9 with (fail)
    go_region
    have hw3 := own_put HO1.out hgx (xi * 3 + 1) (.int .i64 zz)
    have HO3 := Lib.hid (Kd.O_ext (bel_drew (Below.refl _ _)) (HPt.out.2.2.2.2.2 1 (by decide) (.int .i64 zz) ⟨d.k, zz, d.s⟩ rfl (fun cs hcs => by obtain rfl : cs = [.int .i64 d.k, .int .i64 d.n, .string d.s] := hcs; rfl)))
    have HP3 := Lib.hid (Kd.O_ext (bel_drew (Below.refl _ _)) (hw3.O HP1.out (by decide)))
    have HX3 := Lib.hid (Bx.below (Bx.far HX1.out (g' := gx) (fun e => HNe.out gx rfl e.symm) (xi * 3 + 1) (.int .i64 zz)) (bel_drew (Below.refl _ _)))
    have HB3 := Lib.hid (bel_trans (HB1.out.trans hw3.bel) (bel_drew (Below.refl _ _)))
    clear hw3 HPt HO1 HP1 HX1 HB1 x1_0 x1_1 x1_2 px z1 zf1 hzz hd hwm
    generalize (w2.setCell ⟨gx, xi * 3 + 1, none⟩ (.int .i64 zz)).drew = w3 at *
    obtain ⟨L', hL'⟩ : ∃ L', L.set xi (⟨d.k, zz, d.s⟩ : Cell) = L' := ⟨_, rfl⟩
    rw [hL'] at HO3
    have HLl := Lib.hid (show L'.length = L.length by rw [← hL', List.length_set])
    have hLb : L'.length ≤ 40 := by have := HLl.out; omega
    have HSz := Lib.hid (show ∀ c ∈ L', c.s.size ≤ 1000000 by rw [← hL']; exact sets_mem HSr.out xi hcd)
    clear hL'
    have x3_0 := Bx.at' HX3.out 0 (.int .i64 ck) rfl
    have x3_1 := Bx.at' HX3.out 1 (.int .i64 cn) rfl
    have x3_2 := Bx.at' HX3.out 2 (.string cs) rfl
    go_upto_region 12 with (first | (at_builtin; refine wp_app AppI.cell rfl rfl (Kd.O_alloc _ HO3.out) rfl (Kd.S_lit Kd.cell _ (x := (⟨ck, cn, cs⟩ : Cell)) (cs := [.int .i64 ck, .int .i64 cn, .string cs]) rfl rfl) rfl (by simp only [List.length_singleton]; omega) (Nat.le_trans HB3.out.size (bel_alloc (Below.refl _ _) _).size) ?_; intro v9 w9 hg; have hwg := Wrote.grew hg (Kd.O_alloc _ HO3.out) (Nat.le_trans HB3.out.size (bel_alloc (Below.refl _ _) _).size); have hO9 := hg.own; obtain ⟨L2, hL2⟩ : ∃ L2, L' ++ [(⟨ck, cn, cs⟩ : Cell)] = L2 := ⟨_, rfl⟩; rw [hL2] at hO9; have HO9 := Lib.hid hO9; have HL2 := Lib.hid hL2; obtain ⟨OB, od, rfl, -, -, -⟩ := Kd.O_read hO9; have HP9 := Lib.hid (hwg.O (Kd.O_alloc _ HP3.out) (by decide)); have HB9 := Lib.hid ((bel_alloc HB3.out (.cells #[.int .i64 ck, .int .i64 cn, .string cs] 47)).trans hwg.bel); have HX9 := Lib.hid (show Bx w9 w1.heap.size 47 #[.int .i64 ck, .int .i64 cn, .string cs] from (hg.grown.block w1.heap.size (Nat.lt_of_lt_of_le (Array.getElem?_eq_some_iff.1 HX3.out).1 (bel_alloc (Below.refl _ _) _).size) (fun e => HNe.out _ e.symm rfl)).trans (Bx.alloc HX3.out (.cells #[.int .i64 ck, .int .i64 cn, .string cs] 47))); clear hg hwg hO9 hL2) | fail)
    have x9_0 := Bx.at' HX9.out 0 (.int .i64 ck) rfl
    have x9_1 := Bx.at' HX9.out 1 (.int .i64 cn) rfl
    have x9_2 := Bx.at' HX9.out 2 (.string cs) rfl
    have HLe := Lib.hid (show L2.length = L.length + 1 by rw [← HL2.out, List.length_append, List.length_singleton]; have := HLl.out; omega)
    have hl2a : 1 ≤ L2.length := by have := HLe.out; omega
    have hl2b : L2.length ≤ 40 := by have := HLe.out; omega
    have HS2 := Lib.hid (show ∀ c ∈ L2, c.s.size ≤ 1000000 from fun d hd => by
      rw [← HL2.out, List.mem_append, List.mem_singleton] at hd
      rcases hd with hd | rfl
      · exact HSz.out d hd
      · exact Nat.le_trans HCs.out hs)
    have HM2 := Lib.hid (show ∀ x ∈ op, 0 ≤ x ∧ x < (L2.length : Int) from fun x hx => by have := HMr.out x hx; have := HLe.out; omega)
    have hcase : (ck = 3 ∧ kn < s.size ∧ byt s kn = 40) ∨ ck ≠ 3 ∨ (ck = 3 ∧ s.size ≤ kn) ∨ (ck = 3 ∧ kn < s.size ∧ byt s kn ≠ 40) := by omega
    rcases hcase with ⟨rfl, h2, h3⟩ | hcase
    · have hy := byt_at s kn
      have f3 : (byt s kn == 40) = true := beq_iff_eq.2 h3
      go_wp2_with (first | (at_builtin; refine wp_app AppI.int rfl rfl (Kd.O_alloc _ HP9.out) rfl (Kd.S_lit (Kd.int .i64) _ (x := (L2.length : Int) - 1) (cs := [.int .i64 ((L2.length : Int) - 1)]) rfl rfl) rfl (by simp only [List.length_singleton]; omega) (Nat.le_trans HB9.out.size (bel_alloc (Below.refl _ _) _).size) ?_; intro v7 w7 hg; have hwg := Wrote.grew hg (Kd.O_alloc _ HP9.out) (Nat.le_trans HB9.out.size (bel_alloc (Below.refl _ _) _).size); have hO7 := hg.own; obtain ⟨q2, hq2⟩ : ∃ q2, op ++ [(L2.length : Int) - 1] = q2 := ⟨_, rfl⟩; rw [hq2] at hO7; have HP7 := Lib.hid hO7; have HQ2 := Lib.hid hq2; obtain ⟨PB, pd, rfl, -, -, -⟩ := Kd.O_read hO7; have HO7 := Lib.hid (hwg.O (Kd.O_alloc _ HO9.out) (by decide)); have HB7 := Lib.hid ((bel_alloc HB9.out (.cells #[.int .i64 ((L2.length : Int) - 1)] 3)).trans hwg.bel); clear hg hwg hO7 hq2) | fail)
      have hq : q2.length = op.length + 1 := by rw [← HQ2.out, List.length_append, List.length_singleton]
      exact ⟨⟨L2, q2, kn + 1, OB, od, PB, pd, rfl, rfl, by go_num, by omega, by omega, by omega, HO7, HP7, Lib.hid (fun x hx => by
        rw [← HQ2.out, List.mem_append, List.mem_singleton] at hx
        rcases hx with hx | rfl
        · exact HM2.out x hx
        · omega), HS2, HB7⟩, by simp [intOf]; omega⟩
    rcases hcase with h1 | ⟨rfl, h2⟩ | ⟨rfl, h2, h3⟩
    all_goals
      try have hy := byt_at s kn
      try have f3 : (byt s kn == 40) = false := beq_eq_false_iff_ne.2 h3
      try have f1 : (ck == 3) = false := beq_eq_false_iff_ne.2 h1
      go_wp2
      go_loopw [5, 6] (fun v5 v6 ws => ∃ (q : List Int) (a2 : Nat) (PB : Option Addr) (pd : Nat), v5 = .slice PB q.length pd ∧ v6 = .int .i64 (a2 : Int) ∧ kn ≤ a2 ∧ a2 ≤ s.size ∧ q.length ≤ op.length ∧ Hid ((Kd.int .i64).O 3 ws w.heap.size (.slice PB q.length pd) q) ∧ Hid (∀ x ∈ q, 0 ≤ x ∧ x < (L2.length : Int)) ∧ Hid (Kd.cell.O 47 ws w.heap.size (.slice OB L2.length od) L2) ∧ Hid (Below w.heap.size w ws)) (fun _ v6 _ => s.size - (intOf v6).toNat)
      case atStart => exact ⟨op, kn, _, pc, rfl, rfl, Nat.le_refl _, hk2, Nat.le_refl _, HP9, HM2, HO9, HB9⟩
      case round =>
        obtain ⟨q, a2, PB, pd, rfl, rfl, hka2, ha2, hql, HPq, HMq, HOq, HBq⟩ := hrel
        clear HP9 HO9 HB9 HX9 x9_0 x9_1 x9_2 HP3 HO3 HB3 HX3 x3_0 x3_1 x3_2
        try clear hy
        try clear f3
        by_cases hlt : a2 < s.size
        · have hz := byt_at s a2
          by_cases h41 : byt s a2 = 41
          · have f41 : (byt s a2 == 41) = true := beq_iff_eq.2 h41
            have f44 : (byt s a2 == 44) = false := beq_eq_false_iff_ne.2 (by omega)
            by_cases hq0 : q.length = 0
            · have fq : decide ((0 : Int) < (q.length : Int)) = false := decide_eq_false (by omega)
              clear h41
              go_wp2
              exact ⟨⟨L2, q, a2, OB, od, PB, pd, rfl, rfl, by go_num, by omega, by omega, by omega, HOq, HPq, HMq, HS2, HBq⟩, by simp [intOf]; omega⟩
            have fq : decide ((0 : Int) < (q.length : Int)) = true := decide_eq_true (by omega)
            clear h41
            go_wp2_with (first | (refine wp_sub_own AppI.int rfl rfl HPq.out rfl rfl (by omega) (by omega) ?_; intro v8 hv8 hb8; have HQ8 := Lib.hid (show v8 = v8 ∧ (Kd.int .i64).O 3 _ w.heap.size v8 (q.take (q.length - 1)) from ⟨rfl, by rw [show q.length - 1 = ((q.length : Int) - 1).toNat by omega]; exact hv8⟩); obtain ⟨Q8, hQ8⟩ : ∃ Q8, q.take (q.length - 1) = Q8 := ⟨_, rfl⟩; rw [hQ8] at HQ8; have HQe := Lib.hid hQ8; clear hQ8; obtain ⟨PC, pe, rfl, -, -, -⟩ := Kd.O_read HQ8.out.2; clear hv8 hb8) | fail)
            all_goals
              have hq8 : Q8.length = q.length - 1 := by rw [← HQe.out, List.length_take]; omega
              exact ⟨⟨Q8, a2 + 1, PC, pe, rfl, by go_num, by omega, by omega, by omega, Lib.hid HQ8.out.2, Lib.hid (fun x hx => HMq.out x (List.mem_of_mem_take (HQe.out ▸ hx))), HOq, HBq⟩, by simp [intOf]; omega⟩
          have f41 : (byt s a2 == 41) = false := beq_eq_false_iff_ne.2 h41
          clear h41
          by_cases h44 : byt s a2 = 44
          · have f44 : (byt s a2 == 44) = true := beq_iff_eq.2 h44
            clear h44
            go_wp2
            exact ⟨⟨L2, q, (a2 + 1), OB, od, PB, pd, rfl, rfl, by go_num, by omega, by omega, by omega, HOq, HPq, HMq, HS2, HBq⟩, by simp [intOf]; omega⟩
          have f44 : (byt s a2 == 44) = false := beq_eq_false_iff_ne.2 h44
          clear h44
          go_wp2
          exact ⟨⟨L2, q, a2, OB, od, PB, pd, rfl, rfl, by go_num, by omega, by omega, by omega, HOq, HPq, HMq, HS2, HBq⟩, by simp [intOf]; omega⟩
        · go_wp2
          exact ⟨⟨L2, q, a2, OB, od, PB, pd, rfl, rfl, by go_num, by omega, by omega, by omega, HOq, HPq, HMq, HS2, HBq⟩, by simp [intOf]; omega⟩
end Go.Proofs.YtjglbadkbhopoaaGreatDoor
