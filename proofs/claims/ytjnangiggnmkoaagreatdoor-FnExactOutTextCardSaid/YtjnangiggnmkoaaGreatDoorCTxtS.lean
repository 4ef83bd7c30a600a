/- Contracts: the reference's text of a term. -/
import Derived.Test.YtjnangiggnmkoaaGreatDoorCOutS
import Derived.Test.YtjnangiggnmkoaaGreatDoorTxt
namespace Go.Proofs.YtjnangiggnmkoaaGreatDoor
open Go.RowKit
set_option maxRecDepth 100000
set_option maxHeartbeats 2000000
set_option linter.unusedVariables false
theorem B_cons (b : UInt8) (l : Bs) : B (b :: l) = (⟨#[b]⟩ : ByteArray) ++ B l := L_inj (by rw [L_append, L_B, L_B]; rfl)
theorem word_c (c : Cell) (w : World) (h : cellOk c = true) : Calls Tryz.prog 35 #[.agg #[.int .i64 c.k, .int .i64 c.n, .string c.s]] w fun e w' => e = .returned (.string (B (wordB c))) ∧ Below w.heap.size w w' := by
  have hn := cellOk_n' h
  rcases cellOk_k h with h1 | h1 | h1
  · have e1 : (c.k == 1) = true := beq_iff_eq.2 h1
    have h0 := (cellOk_var h h1).2.1
    have hlen := dec_len5' (u := c.n.toNat) (by omega)
    have HV := Lib.hid (show B (wordB c) = (⟨#[88]⟩ : ByteArray) ++ B (Lib.decDigits c.n.toNat) by
      rw [← B_cons]; unfold wordB Lib.itoa; rw [if_pos h1, if_neg (by omega)])
    have HP := Lib.hid (fun W => plain_c c.n.toNat W (by omega))
    rw [Int.toNat_of_nonneg h0] at HP
    have hz : (B (Lib.decDigits c.n.toNat)).size ≤ 5 := by rw [size_B]; exact hlen
    obtain ⟨Z, hZ⟩ : ∃ Z, B (Lib.decDigits c.n.toNat) = Z := ⟨_, rfl⟩
    rw [hZ] at HP HV hz
    clear h1 hZ hlen h
    go_enter Tryz.func35, Tryz.ntmps35
    go_wp2_with (go_at_call 66; (with_reducible refine (HP.out _).mono ?_); rintro e w1 ⟨rfl, hb⟩)
    go_ret
    exact ⟨ret_str HV.out.symm, bel_trans (bel_alloc (Below.refl _ _) _) hb⟩
  · have e0 : (c.k == 1) = false := beq_eq_false_iff_ne.2 (by omega)
    have e1 : (c.k == 2) = true := beq_iff_eq.2 h1
    by_cases h0 : c.n < 0
    · have hlen := dec_len5' (u := c.n.natAbs) (by omega)
      have HV := Lib.hid (show B (wordB c) = (⟨#[45]⟩ : ByteArray) ++ B (Lib.decDigits c.n.natAbs) by
        rw [← B_cons]; unfold wordB Lib.itoa; rw [if_neg (by omega), if_pos h1, if_pos h0])
      have HP := Lib.hid (fun W => plain_c c.n.natAbs W (by omega))
      rw [show ((c.n.natAbs : Nat) : Int) = -c.n by omega] at HP
      have hz : (B (Lib.decDigits c.n.natAbs)).size ≤ 5 := by rw [size_B]; exact hlen
      obtain ⟨Z, hZ⟩ : ∃ Z, B (Lib.decDigits c.n.natAbs) = Z := ⟨_, rfl⟩
      rw [hZ] at HP HV hz
      clear h1 hZ hlen h
      go_enter Tryz.func35, Tryz.ntmps35
      go_wp2_with (go_at_call 66; (with_reducible refine (HP.out _).mono ?_); rintro e w1 ⟨rfl, hb⟩)
      go_ret
      exact ⟨ret_str HV.out.symm, bel_trans (bel_alloc (Below.refl _ _) _) hb⟩
    · have HV := Lib.hid (show B (wordB c) = B (Lib.decDigits c.n.toNat) by unfold wordB Lib.itoa; rw [if_neg (by omega), if_pos h1, if_neg h0])
      have HP := Lib.hid (fun W => plain_c c.n.toNat W (by omega))
      rw [Int.toNat_of_nonneg (by omega)] at HP
      have hd : decide (c.n < 0) = false := decide_eq_false h0
      clear h1 h
      go_enter Tryz.func35, Tryz.ntmps35
      go_wp2_with (go_at_call 66; (with_reducible refine (HP.out _).mono ?_); rintro e w1 ⟨rfl, hb⟩)
      go_ret
      exact ⟨ret_str HV.out.symm, bel_trans (bel_alloc (Below.refl _ _) _) hb⟩
  · have e0 : (c.k == 1) = false := beq_eq_false_iff_ne.2 (by omega)
    have e1 : (c.k == 2) = false := beq_eq_false_iff_ne.2 (by omega)
    have HV := Lib.hid (show B (wordB c) = c.s by unfold wordB; rw [if_neg (by omega), if_neg (by omega), B_L])
    clear h1 h
    go_enter Tryz.func35, Tryz.ntmps35
    go_wp2
    go_ret
    exact ⟨ret_str HV.out.symm, bel_alloc (Below.refl _ _) _⟩
theorem int_put {base : Nat} {w : World} {v : Value} {D : List Int} (h : (Kd.int .i64).O 3 w base v D) {k : Nat} {x : Int} (hk : D[k]? = some x) :
    ∃ ad cap, v = .slice (some ad) D.length cap ∧ base ≤ ad.block ∧ w.cell? (ad.add k) = some (.int .i64 x) ∧ w.frozen? (ad.add k) = false ∧
      ∀ q, Hid ((Kd.int .i64).O 3 (w.setCell (ad.add k) (.int .i64 q)) base v (D.set k q) ∧ Wrote base 3 w (w.setCell (ad.add k) (.int .i64 q))) := by
  have hS := Kd.O_read h
  obtain ⟨ad, cap, hv, hb, hf, hp⟩ := Kd.O_put h (fun q hq => by simp [Kd.int] at hq) hk
  obtain ⟨A, c', ev, _, _, hC⟩ := hS
  obtain ⟨ad', ea, h1⟩ := int_at hC hk
  have hv' := hv
  rw [hv] at ev
  injection ev with e1 _ _
  rw [← e1] at ea
  injection ea with ea
  subst ea
  have hpath : ad.spot = none := by
    obtain ⟨cs, ⟨_, hx⟩, _⟩ := h
    rcases hx with ⟨rfl, _⟩ | ⟨g, cap', cur, rfl, _⟩
    · cases hv'
    · injection hv' with e _ _; injection e with e; rw [← e]
  have ez : (⟨(ad.add (k * (Kd.int .i64).sz)).block, (ad.add (k * (Kd.int .i64).sz)).off + 0, none⟩ : Addr) = ad.add k := by
    have : k * (Kd.int .i64).sz = k := by show k * 1 = k; omega
    rw [this]
    unfold Addr.add
    split
    · obtain ⟨b, o, p⟩ := ad; dsimp only at hpath; subst hpath; rfl
    · rfl
  refine ⟨ad, cap, hv, hb, h1, by have := hf 0 (by decide); rwa [ez] at this, fun q => Lib.hid ?_⟩
  obtain ⟨p1, p2⟩ := hp 0 (by decide) (.int .i64 q) q rfl (fun cs hcs => by obtain rfl : cs = [.int .i64 x] := hcs; rfl)
  rw [ez] at p1 p2
  exact ⟨p1, p2.below_put (by rw [add_block]; exact hb) (by
    have := World.block_lt_of_cell? w _ h1
    rw [add_block] at this
    omega)⟩
def ints (op : List Nat) : List Int := (op.map (fun n : Nat => (n : Int))).reverse
theorem ints_cons (m : Nat) (op : List Nat) : ints (m :: op) = ints op ++ [(m : Int)] := by unfold ints; rw [List.map_cons, List.reverse_cons]
theorem ints_len (op : List Nat) : (ints op).length = op.length := by unfold ints; rw [List.length_reverse, List.length_map]
theorem textS_c (t : Trm) (tv : Value) (w : World) (h : Kd.cell.S 47 w tv t) (hl : t.length ≤ 1000000000) :
    Calls Tryz.prog 19 #[tv] w fun e w' => e = .returned (.string (B (if trmOk t then txt t else []))) ∧ Below w.heap.size w w' := by
  have HT := Lib.hid (trmOkS_c t tv w h hl)
  cases hq : trmOk t with
  | false =>
    rw [hq] at HT
    clear h hq
    go_enter Tryz.func19, Tryz.ntmps19
    go_wp2_with (go_at_call 26; (with_reducible refine HT.out.mono ?_); rintro e w1 ⟨rfl, hb⟩)
    go_ret
    exact ⟨rfl, hb⟩
  | true =>
    rw [hq] at HT
    rw [if_pos rfl]
    have H := Lib.hid h
    obtain ⟨h1, h40, hall⟩ := trmOk_iff.1 hq
    have HA := Lib.hid (List.all_eq_true.1 hall)
    obtain ⟨A, c, rfl, a1, a2, -⟩ := h
    clear hq h1 hall
    go_enter Tryz.func19, Tryz.ntmps19
    go_wp2_with (go_at_call 26; (with_reducible refine HT.out.mono ?_); rintro e w1 ⟨rfl, hb⟩; have HB := Lib.hid hb; clear hb)
    have hw1 := Lib.hid HB.out.size
    go_loopw [3, 4, 5] (fun v3 v4 v5 wr => ∃ (k : Nat) (op : List Nat) (X : ByteArray), v3 = .string X ∧ v5 = .int .i64 k ∧ k ≤ t.length ∧ X.size + op.length ≤ 10 * k ∧ Hid (L X ++ R op (t.drop k) = txt t) ∧ Hid (∀ m ∈ op, 1 ≤ m ∧ m ≤ 3) ∧ Hid ((Kd.int .i64).O 3 wr w1.heap.size v4 (ints op)) ∧ Hid (Below w1.heap.size w1 wr)) (fun _ _ v5 _ => t.length - (intOf v5).toNat)
    case atStart => exact ⟨0, [], ⟨#[]⟩, rfl, rfl, Nat.zero_le _, by simp [ByteArray.size], Lib.hid (by simp [L, txt]), Lib.hid (fun m hm => by simp at hm), Lib.hid (Kd.O_empty _ _ w1 (Nat.le_refl _)), Lib.hid (bel_alloc (Below.refl _ _) _)⟩
    case round =>
      obtain ⟨k, op, X, rfl, rfl, hk, hX, HR, HOp, HO, HBr⟩ := hrel
      by_cases hlt : k < t.length
      · obtain ⟨cc, hc⟩ : ∃ cc, t[k]? = some cc := ⟨_, List.getElem?_eq_getElem hlt⟩
        obtain ⟨A', c', ev, _, _, hC⟩ := Kd.S_ext (bel_trans HB.out HBr.out) H.out
        injection ev with e1 e2 e3
        obtain ⟨ad, had, x1, x2, x3⟩ := cell_at hC hc
        have had2 := e1.trans had
        have hcok := HA.out cc (List.mem_of_getElem? hc)
        have hwl := word_len hcok
        have hcn := cellOk_n' hcok
        have HWd := Lib.hid (fun W => word_c cc W hcok)
        have hrr := ar_of_ok hcok
        have HR2 := Lib.hid (show L (X ++ B (wordB cc)) ++ (if 0 < (ar cc).toNat then 40 :: R ((ar cc).toNat :: op) (t.drop (k + 1)) else (closeB op).1 ++ R (closeB op).2 (t.drop (k + 1))) = txt t by
          have := HR.out
          rw [List.drop_eq_getElem_cons hlt, (List.getElem?_eq_some_iff.1 hc).2, R] at this
          rw [L_append, L_B, List.append_assoc]; exact this)
        have hwz : (B (wordB cc)).size ≤ 8 := by rw [size_B]; exact hwl
        obtain ⟨Z, hZ⟩ : ∃ Z, B (wordB cc) = Z := ⟨_, rfl⟩
        rw [hZ] at hwz HWd HR2
        have hXZ : (X ++ Z).size = X.size + Z.size := ByteArray.size_append
        have HXZ := Lib.hid hXZ
        clear hC e1 e2 e3 had hc hZ hwl HR hXZ
        subst had2
        by_cases h3 : cc.k = 3 ∧ 0 < cc.n
        · have e3 : (cc.k == 3) = true := beq_iff_eq.2 h3.1
          have e4 := h3.2
          have har : ar cc = cc.n := by unfold ar; rw [if_pos h3.1]
          obtain ⟨m, hm⟩ := Int.eq_ofNat_of_zero_le hrr.1
          have hm3 : m ≤ 3 := by omega
          have hm1 : 1 ≤ m := by omega
          have hxn : cc.n = (m : Int) := by rw [← har, hm]
          rw [hxn] at x2 HWd hcn e4
          have HR3 := Lib.hid (show L ((X ++ Z) ++ ⟨#[40]⟩) ++ R (m :: op) (t.drop (k + 1)) = txt t by
            have := HR2.out
            rw [hm, Int.toNat_natCast, if_pos (by omega)] at this
            rw [L_append, List.append_assoc]; exact this)
          clear h3 har hm hxn hrr HR2
          go_wp2_with (first | (go_at_call 35; (with_reducible refine (HWd.out _).mono ?_); rintro e w2 ⟨rfl, hb2⟩; have HB2 := Lib.hid hb2; obtain ⟨y1, y2⟩ : w2.cell? (ad.add (k * 3)) = some (.int .i64 cc.k) ∧ w2.cell? ⟨(ad.add (k * 3)).block, (ad.add (k * 3)).off + 1, none⟩ = some (.int .i64 (m : Int)) := ⟨cell_keep hb2 x1, cell_keep hb2 x2⟩; clear hb2)
                             | (at_builtin; refine wp_app AppI.int rfl rfl (Kd.O_alloc _ (Kd.O_ext HB2.out HO.out)) rfl (Kd.S_lit (Kd.int .i64) _ (x := (m : Int)) (cs := [.int .i64 (m : Int)]) rfl rfl) rfl ?c1 ?c2 ?_; (case c1 => rw [ints_len]; simp; omega); (case c2 => have h1 := HBr.out.size; have h2 := HB2.out.size; simp; omega); intro v8 w3 hg; have HG := Lib.hid hg; clear hg))
          exact ⟨⟨k + 1, m :: op, (X ++ Z) ++ ⟨#[40]⟩, rfl, by go_num, by omega, by rw [ByteArray.size_append, HXZ.out, List.length_cons]; show X.size + Z.size + 1 + (op.length + 1) ≤ _; omega, HR3, Lib.hid (fun j hj => by rcases List.mem_cons.1 hj with rfl | hj; exact ⟨hm1, hm3⟩; exact HOp.out j hj), Lib.hid (by rw [ints_cons]; exact HG.out.own), Lib.hid (HG.out.below (bel_alloc (bel_trans HBr.out HB2.out) _) (Kd.O_alloc _ (Kd.O_ext HB2.out HO.out)))⟩, by simp [intOf]; omega⟩
        · have h0 : ¬ 0 < (ar cc).toNat := by
            intro h0
            apply h3
            by_cases hk3 : cc.k = 3
            · refine ⟨hk3, ?_⟩
              unfold ar at h0; rw [if_pos hk3] at h0; omega
            · unfold ar at h0; rw [if_neg hk3] at h0; exact absurd h0 (by decide)
          have HR3 := Lib.hid (show L (X ++ Z) ++ ((closeB op).1 ++ R (closeB op).2 (t.drop (k + 1))) = txt t by
            have := HR2.out
            rwa [if_neg h0] at this)
          have e3 : (cc.k == 3) = false ∨ ((cc.k == 3) = true ∧ decide (0 < cc.n) = false) := by
            by_cases hk3 : cc.k = 3
            · exact .inr ⟨beq_iff_eq.2 hk3, decide_eq_false (fun h => h3 ⟨hk3, h⟩)⟩
            · exact .inl (beq_eq_false_iff_ne.2 hk3)
          clear h3 h0 HR2 hrr
          rcases e3 with e3 | ⟨e3, e4⟩
          all_goals
            go_wp2_with (go_at_call 35; (with_reducible refine (HWd.out _).mono ?_); rintro e w2 ⟨rfl, hb2⟩; have HB2 := Lib.hid hb2; obtain ⟨y1, y2⟩ : w2.cell? (ad.add (k * 3)) = some (.int .i64 cc.k) ∧ w2.cell? ⟨(ad.add (k * 3)).block, (ad.add (k * 3)).off + 1, none⟩ = some (.int .i64 cc.n) := ⟨cell_keep hb2 x1, cell_keep hb2 x2⟩; clear hb2)
            go_loopg [3, 4] op.length (fun g v3 v4 wi => ∃ (op' : List Nat) (X' : ByteArray), v3 = .string X' ∧ op'.length = g ∧ X'.size + op'.length ≤ 10 * k + 8 ∧ Hid (L X' ++ ((closeB op').1 ++ R (closeB op').2 (t.drop (k + 1))) = txt t) ∧ Hid (∀ m ∈ op', 1 ≤ m ∧ m ≤ 3) ∧ Hid ((Kd.int .i64).O 3 wi w1.heap.size v4 (ints op')) ∧ Hid (Below w1.heap.size w1 wi))
            case atStart => exact ⟨op, X ++ Z, rfl, rfl, by rw [HXZ.out]; omega, HR3, HOp, Lib.hid (Kd.O_ext HB2.out HO.out), Lib.hid (bel_trans HBr.out HB2.out)⟩
            case round =>
              clear y1 y2 x1 x2 x3
              obtain ⟨op', X', rfl, hg, hX', HRi, HOpi, HOi, HBi⟩ := hrel
              match op', hg, hX', HRi, HOpi, HOi with
              | [], hg, hX', HRi, HOpi, HOi =>
                have HRn := Lib.hid (show L X' ++ R [] (t.drop (k + 1)) = txt t by have := HRi.out; simpa [closeB] using this)
                obtain ⟨OB, oc, rfl, o1, o2, -⟩ := Kd.O_read HOi.out
                go_wp2
                exact ⟨⟨k + 1, [], X', rfl, by go_num, by omega, by simp at hX' ⊢; omega, HRn, HOpi, HOi, HBi⟩, by simp [intOf]; omega⟩
              | m :: op2, hg, hX', HRi, HOpi, HOi =>
                rw [ints_cons] at HOi
                have hm := HOpi.out m List.mem_cons_self
                obtain ⟨OB, oc, rfl, o1, o2, -⟩ := Kd.O_read HOi.out
                obtain ⟨oa, cap, ev, ob, z1, z2, hput⟩ := int_put HOi.out (k := (ints op2).length) (x := (m : Int)) (by rw [List.getElem?_append_right (Nat.le_refl _)]; simp)
                have HP := Lib.hid hput
                injection ev with e1 e2 e3
                clear hput e2 e3 ob
                subst e1
                rw [List.length_append, List.length_singleton] at HOi HP o1 ⊢
                have hl2 := ints_len op2
                obtain ⟨n2, hn2⟩ : ∃ n, (ints op2).length = n := ⟨_, rfl⟩
                have HN2 := Lib.hid hn2
                rw [hn2] at HOi HP o1 hl2 z1 z2 ⊢
                have hop2 : op2.length = n2 := hl2.symm
                have HOP2 := Lib.hid hop2
                have hXb : X'.size + (n2 + 1) ≤ 10 * k + 8 := by rw [← hop2]; exact hX'
                clear hn2 hl2 hop2 hX'
                have HO3 := Lib.hid hm.2
                by_cases h1 : m = 1
                · subst h1
                  have z1' : wr.cell? (oa.add n2) = some (.int .i64 1) := z1
                  have HRn := Lib.hid (show L (X' ++ ⟨#[41]⟩) ++ ((closeB op2).1 ++ R (closeB op2).2 (t.drop (k + 1))) = txt t by
                    have := HRi.out
                    rw [closeB] at this
                    rw [L_append, List.append_assoc]; exact this)
                  have HT2 := Lib.hid (take_snoc' (ints op2) ((1 : Nat) : Int))
                  have Hg := Lib.hid hg
                  have HOpn := Lib.hid (fun j hj => HOpi.out j (List.mem_cons_of_mem _ hj))
                  clear z1 hg hm
                  go_wp2_with (refine wp_sub_own AppI.int rfl rfl HOi.out rfl rfl (by omega) (by rw [List.length_append, HN2.out, List.length_singleton]; omega) ?_; intro v9 hv9 hb9; rw [HT2.out _ (by rw [HN2.out]; omega)] at hv9; have HV9 := Lib.hid hv9; clear hv9 hb9)
                  go_roundg n2
                  case measure => have := Hg.out; rw [List.length_cons, HOP2.out] at this; omega
                  case rel => exact ⟨op2, X' ++ ⟨#[41]⟩, rfl, HOP2.out, by rw [ByteArray.size_append, HOP2.out]; show X'.size + 1 + n2 ≤ _; omega, HRn, HOpn, HV9, HBi⟩
                · obtain ⟨m', rfl⟩ : ∃ m', m = m' + 2 := ⟨m - 2, by omega⟩
                  have e5 : (((m' + 2 : Nat) : Int) == 1) = false := beq_eq_false_iff_ne.2 (by omega)
                  have HRn := Lib.hid (show L (X' ++ ⟨#[44]⟩) ++ R ((m' + 1) :: op2) (t.drop (k + 1)) = txt t by
                    have := HRi.out
                    rw [closeB] at this
                    rw [L_append, List.append_assoc]; exact this)
                  have hPn := (HP.out ((m' + 1 : Nat) : Int)).out
                  have hset : (ints op2 ++ [((m' + 2 : Nat) : Int)]).set n2 ((m' + 1 : Nat) : Int) = ints ((m' + 1) :: op2) := by
                    rw [ints_cons, List.set_append, if_neg (by rw [HN2.out]; omega), HN2.out, Nat.sub_self]; rfl
                  rw [hset] at hPn
                  have HPn := Lib.hid hPn
                  have HOpn := Lib.hid (show ∀ j ∈ (m' + 1) :: op2, 1 ≤ j ∧ j ≤ 3 from fun j hj => by
                    rcases List.mem_cons.1 hj with rfl | hj
                    · omega
                    · exact HOpi.out j (List.mem_cons_of_mem _ hj))
                  have hm3 : m' + 2 ≤ 3 := hm.2
                  obtain ⟨mi, hmi⟩ : ∃ mi : Int, ((m' + 2 : Nat) : Int) = mi := ⟨_, rfl⟩
                  have hmj : ((m' + 1 : Nat) : Int) = mi - 1 := by omega
                  have hmi3 : 2 ≤ mi ∧ mi ≤ 3 := by omega
                  rw [hmi] at z1 e5
                  rw [hmj] at HPn
                  clear h1 hPn hset hm hg hmi hmj
                  go_wp2
                  exact ⟨⟨k + 1, (m' + 1) :: op2, X' ++ ⟨#[44]⟩, rfl, by go_num, by omega, by rw [ByteArray.size_append, List.length_cons, HOP2.out]; show X'.size + 1 + (n2 + 1) ≤ _; omega, HRn, HOpn, Lib.hid HPn.out.1, Lib.hid (HBi.out.trans HPn.out.2.bel)⟩, by simp [intOf]; omega⟩
      · have HV := Lib.hid (show X = B (txt t) by
          have := HR.out
          rw [List.drop_of_length_le (by omega), R, List.append_nil] at this
          exact L_inj (by rw [L_B]; exact this))
        go_wp2
        go_ret
        exact ⟨ret_str HV.out, bel_trans HB.out HBr.out⟩
end Go.Proofs.YtjnangiggnmkoaaGreatDoor
