/- Lemmas and contracts for FnExactWldOk, part 7. -/
import Derived.Test.YtdoggcfdfkkedaaGreatDoorW06
import Derived.Maps.Own
import Derived.Maps.OwnOps
import Derived.Maps.OwnSet
import Derived.Maps.Views
import Derived.ArgAppend
import Derived.BigQuiet
import Derived.Test.YtdoggcfdfkkedaaGreatDoorW00
import Derived.Test.YtdoggcfdfkkedaaGreatDoorW04
namespace Go.Proofs.YtdoggcfdfkkedaaGreatDoor
open Go.RowKit
set_option maxRecDepth 100000
set_option maxHeartbeats 2000000
set_option linter.unusedVariables false
theorem getI_old0 {w0 w : World} (s : Binds) (A : Option Addr) (c : Nat) (v : Int) (h : Kd.bind.C 216 w0 A s) (hb : Below w0.heap.size w0 w) (hl : s.length ≤ 1000000000) (hnd : (s.map (·.1)).Nodup) (hg : getB s v = none) :
    Calls Tryz.prog 171 #[.slice A s.length c, .int .i64 v] w fun e w' => e = .returned (.slice none 0 0) ∧ Below w.heap.size w w' := by
  refine (getI_c2 s A c v w (Kd.C_ext hb h) hl hnd).mono ?_
  rintro e w' ⟨r, rfl, h2, h3⟩
  rw [hg] at h3
  exact ⟨by rw [show r = .slice none 0 0 from h3], h2⟩
theorem getI_old1 {w0 w : World} (s : Binds) (A : Option Addr) (c : Nat) (v : Int) (t : Trm) (h : Kd.bind.C 216 w0 A s) (hb : Below w0.heap.size w0 w) (hl : s.length ≤ 1000000000) (hnd : (s.map (·.1)).Nodup) (hg : getB s v = some t) :
    Calls Tryz.prog 171 #[.slice A s.length c, .int .i64 v] w fun e w' => ∃ r, e = .returned r ∧ Kd.cell.S 112 w0 r t ∧ Below w.heap.size w w' := by
  refine (getI_c2 s A c v w (Kd.C_ext hb h) hl hnd).mono ?_
  rintro e w' ⟨r, rfl, h2, h3⟩
  rw [hg] at h3
  obtain ⟨-, ad, j, hA, hc, b, hj, hbt⟩ := h3
  obtain ⟨ad', B', c', hA', -, hc', q1, q2, hC⟩ := bind_at h hj
  rw [hA] at hA'
  injection hA' with hA'
  subst hA'
  have hk := cell_keep hb hc'
  rw [hc] at hk
  have hr := Option.some.inj hk
  subst hbt
  exact ⟨r, rfl, ⟨B', c', hr, q1, q2, hC⟩, h2⟩
def FillPost (w0 : World) (D o : Trm) (e : Ending) (w' : World) : Prop := ∃ v D', e = .returned v ∧ Kd.cell.O 112 w' w0.heap.size v D' ∧ Below w0.heap.size w0 w' ∧ D'.length ≤ 41 ∧ (D' = D ++ o ∨ (40 < D'.length ∧ 40 < (D ++ o).length))
theorem FillPost.mk' {w0 w' : World} {D o D' : Trm} {v : Value} (hO : Kd.cell.O 112 w' w0.heap.size v D') (hb : Below w0.heap.size w0 w') (hl : D'.length ≤ 41) (h : D' = D ++ o ∨ (40 < D'.length ∧ 40 < (D ++ o).length)) : FillPost w0 D o (.returned v) w' := ⟨v, D', rfl, hO, hb, hl, h⟩
theorem fillI_c (w0 : World) (s : Binds) (A : Option Addr) (c : Nat) (h : Kd.bind.C 216 w0 A s) (hl : s.length ≤ 1000000000) (hnd : (s.map (·.1)).Nodup) (hu : ∀ v u, getB s v = some u → 0 < u.length ∧ u.length ≤ 40) :
    ∀ (N k : Nat) (t o D : Trm) (tv dv : Value) (w : World), k < N → Fl s t k o → Kd.cell.S 112 w0 tv t → t.length ≤ 40 → Kd.cell.O 112 w w0.heap.size dv D → Below w0.heap.size w0 w → D.length ≤ 41 →
    Calls Tryz.prog 181 #[.slice A s.length c, dv, tv] w (FillPost w0 D o) := by
  intro N
  induction N with
  | zero => intro k _ _ _ _ _ _ hk; omega
  | succ N ih =>
    intro k t o D tv dv w hk hF hS ht40 hO hb hD
    have IH := Lib.hid ih
    have HF := Lib.hid hF
    have HS := Lib.hid hS
    have HO := Lib.hid hO
    have HB := Lib.hid hb
    have Hk := Lib.hid hk
    have HU := Lib.hid hu
    have HDl := Lib.hid hD
    have HG0 := Lib.hid (fun v w hb hg => getI_old0 (w := w) s A c v h hb hl hnd hg)
    have HG1 := Lib.hid (fun v u w hb hg => getI_old1 (w := w) s A c v u h hb hl hnd hg)
    obtain ⟨TB, tc, rfl, t1, t2, -⟩ := hS
    obtain ⟨DB, dc, rfl, d1, d2, -⟩ := Kd.O_read hO
    clear ih hF hO hb hk hu hD hnd
    go_enter Tryz.func181, Tryz.ntmps181
    go_wp2
    go_loopw [1, 12] (fun v1 v12 wr => ∃ (i k' : Nat) (o' D' : Trm), v12 = .int .i64 i ∧ i ≤ t.length ∧ Hid (k' < N + 1) ∧ Hid (Fl s (t.drop i) k' o') ∧ Hid (D' ++ o' = D ++ o ∨ (40 < D'.length ∧ 40 < (D ++ o).length)) ∧ D'.length ≤ 41 ∧ Hid (Kd.cell.O 112 wr w0.heap.size v1 D') ∧ Hid (Below w0.heap.size w0 wr)) (fun _ v12 _ => t.length - (intOf v12).toNat)
    case atStart => exact ⟨0, k, o, D, rfl, Nat.zero_le _, Hk, HF, Lib.hid (.inl rfl), HDl.out, HO, HB⟩
    case round =>
      clear HF HO HB Hk d1 d2
      obtain ⟨i, k', o', D', rfl, hi, Hk, HFi, HDo, hD', HOr, HBr⟩ := hrel
      obtain ⟨OB, oc, rfl, p1, p2, -⟩ := Kd.O_read HOr.out
      by_cases hlt : i < t.length
      · obtain ⟨cc, hc⟩ : ∃ cc, t[i]? = some cc := ⟨_, List.getElem?_eq_getElem hlt⟩
        obtain ⟨A', c', ev, _, _, hC⟩ := Kd.S_ext HBr.out HS.out
        injection ev with u1 u2 u3
        obtain ⟨ad, had, x1, x2, x3⟩ := cell_at hC hc
        have had2 := u1.trans had
        have hdr : t.drop i = cc :: t.drop (i + 1) := by rw [List.drop_eq_getElem_cons hlt, (List.getElem?_eq_some_iff.1 hc).2]
        rw [hdr] at HFi
        clear u1 u2 u3 had hC hc hdr
        subst had2
        by_cases hov : 40 < D'.length
        · have e0 : decide ((40 : Int) < (D'.length : Int)) = true := decide_eq_true (by omega)
          go_wp2
          go_ret
          refine .mk' (Kd.O_alloc _ HOr.out) (bel_alloc HBr.out _) hD' (.inr ⟨hov, ?_⟩)
          rcases HDo.out with h | h
          · rw [← h, List.length_append]; omega
          · exact h.2
        · have e0 : decide ((40 : Int) < (D'.length : Int)) = false := decide_eq_false (by omega)
          have HEx := Lib.hid (show D' ++ o' = D ++ o from HDo.out.resolve_right (fun h => hov h.1))
          have hD40 : D'.length ≤ 40 := by omega
          clear hov HDo
          have hcases : (cc.k == 1) = false ∨ ((cc.k == 1) = true ∧ getB s cc.n = none) ∨ ((cc.k == 1) = true ∧ ∃ u, getB s cc.n = some u) := by
            by_cases h : cc.k = 1
            · cases hg : getB s cc.n with
              | none => exact .inr (.inl ⟨beq_iff_eq.2 h, rfl⟩)
              | some u => exact .inr (.inr ⟨beq_iff_eq.2 h, u, rfl⟩)
            · exact .inl (beq_eq_false_iff_ne.2 h)
          have hkeep : ((cc.k == 1) = false ∨ getB s cc.n = none) → ∃ k2 o2, k' = k2 + 1 ∧ o' = cc :: o2 ∧ Fl s (t.drop (i + 1)) k2 o2 := fun hh => by
            have hf := HFi.out
            cases hf with
            | keep hc f => exact ⟨_, _, rfl, rfl, f⟩
            | bound hk g f =>
              rcases hh with hh | hh
              · rw [beq_iff_eq.2 hk] at hh; cases hh
              · rw [hh] at g; cases g
          rcases hcases with e1 | ⟨e1, hg⟩ | ⟨e1, u, hg⟩
          · obtain ⟨k2, o2', hk2, ho2, f2⟩ := hkeep (.inl e1)
            have HF2 := Lib.hid f2
            have HE2 := Lib.hid (show (D' ++ [cc]) ++ o2' = D ++ o by rw [List.append_assoc, ← HEx.out, ho2]; rfl)
            have Hk2 := Lib.hid (show k2 < N + 1 by have := Hk.out; omega)
            clear hkeep hk2 ho2 f2
            go_wp2_with (at_builtin; refine wp_app AppI.cell rfl rfl (Kd.O_alloc _ (Kd.O_alloc _ HOr.out)) rfl (Kd.S_lit Kd.cell _ (x := cc) (cs := [.int .i64 cc.k, .int .i64 cc.n, .string cc.s]) rfl (size_alloc1 _ _).symm) rfl ?c1 ?c2 ?_; (case c1 => simp; omega); (case c2 => exact (bel_alloc (bel_alloc HBr.out _) _).size |> fun h => Nat.le_trans (by omega) h); intro v1b w4 hg; have HG := Lib.hid hg; clear hg)
            exact ⟨⟨i + 1, k2, o2', D' ++ [cc], by go_num, hlt, Hk2, HF2, Lib.hid (.inl HE2.out), by simp; omega, Lib.hid HG.out.own, Lib.hid (HG.out.below (bel_alloc (bel_alloc HBr.out _) _) (Kd.O_alloc _ (Kd.O_alloc _ HOr.out)))⟩, by simp [intOf]; omega⟩
          · obtain ⟨k2, o2', hk2, ho2, f2⟩ := hkeep (.inr hg)
            have HF2 := Lib.hid f2
            have HE2 := Lib.hid (show (D' ++ [cc]) ++ o2' = D ++ o by rw [List.append_assoc, ← HEx.out, ho2]; rfl)
            have Hk2 := Lib.hid (show k2 < N + 1 by have := Hk.out; omega)
            have HGt := Lib.hid (fun w hb => HG0.out cc.n w hb hg)
            clear hkeep hk2 ho2 f2 hg
            go_wp2_with (first | (go_at_call 171; (with_reducible refine (HGt.out _ (bel_alloc HBr.out _)).mono ?_); rintro e w2 ⟨rfl, hb2⟩; have hbx := box_keep (heap_alloc_new wr (.cells #[.int .i64 cc.k, .int .i64 cc.n, .string cc.s] 112)) hb2; have c0 := Lib.cell_of_heap hbx 0; have c1 := Lib.cell_of_heap hbx 1; have c2 := Lib.cell_of_heap hbx 2; have HB2 := Lib.hid hb2; clear hb2 hbx)
                               | (at_builtin; refine wp_app AppI.cell rfl rfl (Kd.O_alloc _ (Kd.O_ext HB2.out (Kd.O_alloc _ HOr.out))) rfl (Kd.S_lit Kd.cell _ (x := cc) (cs := [.int .i64 cc.k, .int .i64 cc.n, .string cc.s]) rfl rfl) rfl ?c1 ?c2 ?_; (case c1 => simp; omega); (case c2 => exact (bel_alloc (bel_trans (bel_alloc HBr.out _) HB2.out) _).size); intro v1b w4 hg; have HG := Lib.hid hg; clear hg))
            exact ⟨⟨i + 1, k2, o2', D' ++ [cc], by go_num, hlt, Hk2, HF2, Lib.hid (.inl HE2.out), by simp; omega, Lib.hid HG.out.own, Lib.hid (HG.out.below (bel_alloc (bel_trans (bel_alloc HBr.out _) HB2.out) _) (Kd.O_alloc _ (Kd.O_ext HB2.out (Kd.O_alloc _ HOr.out))))⟩, by simp [intOf]; omega⟩
          · obtain ⟨k1, o1, k2, o2', f1, f2, hk12, ho12⟩ : ∃ k1 o1 k2 o2, Fl s u k1 o1 ∧ Fl s (t.drop (i + 1)) k2 o2 ∧ k' = k1 + k2 + 1 ∧ o' = o1 ++ o2 := by
              have hf := HFi.out
              cases hf with
              | keep hc f => rw [hc (beq_iff_eq.1 e1)] at hg; cases hg
              | bound hk g f =>
                rw [g] at hg
                obtain rfl := Option.some.inj hg
                obtain ⟨k1, o1, k2, o2, f1, f2, rfl, rfl⟩ := Fl_split f
                exact ⟨k1, o1, k2, o2, f1, f2, rfl, rfl⟩
            have hup := HU.out _ _ hg
            have hul : u.length ≤ 40 := hup.2
            have HGt := Lib.hid (fun w hb => HG1.out cc.n u w hb hg)
            have HIH := Lib.hid (fun rv w2 dv hs ho hb => IH.out k1 u o1 D' rv dv w2 (by have := Hk.out; omega) f1 hs hul ho hb hD')
            have HF2 := Lib.hid f2
            have HE2 := Lib.hid (show (D' ++ o1) ++ o2' = D ++ o by rw [List.append_assoc, ← HEx.out, ho12])
            have Hk2 := Lib.hid (show k2 < N + 1 by have := Hk.out; omega)
            have hu0 : 0 < u.length := hup.1
            clear hkeep hk12 ho12 f1 f2 hg hup
            go_wp2_with (first | (go_at_call 171; (with_reducible refine (HGt.out _ (bel_alloc HBr.out _)).mono ?_); rintro e w2 ⟨rv, rfl, hr, hb2⟩; have HR := Lib.hid hr; have HB2 := Lib.hid hb2; obtain ⟨RA, rc, rfl, y1, y2, hRC⟩ := hr; obtain ⟨ra, rfl⟩ : ∃ ra, RA = some ra := (match u, hu0, hRC with | c0 :: r0, _, hRC => (cell_hd hRC).elim fun ra h => ⟨ra, h.1⟩); clear hb2 hRC)
                               | (go_at_call 181; (with_reducible refine (HIH.out _ _ _ HR.out (Kd.O_ext HB2.out (Kd.O_alloc _ HOr.out)) (bel_trans (bel_alloc HBr.out _) HB2.out)).mono ?_); rintro e w5 ⟨v5, D5, rfl, hO5, hB5, hl5, hd5⟩; have HO5 := Lib.hid hO5; have HB5 := Lib.hid hB5; have Hd5 := Lib.hid hd5; have Hl5 := Lib.hid hl5; clear hO5 hB5 hl5 hd5))
            refine ⟨⟨i + 1, k2, o2', D5, by go_num, hlt, Hk2, HF2, Lib.hid ?_, Hl5.out, HO5, HB5⟩, by simp [intOf]; omega⟩
            rcases Hd5.out with hd | ⟨hd, hd2⟩
            · exact .inl (by rw [hd]; exact HE2.out)
            · refine .inr ⟨hd, ?_⟩
              rw [← HE2.out, List.length_append]
              omega
      · have hx := HFi.out
        rw [List.drop_of_length_le (by omega)] at hx
        have HV := Lib.hid (show D' = D ++ o ∨ (40 < D'.length ∧ 40 < (D ++ o).length) by
          cases hx
          have := HDo.out
          rwa [List.append_nil] at this)
        clear hx
        go_wp2
        go_ret
        exact .mk' HOr.out HBr.out hD' HV.out
theorem fullI_c (s : Binds) (t o : Trm) (n : Nat) (sv tv : Value) (w : World) (f : Fl s t n o) (hs : Kd.bind.S 216 w sv s) (ht : Kd.cell.S 112 w tv t) (hl : s.length ≤ 1000000000) (hnd : (s.map (·.1)).Nodup) (h40 : t.length ≤ 40) (hu : ∀ v u, getB s v = some u → 0 < u.length ∧ u.length ≤ 40) :
    Calls Tryz.prog 151 #[sv, tv] w (FullPost w o) := by
  obtain ⟨A, c, rfl, _, _, hC⟩ := hs
  have HX := Lib.hid (fillI_c w s A c hC hl hnd hu (n + 1) n t o [] tv (.slice none 0 0) w (by omega) f ht h40 (Kd.O_nil _ _ _ _) (Below.refl _ _) (by simp))
  obtain ⟨TB, tc, rfl, _, _, -⟩ := ht
  clear f hC hnd hu
  by_cases ho : o.length ≤ 40
  · have HX := Lib.hid (HX.out.mono fun e w' (hp : FillPost w [] o e w') => show ∃ v, e = .returned v ∧ Kd.cell.O 112 w' w.heap.size v o ∧ Below w.heap.size w w' by
      obtain ⟨v, D', rfl, h1, h2, h3, h4⟩ := hp
      rw [List.nil_append] at h4
      obtain rfl := h4.resolve_right (fun h => absurd h.2 (by omega))
      exact ⟨v, rfl, h1, h2⟩)
    have e0 : decide ((40 : Int) < (o.length : Int)) = false := decide_eq_false (by omega)
    have Ho := Lib.hid ho
    clear ho
    go_enter Tryz.func151, Tryz.ntmps151
    go_wp2_with (go_at_call 181; (with_reducible refine HX.out.mono ?_); rintro e w1 ⟨v, rfl, hO, hb⟩; have HO := Lib.hid hO; have HB := Lib.hid hb; obtain ⟨RA, rc, rfl, r1, r2, -⟩ := Kd.O_read hO; clear hO hb)
    go_ret2
    exact .yes Ho.out HO.out HB.out
  · have HX := Lib.hid (HX.out.mono fun e w' (hp : FillPost w [] o e w') => show ∃ v D', e = .returned v ∧ Kd.cell.S 112 w' v D' ∧ 40 < D'.length ∧ Below w.heap.size w w' by
      obtain ⟨v, D', rfl, h1, h2, h3, h4⟩ := hp
      rw [List.nil_append] at h4
      refine ⟨v, D', rfl, Kd.O_read h1, ?_, h2⟩
      rcases h4 with rfl | h4
      · omega
      · exact h4.1)
    have Ho := Lib.hid ho
    clear ho
    go_enter Tryz.func151, Tryz.ntmps151
    go_wp2_with (go_at_call 181; (with_reducible refine HX.out.mono ?_); rintro e w1 ⟨v, D', rfl, hS, hlt, hb⟩; have HB := Lib.hid hb; obtain ⟨RA, rc, rfl, r1, r2, -⟩ := hS; have e0 : decide ((40 : Int) < (D'.length : Int)) = true := decide_eq_true (by omega); clear hb)
    go_ret2
    exact .no Ho.out (Kd.O_nil _ _ _ _) HB.out
end Go.Proofs.YtdoggcfdfkkedaaGreatDoor
namespace Go.Proofs.YtdoggcfdfkkedaaGreatDoor
open Go.RowKit
set_option linter.unusedVariables false
set_option maxRecDepth 100000
theorem kInt : Go.Maps.Keyed Tryz.prog 3 := Go.Maps.int_keyed Tryz.underlying3
def Seen (w : World) (b : Nat) (S : List Int) : Prop :=
  ∃ D : DataW Unit, w.ownsMap Tryz.prog 3 (plainElem Tryz.prog 4) b S.length D ∧ Go.Maps.IsMap D ∧ ∀ x : Int, D.atKey (.int .i64 x) (.lit (.bool false)) = .lit (.bool (decide (x ∈ S)))
theorem Seen.made (w : World) : Seen (w.alloc (.map #[] 0)) w.heap.size [] :=
  ⟨.map [], World.ownsMap_made w _ _ _, Go.Maps.isMap_empty, fun x => by simp [DataW.atKey]⟩
theorem Seen.kept {w w' : World} {b : Nat} {S : List Int} {row : Option Nat} (h : Seen w b S) (hg : w.grownBy w' row) (hne : some b ≠ row) : Seen w' b S := by
  obtain ⟨D, h1, h2, h3⟩ := h
  exact ⟨D, h1.kept hg hne, h2, h3⟩
theorem Seen.ext {w w' : World} {b : Nat} {S : List Int} (h : Seen w b S) (hb : Below w.heap.size w w') : Seen w' b S :=
  h.kept (row := none) ⟨hb.os, hb.tape, hb.output, hb.size, fun i hi _ => hb.block i hi⟩ (by simp)
theorem Seen.map {w : World} {b : Nat} {S : List Int} (h : Seen w b S) : ∃ es c, w.heap[b]? = some (.map es c) := by
  obtain ⟨D, ⟨es, c, h1, -⟩, -⟩ := h; exact ⟨es, c, h1⟩
theorem wf_i64 {x : Int} (h0 : -1000000000 ≤ x) (h1 : x ≤ 1000000000) : (Lit.int .i64 x).wf = true := WalkArith.wf_i64 (by omega)
theorem wp_seen_look {P : Program} (hP : P = Tryz.prog) {w : World} {ops : Array Oper} {rest : List Oper} {o : Oper} {a : Act} {Q : Exit → Act → World → Prop} (hgd : o.guard = none) {m x : Operand} (ho : o.op = .lookup 231 m x false)
    {b : Nat} {S : List Int} (h : Seen w b S) (hm : a.eval m = .map (some b)) {n : Int} (hx : a.eval x = .int .i64 n) (h0 : -1000000000 ≤ n) (h1 : n ≤ 1000000000)
    (k : wpList P ops Q rest (a.put o.dst (.bool (decide (n ∈ S)))) w) : wpList P ops Q (o :: rest) a w := by
  subst hP
  refine wpList_plain hgd fun K hK => ?_
  obtain ⟨D, h2, h3, h4⟩ := h
  obtain ⟨v, ps, hrun, hv⟩ := h2.lookup kInt Tryz.underlying231 (z := .bool false) (Tryz.zeroValue4 w) (plainElem_bool Tryz.underlying4 false) (Go.Maps.keyOf_int_mk Tryz.underlying3 (wf_i64 h0 h1))
  rw [h4 n] at hv
  have he : v = .bool (decide (n ∈ S)) := by
    unfold plainElem at hv
    rw [Tryz.underlying4] at hv
    cases v <;> simp at hv
    rw [hv.1]
  subst he
  unfold Oper.wp
  simp [execOp, ho, hm, hx, hrun, Result.andThen]
  exact hK _ _ k
theorem wp_seen_put {P : Program} (hP : P = Tryz.prog) {w : World} {ops : Array Oper} {rest : List Oper} {o : Oper} {a : Act} {Q : Exit → Act → World → Prop} (hgd : o.guard = none) {m x v : Operand} (ho : o.op = .mapUpdate 231 m x v)
    {b : Nat} {S : List Int} (h : Seen w b S) (hm : a.eval m = .map (some b)) {n : Int} (hx : a.eval x = .int .i64 n) (hv : a.eval v = .bool true) (h0 : -1000000000 ≤ n) (h1 : n ≤ 1000000000) (hl : S.length ≤ 1000000000)
    (k : ∀ w', Seen w' b (S ++ [n]) → w.grownBy w' (some b) → wpList P ops Q rest (a.put o.dst undef) w') : wpList P ops Q (o :: rest) a w := by
  subst hP
  obtain ⟨D, h2, h3, h4⟩ := h
  refine wpList_mapUpdate_own w hgd m x v _ ho 3 4 kInt Tryz.underlying231 _ b S.length D hm h2 (by unfold maxLen; omega) _ _ _ hx hv (Go.Maps.keyOf_int_mk Tryz.underlying3 (wf_i64 h0 h1)) _ [] (plainElem_bool Tryz.underlying4 true) (fun w' a1 a2 => k w' ⟨_, by rw [List.length_append]; exact a1, h3.put _ _, fun y => ?_⟩ a2)
  by_cases e : y = n
  · subst e
    rw [Go.Maps.atKey_put_same h3 (by trivial)]; simp
  · rw [Go.Maps.atKey_put_other (by simpa using e), h4 y]
    congr 2
    simp [e]
theorem grown_keep {w w' : World} {b : Nat} {S : List Int} (h : Seen w b S) (hg : w.grownBy w' (some b)) (E : List Nat) : Keep E w w' := fun k cells q fz hk hq => by
  refine hg.block k (Array.getElem?_eq_some_iff.1 hk).1 (fun e => ?_)
  obtain ⟨es, c, hm⟩ := h.map
  rw [Option.some.inj e, hm] at hk
  cases hk
theorem grown_O {α : Type} {d : Kd α} {w w' : World} {b e base : Nat} {S : List Int} {v : Value} {xs : List α} (h : Seen w b S) (hg : w.grownBy w' (some b)) (ho : d.O e w base v xs) : d.O e w' base v xs := by
  refine Kd.O_mov (grown_keep h hg _) (fun k hk => ?_) ho
  obtain ⟨c, hc⟩ := Kd.O_typed ho k hk
  exact grown_keep h hg [e] k c e _ hc List.mem_cons_self
theorem grown_C {α : Type} {d : Kd α} {w w' : World} {b e : Nat} {S : List Int} {A : Option Addr} {xs : List α} (h : Seen w b S) (hg : w.grownBy w' (some b)) (ho : d.C e w A xs) : d.C e w' A xs := Kd.C_mov (grown_keep h hg _) ho
theorem grown_of_below {w w' : World} (hb : Below w.heap.size w w') (row : Option Nat) : w.grownBy w' row := ⟨hb.os, hb.tape, hb.output, hb.size, fun i hi _ => hb.block i hi⟩
end Go.Proofs.YtdoggcfdfkkedaaGreatDoor
namespace Go.Proofs.YtdoggcfdfkkedaaGreatDoor
open Go.RowKit
set_option linter.unusedVariables false
theorem Kd.O_base {α : Type} {d : Kd α} {e base base' : Nat} {w : World} {v : Value} {xs : List α} (h : d.O e w base v xs) (hb : base' ≤ base) : d.O e w base' v xs := by
  obtain ⟨cs, ⟨h0, h1⟩, h2⟩ := h
  refine ⟨cs, ⟨h0, ?_⟩, h2⟩
  rcases h1 with h1 | ⟨g, cap, cur, rfl, r1, r2⟩
  · exact .inl h1
  · exact .inr ⟨g, cap, cur, rfl, Nat.le_trans hb r1, r2⟩
def Kd.F {α : Type} (d : Kd α) (e : Nat) (w : World) (b : Nat) (v : Value) (xs : List α) : Prop := d.O e w b v xs ∨ (d.S e w v xs ∧ ∃ A, v = .slice A xs.length xs.length)
section
variable {α : Type} {d : Kd α} {e b : Nat} {w w' : World} {v : Value} {xs : List α}
theorem Kd.F_read (h : d.F e w b v xs) : d.S e w v xs := h.elim Kd.O_read (·.1)
theorem Kd.F_ext (hb : Below w.heap.size w w') (h : d.F e w b v xs) : d.F e w' b v xs := h.imp (Kd.O_ext hb) (fun h => ⟨Kd.S_ext hb h.1, h.2⟩)
theorem Kd.F_nil (d : Kd α) (e : Nat) (w : World) (b : Nat) : d.F e w b (.slice none 0 0) [] := .inl (Kd.O_nil d e w b)
theorem wp_app_F {P : Program} {t : TypeId} {w : World} {d : Kd α} {e : TypeId} {xs : List α} {v : Value} (I : AppI P t e d) {ops : Array Oper} {rest : List Oper} {o : Oper} {a : Act} {Q : Exit → Act → World → Prop} (hgd : o.guard = none) {s x : Operand}
    (ho : o.op = .call { callee := .builtin .append, args := #[s, x], argTypes := #[t, t] })
    (hf : d.F e w b v xs) (hs : a.eval s = v) {xv : Value} {ys : List α} (hy : d.S e w xv ys) (hx : a.eval x = xv) (hne : ys ≠ [])
    (hlen : xs.length + ys.length ≤ 1000000000) (hb : b ≤ w.heap.size)
    (h : ∀ v' w', d.O e w' b v' (xs ++ ys) → Wrote b e w w' → wpList P ops Q rest (a.put o.dst v') w') : wpList P ops Q (o :: rest) a w := by
  rcases hf with hf | ⟨hS, A, rfl⟩
  · exact wp_app I hgd ho hf hs hy hx hlen hb (fun v' w' hg => h v' w' hg.own (.grew hg hf hb))
  · cases A with
    | none =>
      obtain ⟨A', c', ev, _, _, hC⟩ := hS
      injection ev with e1 _ _
      subst e1
      obtain rfl : xs = [] := by
        cases xs with
        | nil => rfl
        | cons y ys => obtain ⟨_, _, _, _, ea, _⟩ := hC 0 y rfl; cases ea
      have hf : d.O e w b (.slice none 0 0) ([] : List α) := Kd.O_nil _ _ _ _
      exact wp_app I hgd ho hf hs hy hx hlen hb (fun v' w' hg => h v' w' hg.own (.grew hg hf hb))
    | some ad =>
      obtain ⟨z, bytes, hi, hz, hby⟩ := I.info
      obtain ⟨i, hi, hz1, hs1, hb1⟩ := info_parts hi
      obtain ⟨A', c', ev, _, _, hC⟩ := hS
      injection ev with e1 _ _
      subst e1
      obtain ⟨Y, cy, rfl, hy1, hy2, hCY⟩ := hy
      cases Y with
      | none =>
        exfalso
        cases ys with
        | nil => exact hne rfl
        | cons y ys => obtain ⟨_, _, _, _, ea, _⟩ := hCY 0 y rfl; cases ea
      | some ay =>
        obtain ⟨olds, o1, o2, o3, o4⟩ := Kd.C_cells w hC
        obtain ⟨news, n1, n2, n3, n4⟩ := Kd.C_cells w hCY
        have hpos : 0 < ys.length := List.length_pos_iff.2 hne
        obtain ⟨v', w', hrun, hown, hgr⟩ := run_append_arg_grows (P := P) w t o.type e i z d.sz bytes I.und hi hz1 hs1 hb1 hz I.pos ad xs.length xs.length olds o1 o2 ay ys.length cy news n1 n2 (by omega) (by unfold maxLen; omega) (Nat.le_trans (Nat.mul_le_mul hlen hby) (by decide))
        have hB : Below w.heap.size w w' := ⟨hgr.os, hgr.tape, hgr.output, hgr.size, fun k hk => hgr.block k hk (by simp)⟩
        refine wpList_plain hgd fun K hK => ?_
        unfold Oper.wp execOp
        simp only [ho, resolve, invoke, builtin, Sem.run_bind, Sem.run_pure, Result.andThen_ok, List.map_toArray, List.map_cons, List.map_nil, hs, hx, hrun]
        refine hK _ _ (h v' w' (Kd.O_base ⟨olds ++ news, by rw [List.length_append]; exact hown, fun i x hx => d.mov (Keep.of_below hB) (Reps.snoc o1 o4 n4 i x hx)⟩ hb) (.of_below hb hB))
end
theorem wp_region_class {P : Program} {C : World → Prop} {id : Nat} {Q : Exit → Act → World → Prop} {a : Act} {w : World} {l : List Oper} (hm : P.follows .mixedOrders = true) (hB : Region.lexB .any l.toArray = true) (hC : C w.drew)
    (h : wpQuiet P l.toArray C (fun a' => ∀ w', C w' → Q .normal a' w') l a) : (Code.region id l.toArray true).wp P Q a w := wp_region_quiet (C := C) hm hB hC (by simpa using h)
theorem quiet_load {P : Program} {C : World → Prop} {K : Act → Prop} {a : Act} {o : Oper} {t : TypeId} {x : Operand} {ad : Addr} {v : Value} (ho : o.op = .load t x) (hx : a.eval x = .pointer (some ad))
    (h1 : ∀ W, C W → (Instr.loadAt t (.pointer (some ad))).run P W = .ok v W) (hk : K (a.put o.dst v)) : o.quiet P a C K :=
  ⟨v, fun W hW => by
    unfold Oper.quietAt execOp
    simp only [ho, hx, Sem.run_bind, Sem.run_pure, h1 W hW, Result.andThen_ok]
    exact ⟨rfl, rfl⟩, hk⟩
theorem quiet_cell {P : Program} {C : World → Prop} {K : Act → Prop} {a : Act} {o : Oper} {t : TypeId} {x : Operand} {ad : Addr} {v : Value} (ho : o.op = .load t x) (hx : a.eval x = .pointer (some ad))
    (h1 : ∀ W v, W.cell? ad = some v → (Instr.loadAt t (.pointer (some ad))).run P W = .ok v W) (h2 : ∀ W, C W → W.cell? ad = some v) (hk : K (a.put o.dst v)) : o.quiet P a C K := quiet_load ho hx (fun W hW => h1 W v (h2 W hW)) hk
theorem Kd.O_put {α : Type} {d : Kd α} {e base : Nat} {w : World} {v : Value} {xs : List α} (h : d.O e w base v xs) (hE : ∀ q ∈ d.E, q ≠ e) {i : Nat} {x : α} (hi : xs[i]? = some x) :
    ∃ ad cap, v = .slice (some ad) xs.length cap ∧ base ≤ ad.block ∧ (∀ j, j < d.sz → w.frozen? ⟨(ad.add (i * d.sz)).block, (ad.add (i * d.sz)).off + j, none⟩ = false) ∧
      ∀ j, j < d.sz → ∀ u x', u.oneCell' = true → (∀ cs, d.K w x cs → d.K w x' (cs.set j u)) → d.O e (w.setCell ⟨(ad.add (i * d.sz)).block, (ad.add (i * d.sz)).off + j, none⟩ u) base v (xs.set i x') ∧ KeepBut e w (w.setCell ⟨(ad.add (i * d.sz)).block, (ad.add (i * d.sz)).off + j, none⟩ u) := by
  obtain ⟨cs, ⟨h0, h1⟩, h2⟩ := h
  have hil := (List.getElem?_eq_some_iff.1 hi).1
  rcases h1 with ⟨_, hn⟩ | ⟨g, cap, cur, rfl, r1, r2, r3, r4, r5, r6⟩
  · omega
  · have ea : ∀ j, (⟨((⟨g, 0, none⟩ : Addr).add (i * d.sz)).block, ((⟨g, 0, none⟩ : Addr).add (i * d.sz)).off + j, none⟩ : Addr) = ⟨g, i * d.sz + j, none⟩ := fun j => by unfold Addr.add; split <;> simp_all
    refine ⟨⟨g, 0, none⟩, cap, rfl, r1, fun j _ => by rw [ea]; exact frozen_of_row w g _ cur e r2, fun j hj u x' hu hK => ?_⟩
    rw [ea]
    have hblk := heap_setCell_same w g (i * d.sz + j) cur e u r2
    have hkb : KeepBut e w (w.setCell ⟨g, i * d.sz + j, none⟩ u) := fun k c q f hk hq => by
      refine heap_setCell_other w _ k u (fun he => ?_)
      rw [show k = g from he, r2] at hk
      injection hk with hk
      injection hk with _ ht
      exact hq ht.symm
    have hlt : i * d.sz + j < cs.length := by
      rw [h0]
      have : i * d.sz + d.sz ≤ xs.length * d.sz := by rw [← Nat.succ_mul]; exact Nat.mul_le_mul_right _ hil
      omega
    refine ⟨⟨cs.set (i * d.sz + j) u, ⟨by rw [List.length_set, List.length_set]; exact h0, .inr ⟨g, cap, cur.setIfInBounds (i * d.sz + j) u, by rw [List.length_set], r1, hblk, by rw [List.length_set]; exact r3, r4, by rw [Array.size_setIfInBounds]; exact r5, ?_⟩⟩, fun k y hy => ?_⟩, hkb⟩
    · rw [List.length_set, Array.toList_setIfInBounds, ← r6]
      rw [List.take_set]
    · by_cases hki : k = i
      · subst hki
        rw [List.getElem?_set_self hil] at hy
        obtain rfl := Option.some.inj hy
        have hseg : (((cs.set (k * d.sz + j) u).drop (k * d.sz)).take d.sz) = ((cs.drop (k * d.sz)).take d.sz).set j u := by
          rw [List.drop_set, if_neg (by omega), Nat.add_sub_cancel_left, List.take_set]
        rw [hseg]
        exact d.mov (hkb.keep hE) (hK _ (h2 k x hi))
      · rw [List.getElem?_set_ne (Ne.symm hki)] at hy
        have hseg : (((cs.set (i * d.sz + j) u).drop (k * d.sz)).take d.sz) = (cs.drop (k * d.sz)).take d.sz := by
          rcases Nat.lt_or_ge k i with hlt' | hge
          · have : k * d.sz + d.sz ≤ i * d.sz := by rw [← Nat.succ_mul]; exact Nat.mul_le_mul_right _ hlt'
            rw [List.drop_set, if_neg (by omega), List.take_set]
            rw [List.set_eq_of_length_le]
            rw [List.length_take]; omega
          · have : i * d.sz + d.sz ≤ k * d.sz := by rw [← Nat.succ_mul]; exact Nat.mul_le_mul_right _ (by omega)
            rw [List.drop_set, if_pos (by omega)]
        rw [hseg]
        exact d.mov (hkb.keep hE) (h2 k y hy)
theorem KeepBut.below_put {b e : Nat} {w : World} {a : Addr} {u : Value} (h : KeepBut e w (w.setCell a u)) (ha : b ≤ a.block) (hb : b ≤ w.heap.size) : Wrote b e w (w.setCell a u) := ⟨(Below.refl _ _).setCell ha _, h⟩
end Go.Proofs.YtdoggcfdfkkedaaGreatDoor
namespace Go.Proofs.YtdoggcfdfkkedaaGreatDoor
open Go.RowKit
set_option maxRecDepth 100000
set_option maxHeartbeats 2000000
set_option linter.unusedVariables false
theorem AppI.bindings : AppI Tryz.prog 156 216 Kd.bind := ⟨Tryz.underlying156, AppI.bind.info, AppI.bind.pos, AppI.bind.sep⟩
theorem cloneS_c (t : Trm) (A : Option Addr) (c : Nat) (w : World) (h : Kd.cell.S 112 w (.slice A t.length c) t) (hl : t.length ≤ 1000000000) :
    Calls Tryz.prog 104 #[.slice A t.length c] w fun e w' => ∃ v, e = .returned v ∧ Kd.cell.O 112 w' w.heap.size v t ∧ Below w.heap.size w w' := by
  obtain ⟨A', c', ev, _, _, hC⟩ := h
  injection ev with e1 e2 e3
  subst e1
  exact clone_c t A c w hC hl
def unseen (V S : List Int) : Nat := (V.filter (fun x => decide (x ∉ S))).length
theorem unseen_lt {V S : List Int} {x : Int} (hx : x ∈ V) (hS : x ∉ S) : unseen V (S ++ [x]) < unseen V S := by
  refine filter_lt (fun y hy => ?_) (v := x) (decide_eq_true hS) (by simp) hx
  have := of_decide_eq_true hy
  exact decide_eq_true (fun h => this (List.mem_append_left _ h))
theorem unseen_le {V S S' : List Int} (h : ∀ x ∈ S, x ∈ S') : unseen V S' ≤ unseen V S := by
  refine filter_le (fun y hy => ?_) V
  have := of_decide_eq_true hy
  exact decide_eq_true (fun h' => this (h y h'))
structure DInv (V : List Int) (s : Binds) (v : Int) (S S' : List Int) : Prop where
  sub : ∀ x ∈ S, x ∈ S'
  nod : S'.Nodup
  inV : ∀ x ∈ S', x ∈ V
  not : v ∉ S'
  clo : ∀ x ∈ S', x ∉ S → ∀ u, getB s x = some u → ∀ y ∈ vars u, y ∈ S'
theorem DInv.none {V : List Int} {s : Binds} {v : Int} {S S' : List Int} (h : DInv V s v S S') {x : Int} (hx : x ∉ S') (hv : x ≠ v) (hV : x ∈ V) (hg : getB s x = none) : DInv V s v S (S' ++ [x]) where
  sub := fun y hy => List.mem_append_left _ (h.sub y hy)
  nod := by
    rw [List.nodup_append]
    exact ⟨h.nod, by simp, fun a ha b hb => by simp at hb; subst hb; rintro rfl; exact hx ha⟩
  inV := fun y hy => by
    rcases List.mem_append.1 hy with hy | hy
    · exact h.inV y hy
    · simp at hy; subst hy; exact hV
  not := fun hm => by
    rcases List.mem_append.1 hm with hm | hm
    · exact h.not hm
    · simp at hm; exact hv hm.symm
  clo := fun y hy hS u hu z hz => by
    rcases List.mem_append.1 hy with hy | hy
    · exact List.mem_append_left _ (h.clo y hy hS u hu z hz)
    · simp at hy; subst hy; rw [hg] at hu; cases hu
theorem DInv.start {V : List Int} {s : Binds} {v : Int} {S : List Int} (h1 : S.Nodup) (h2 : ∀ x ∈ S, x ∈ V) (h3 : v ∉ S) : DInv V s v S S := ⟨fun _ h => h, h1, h2, h3, fun x h h' => absurd h h'⟩
theorem DInv.some {V : List Int} {s : Binds} {v : Int} {S S' S'' : List Int} (h : DInv V s v S S') {x : Int} {u : Trm} (hg : getB s x = some u) (k : DInv V s v (S' ++ [x]) S'') (hu : ∀ y ∈ vars u, y ∈ S'') : DInv V s v S S'' where
  sub := fun y hy => k.sub y (List.mem_append_left _ (h.sub y hy))
  nod := k.nod
  inV := k.inV
  not := k.not
  clo := fun y hy hS u' hu' z hz => by
    by_cases h1 : y ∈ S'
    · exact k.sub z (List.mem_append_left _ (h.clo y h1 hS u' hu' z hz))
    · by_cases h2 : y = x
      · subst h2; rw [hg] at hu'; obtain rfl := Option.some.inj hu'; exact hu z hz
      · exact k.clo y hy (fun h => by rcases List.mem_append.1 h with h | h; exact h1 h; simp at h; exact h2 h) u' hu' z hz
theorem DInv.done {V : List Int} {s : Binds} {v : Int} {S' : List Int} {t : Trm} (h : DInv V s v [] S') (ht : ∀ x ∈ vars t, x ∈ S') : ¬ Rch s t v := by
  intro hr
  have : ∀ {t : Trm} {x : Int}, Rch s t x → (∀ y ∈ vars t, y ∈ S') → x ∈ S' := by
    intro t x hr
    induction hr with
    | here hx => exact fun hv => hv _ hx
    | on hx hg _ ih => exact fun hv => ih (h.clo _ (hv _ hx) (by simp) _ hg)
  exact h.not (this hr ht)
def HoldsPost (V : List Int) (s : Binds) (t : Trm) (v : Int) (b : Nat) (w : World) (S : List Int) (e : Ending) (w' : World) : Prop :=
  w.grownBy w' (some b) ∧ ∃ r : Bool, e = .returned (.bool r) ∧ (r = true → Rch s t v) ∧ (r = false → ∃ S', Seen w' b S' ∧ DInv V s v S S' ∧ ∀ x ∈ vars t, x ∈ S')
theorem HoldsPost.yes {V : List Int} {s : Binds} {t : Trm} {v : Int} {b : Nat} {w : World} {S : List Int} {w' : World} (hg : w.grownBy w' (some b)) (h : Rch s t v) : HoldsPost V s t v b w S (.returned (.bool true)) w' := ⟨hg, true, rfl, fun _ => h, fun h => by cases h⟩
theorem HoldsPost.no {V : List Int} {s : Binds} {t : Trm} {v : Int} {b : Nat} {w : World} {S S' : List Int} {w' : World} (hg : w.grownBy w' (some b)) (h1 : Seen w' b S') (h2 : DInv V s v S S') (h3 : ∀ x ∈ vars t, x ∈ S') : HoldsPost V s t v b w S (.returned (.bool false)) w' := ⟨hg, false, rfl, fun h => (by cases h), fun _ => ⟨S', h1, h2, h3⟩⟩
theorem holds_c (V : List Int) (s : Binds) (v : Int) (b : Nat) (A : Option Addr) (c : Nat) (hl : s.length ≤ 1000000000) (hnd : (s.map (·.1)).Nodup) (hV : VarsIn s V) (hVl : V.length ≤ 4000000) (hVr : ∀ x ∈ V, 0 ≤ x ∧ x ≤ 1000000000) (hsl : ∀ v u, getB s v = some u → u.length ≤ 1000000000 ∧ u ≠ []) (N : Nat) :
    ∀ (t : Trm) (tv : Value) (w : World) (S : List Int), Kd.bind.C 216 w A s → Kd.cell.S 112 w tv t → t.length ≤ 1000000000 → (∀ x ∈ vars t, x ∈ V) → Seen w b S → S.Nodup → (∀ x ∈ S, x ∈ V) → v ∉ S → unseen V S < N →
    Calls Tryz.prog 172 #[.slice A s.length c, tv, .int .i64 v, .map (some b)] w (HoldsPost V s t v b w S) := by
  induction N with
  | zero => intro t tv w S _ _ _ _ _ _ _ _ h; omega
  | succ N ih =>
    intro t tv w S h ht htl htV hS hSn hSV hv hN
    obtain ⟨B, cB, rfl, b1, b2, hC⟩ := ht
    have IH := Lib.hid ih
    have HF := Lib.hid (imFree_c t B cB w hC htl)
    have H := Lib.hid h
    have HTV := Lib.hid htV
    have HSn := Lib.hid hS
    have HD0 := Lib.hid (DInv.start (s := s) hSn hSV hv)
    have HVi := Lib.hid hV
    have HVr := Lib.hid hVr
    have HSl := Lib.hid hsl
    have HND := Lib.hid hnd
    have HN := Lib.hid hN
    have hq := nil_eq
    clear ih hC h htV hS hSn hSV hv hV hVr hsl hnd hN
    go_enter Tryz.func172, Tryz.ntmps172
    go_wp2_with (go_at_call 103; (with_reducible refine HF.out.mono ?_); rintro e w1 ⟨fv, rfl, hO, hb⟩; have HO := Lib.hid hO; have HB := Lib.hid hb; obtain ⟨FB, cF, rfl, f1, f2, -⟩ := Kd.O_read hO; clear hO hb)
    obtain ⟨F, hF⟩ : ∃ F, free t = F := ⟨_, rfl⟩
    have HFv := Lib.hid (show ∀ x, x ∈ F ↔ x ∈ vars t from fun x => by rw [← hF]; exact mem_free)
    have hFl : F.length ≤ 1000000000 := by rw [← hF]; exact Nat.le_trans (free_len t) htl
    rw [hF] at HO f1 ⊢
    clear hF HF
    have HS1 := Lib.hid (HSn.out.ext HB.out)
    go_loopw [15] (fun v15 wr => ∃ (k : Nat) (T : List Int), v15 = .int .i64 k ∧ k ≤ F.length ∧ Hid (Seen wr b T) ∧ Hid (DInv V s v S T) ∧ Hid (∀ x ∈ F.take k, x ∈ T) ∧ Hid (w1.grownBy wr (some b))) (fun v15 _ => F.length - (intOf v15).toNat)
    case atStart => exact ⟨0, S, rfl, Nat.zero_le _, HS1, HD0, Lib.hid (fun x hx => by simp at hx), Lib.hid (grown_of_below (Below.refl _ _) _)⟩
    case round =>
      obtain ⟨k, T, rfl, hk, HT, HD, HK, HG⟩ := hrel
      by_cases hlt : k < F.length
      · obtain ⟨x, hx⟩ : ∃ x, F[k]? = some x := ⟨_, List.getElem?_eq_getElem hlt⟩
        have HOr := Lib.hid (grown_O HS1.out HG.out HO.out)
        obtain ⟨A', c', ev, -, -, hCF⟩ := Kd.O_read HOr.out
        injection ev with e1 e2 e3
        obtain ⟨ad, had, a1⟩ := int_at hCF hx
        have had2 := e1.trans had
        clear e1 e2 e3 had hCF
        subst had2
        have hxt : x ∈ vars t := (HFv.out x).1 (List.mem_of_getElem? hx)
        have hxV := HTV.out x hxt
        have hxr := HVr.out x hxV
        have Hx1 := Lib.hid hxt
        have Hx2 := Lib.hid hxV
        have hTl : T.length ≤ 4000000 := Nat.le_trans (sub_len HD.out.nod HD.out.inV) hVl
        have HKn := Lib.hid (show ∀ T' : List Int, (∀ y ∈ T, y ∈ T') → x ∈ T' → ∀ y ∈ F.take (k + 1), y ∈ T' from fun T' h1 h2 y hy => by
          rw [List.take_succ_eq_append_getElem hlt, (List.getElem?_eq_some_iff.1 hx).2] at hy
          rcases List.mem_append.1 hy with hy | hy
          · exact h1 y (HK.out y hy)
          · simp at hy; rw [hy]; exact h2)
        clear hxt hxV hx
        by_cases hxv : x = v
        · have e1 : (x == v) = true := beq_iff_eq.2 hxv
          have HR := Lib.hid (show Rch s t v by rw [← hxv]; exact .here Hx1.out)
          clear hxv
          go_wp2
          go_ret
          exact .yes ((grown_of_below HB.out _).trans HG.out) HR.out
        · have e1 : (x == v) = false := beq_eq_false_iff_ne.2 hxv
          by_cases hxT : x ∈ T
          · have HK2 := Lib.hid (HKn.out T (fun _ h => h) hxT)
            have HdT := Lib.hid (decide_eq_true hxT)
            clear hxT hxv
            go_wp2_with (at_lookup; refine wp_seen_look rfl rfl rfl HT.out rfl rfl (by omega) (by omega) ?_; rw [HdT.out])
            exact ⟨⟨k + 1, T, by go_num, by omega, HT, HD, HK2, HG⟩, by simp [intOf]; omega⟩
          · have HdT := Lib.hid (decide_eq_false hxT)
            have HxT := Lib.hid hxT
            have Hxv := Lib.hid hxv
            clear hxT hxv
            cases hg : getB s x with
            | none =>
              have HGt := Lib.hid (fun W hb => getI_none s A c x W (Kd.C_ext (w' := W) hb H.out) hl HND.out hg)
              have HD2 := Lib.hid (HD.out.none HxT.out Hxv.out Hx2.out hg)
              have HGc := Lib.hid (fun W (hc : Kd.bind.C 216 W A s) => getI_none s A c x W hc hl HND.out hg)
              clear hg HGt
              go_wp2_with (first | (at_lookup; refine wp_seen_look rfl rfl rfl HT.out rfl rfl (by omega) (by omega) ?_; rw [HdT.out]) | (at_mapUpdate; refine wp_seen_put rfl rfl rfl HT.out rfl rfl rfl (by omega) (by omega) (by omega) ?_; intro w2 hs2 hg2; have HS2 := Lib.hid hs2; have HG2 := Lib.hid hg2; clear hs2 hg2) | (go_at_call 171; (with_reducible refine (HGc.out _ (grown_C HT.out HG2.out (grown_C HS1.out HG.out (Kd.C_ext HB.out H.out)))).mono ?_); rintro e w3 ⟨rfl, hb3⟩; have HB3 := Lib.hid hb3; clear hb3))
              exact ⟨⟨k + 1, T ++ [x], by go_num, by omega, Lib.hid (HS2.out.ext HB3.out), HD2, Lib.hid (HKn.out _ (fun y h => List.mem_append_left _ h) (by simp)), Lib.hid ((HG.out.trans HG2.out).trans (grown_of_below HB3.out _))⟩, by simp [intOf]; omega⟩
            | some u =>
              have HGc := Lib.hid (fun W (hc : Kd.bind.C 216 W A s) => getI_some s A c x u W hc hl HND.out hg)
              have hul := (HSl.out x u hg).1
              obtain ⟨uc, ur, rfl⟩ : ∃ uc ur, u = uc :: ur := by
                cases u with
                | nil => exact absurd rfl (HSl.out x _ hg).2
                | cons uc ur => exact ⟨uc, ur, rfl⟩
              have HIH := Lib.hid (fun tv W hc hs hS => IH.out (uc :: ur) tv W (T ++ [x]) hc hs hul (HVi.out _ _ hg) hS (by
                rw [List.nodup_append]
                exact ⟨HD.out.nod, by simp, fun a ha b' hb => by simp at hb; subst hb; rintro rfl; exact HxT.out ha⟩) (fun y hy => by
                rcases List.mem_append.1 hy with hy | hy
                · exact HD.out.inV y hy
                · simp at hy; subst hy; exact Hx2.out) (fun hm => by
                rcases List.mem_append.1 hm with hm | hm
                · exact HD.out.not hm
                · simp at hm; exact Hxv.out hm.symm) (by
                have h1 := unseen_lt Hx2.out HxT.out
                have h2 := unseen_le (V := V) HD.out.sub
                have h3 := HN.out
                omega))
              have HRy := Lib.hid (show Rch s (uc :: ur) v → Rch s t v from fun hr => .on Hx1.out hg hr)
              have HDs := Lib.hid (fun S'' => HD.out.some hg (S'' := S''))
              clear hg hul
              go_wp2_with (first | (at_lookup; refine wp_seen_look rfl rfl rfl HT.out rfl rfl (by omega) (by omega) ?_; rw [HdT.out]) | (at_mapUpdate; refine wp_seen_put rfl rfl rfl HT.out rfl rfl rfl (by omega) (by omega) (by omega) ?_; intro w2 hs2 hg2; have HS2 := Lib.hid hs2; have HG2 := Lib.hid hg2; clear hs2 hg2)
                                 | (go_at_call 171; (with_reducible refine (HGc.out _ (grown_C HT.out HG2.out (grown_C HS1.out HG.out (Kd.C_ext HB.out H.out)))).mono ?_); rintro e w3 ⟨rv, rfl, hs3, hb3⟩; have HB3 := Lib.hid hb3; have HS3 := Lib.hid hs3; obtain ⟨ua, nu, ku, rfl, hu1, hu2, hu3, hu4⟩ := S_open hs3; clear hb3 hs3)
                                 | (go_at_call 172; (with_reducible refine (HIH.out _ _ (Kd.C_ext HB3.out (grown_C HT.out HG2.out (grown_C HS1.out HG.out (Kd.C_ext HB.out H.out)))) HS3.out (HS2.out.ext HB3.out)).mono ?_); rintro e w4 ⟨hg4, r, rfl, hy4, hn4⟩; have HG4 := Lib.hid hg4; have HY4 := Lib.hid hy4; have HN4 := Lib.hid hn4; clear hg4 hy4 hn4))
              · have hr : r = true := by assumption
                go_ret
                exact .yes ((grown_of_below HB.out _).trans (((HG.out.trans HG2.out).trans (grown_of_below HB3.out _)).trans HG4.out)) (HRy.out (HY4.out hr))
              · have hr : r = false := by assumption
                obtain ⟨T2, k1, k2, k3⟩ := HN4.out hr
                exact ⟨⟨k + 1, T2, by go_num, by omega, Lib.hid k1, Lib.hid (HDs.out _ k2 k3), Lib.hid (HKn.out _ (fun y h => k2.sub y (List.mem_append_left _ h)) (k2.sub x (by simp))), Lib.hid (((HG.out.trans HG2.out).trans (grown_of_below HB3.out _)).trans HG4.out)⟩, by simp [intOf]; omega⟩
      · have HX := Lib.hid (show ∀ x ∈ vars t, x ∈ T from fun x hx => HK.out x (by rw [List.take_of_length_le (by omega)]; exact (HFv.out x).2 hx))
        go_wp2
        go_ret
        exact .no ((grown_of_below HB.out _).trans HG.out) HT.out HD.out HX.out
theorem grown_below {w w' : World} {b : Nat} (hg : w.grownBy w' (some b)) {B : Nat} (hB : B ≤ b) (hw : B ≤ w.heap.size) : Below B w w' := ⟨hg.os, hg.tape, hg.output, hg.size, fun i hi => hg.block i (by omega) (fun e => by have := Option.some.inj e; omega)⟩
theorem bindI_no (V : List Int) (s : Binds) (v : Int) (A : Option Addr) (c : Nat) (t : Trm) (tv : Value) (w : World) (hl : s.length ≤ 1000000000) (hnd : (s.map (·.1)).Nodup) (hV : VarsIn s V) (hVl : V.length ≤ 4000000) (hVr : ∀ x ∈ V, 0 ≤ x ∧ x ≤ 1000000000) (hsl : ∀ v u, getB s v = some u → u.length ≤ 1000000000 ∧ u ≠ [])
    (h : Kd.bind.C 216 w A s) (ht : Kd.cell.S 112 w tv t) (htl : t.length ≤ 4000000) (htV : ∀ x ∈ vars t, x ∈ V) (hR : Rch s t v) :
    Calls Tryz.prog 144 #[.slice A s.length c, .int .i64 v, tv] w fun e w' => e = .returned (.tuple #[.slice none 0 0, .bool false]) ∧ Below w.heap.size w w' := by
  have HH := Lib.hid (fun W hb hs => holds_c V s v w.heap.size A c hl hnd hV hVl hVr hsl (unseen V [] + 1) t tv W [] (Kd.C_ext (w' := W) hb h) (Kd.S_ext hb ht) (by omega) htV hs (by simp) (fun x hx => by simp at hx) (by simp) (by omega))
  have HR := Lib.hid hR
  have hmm := @run_makeMap Tryz.prog
  clear h ht htV hV hVr hsl hnd hR
  go_enter Tryz.func144, Tryz.ntmps144
  go_wp2_with (go_at_call 172; (with_reducible refine (HH.out _ ((Below.refl _ w).alloc (Nat.le_refl _) _) (Seen.made w)).mono ?_); rintro e w1 ⟨hg, r, rfl, hy, hn⟩; have HG := Lib.hid hg; have HN := Lib.hid hn; clear hg hy hn)
  · go_ret2
    exact ⟨rfl, ((Below.refl _ w).alloc (Nat.le_refl _) _).trans (grown_below HG.out (Nat.le_refl _) (by simp))⟩
  · have hr : r = false := by assumption
    obtain ⟨S', k1, k2, k3⟩ := HN.out hr
    exact absurd HR.out (k2.done k3)
theorem bindI_yes (V : List Int) (b : Nat) (s : Binds) (v : Int) (sv : Value) (t : Trm) (tv : Value) (w : World) (hl : s.length ≤ 4000000) (hnd : (s.map (·.1)).Nodup) (hV : VarsIn s V) (hVl : V.length ≤ 4000000) (hVr : ∀ x ∈ V, 0 ≤ x ∧ x ≤ 1000000000) (hsl : ∀ v u, getB s v = some u → u.length ≤ 1000000000 ∧ u ≠ [])
    (hs : Kd.bind.F 216 w b sv s) (ht : Kd.cell.S 112 w tv t) (htl : t.length ≤ 4000000) (htV : ∀ x ∈ vars t, x ∈ V) (hb : b ≤ w.heap.size) (hR : ¬ Rch s t v) :
    Calls Tryz.prog 144 #[sv, .int .i64 v, tv] w fun e w' => ∃ rv, e = .returned (.tuple #[rv, .bool true]) ∧ Kd.bind.O 216 w' b rv (s ++ [(v, t)]) ∧ Wrote b 216 w w' := by
  obtain ⟨A, c, rfl, c1, c2, h⟩ := Kd.F_read hs
  have HH := Lib.hid (fun W hb hs => holds_c V s v w.heap.size A c (by omega) hnd hV hVl hVr hsl (unseen V [] + 1) t tv W [] (Kd.C_ext (w' := W) hb h) (Kd.S_ext hb ht) (by omega) htV hs (by simp) (fun x hx => by simp at hx) (by simp) (by omega))
  have HR := Lib.hid hR
  have HS := Lib.hid hs
  have Hb := Lib.hid hb
  have HT := Lib.hid ht
  have hmm := @run_makeMap Tryz.prog
  clear h htV hV hVr hsl hnd hR hs hb
  obtain ⟨B, cB, rfl, b1, b2, -⟩ := ht
  have HCl := Lib.hid (fun W (hs : Kd.cell.S 112 W (.slice B t.length cB) t) => cloneS_c t B cB W hs (by omega))
  go_enter Tryz.func144, Tryz.ntmps144
  go_wp2_with (first | (go_at_call 172; (with_reducible refine (HH.out _ ((Below.refl _ w).alloc (Nat.le_refl _) _) (Seen.made w)).mono ?_); rintro e w1 ⟨hg, r, rfl, hy, hn⟩; have HB1 := Lib.hid (((Below.refl _ w).alloc (Nat.le_refl _) _).trans (grown_below hg (Nat.le_refl _) (by simp))); have HY := Lib.hid hy; clear hg hy hn)
                     | (go_at_call 104; (with_reducible refine (HCl.out _ (Kd.S_ext HB1.out HT.out)).mono ?_); rintro e w2 ⟨cv, rfl, ho, hb2⟩; have HB2 := Lib.hid (bel_trans HB1.out hb2); have HO2 := Lib.hid (Kd.F_ext (bel_trans HB1.out hb2) HS.out); obtain ⟨VB, cV, rfl, q1, q2, hVC⟩ := Kd.O_read ho; have HVC := Lib.hid hVC; clear ho hb2 hVC)
                     | (at_builtin; refine wp_app_F AppI.bindings rfl rfl (Kd.F_ext (bel_alloc (Below.refl _ _) _) HO2.out) rfl (Kd.S_lit Kd.bind _ (x := (v, t)) (cs := [.int .i64 v, .slice VB t.length cV]) ⟨[.int .i64 v], [.slice VB t.length cV], rfl, rfl, _, rfl, VB, cV, rfl, q1, q2, HVC.out⟩ rfl) rfl (by simp) ?c3 ?c4 ?_; (case c3 => simp; omega); (case c4 => simp; have h2 := HB2.out.size; have h3 := Hb.out; omega); intro v2 w3 ho3 hg3; have HG3 := Lib.hid hg3; have HO3 := Lib.hid ho3; clear hg3 ho3))
  · have hr : r = true := by assumption
    exact absurd (HY.out hr) HR.out
  · go_ret2
    refine ⟨_, rfl, HO3.out, ?_⟩
    have h2 := HB2.out.size
    have h3 := Hb.out
    exact (Wrote.of_below h3 (bel_alloc HB2.out _)).trans HG3.out
end Go.Proofs.YtdoggcfdfkkedaaGreatDoor
