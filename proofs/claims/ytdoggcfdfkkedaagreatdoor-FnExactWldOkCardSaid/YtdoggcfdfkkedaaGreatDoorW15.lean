/- Lemmas and contracts for FnExactWldOk, part 15. -/
import Derived.Test.YtdoggcfdfkkedaaGreatDoorW14
import Derived.Test.YtdoggcfdfkkedaaGreatDoorW08
namespace Go.Proofs.YtdoggcfdfkkedaaGreatDoor
open Go.RowKit
set_option maxRecDepth 100000
set_option maxHeartbeats 4000000
set_option linter.unusedVariables false
def okB (s : Binds) (b : Int × Trm) : Prop := 0 ≤ b.1 ∧ b.1 ≤ 99999 ∧ trmOk b.2 = true ∧ ¬ Rch s b.2 b.1
theorem nodup_ix {s : Binds} : (s.map (·.1)).Nodup ↔ ∀ (i j : Nat) (a b : Int × Trm), s[i]? = some a → s[j]? = some b → j < i → b.1 ≠ a.1 := by
  rw [List.Nodup, List.pairwise_iff_getElem]
  constructor
  · intro h i j a b ha hb hji
    obtain ⟨ha1, ha2⟩ := List.getElem?_eq_some_iff.1 ha
    obtain ⟨hb1, hb2⟩ := List.getElem?_eq_some_iff.1 hb
    have := h j i (by rw [List.length_map]; exact hb1) (by rw [List.length_map]; exact ha1) hji
    rw [List.getElem_map, List.getElem_map, ha2, hb2] at this
    exact this
  · intro h j i hj hi hji
    rw [List.length_map] at hj hi
    have := h i j s[i] s[j] (List.getElem?_eq_getElem hi) (List.getElem?_eq_getElem hj) hji
    rw [List.getElem_map, List.getElem_map]
    exact this
theorem sub_yes {s : Binds} (h : ∀ (i : Nat) (a : Int × Trm), s[i]? = some a → okB s a ∧ ∀ (j : Nat) (b : Int × Trm), s[j]? = some b → j < i → b.1 ≠ a.1) : subOk s = true :=
  subOk_iff.2 ⟨fun b hb => by
    obtain ⟨i, hi, e⟩ := List.mem_iff_getElem.1 hb
    exact (h i b (by rw [List.getElem?_eq_getElem hi, e])).1, nodup_ix.2 fun i j a b ha hb hji => (h i a ha).2 j b hb hji⟩
theorem sub_no1 {s : Binds} {i : Nat} {a : Int × Trm} (ha : s[i]? = some a) (h : ¬ okB s a) : subOk s = false := by
  rw [Bool.eq_false_iff]
  intro hs
  exact h ((subOk_iff.1 hs).1 a (List.mem_of_getElem? ha))
theorem sub_no2 {s : Binds} {i j : Nat} {a b : Int × Trm} (ha : s[i]? = some a) (hb : s[j]? = some b) (hji : j < i) (h : b.1 = a.1) : subOk s = false := by
  rw [Bool.eq_false_iff]
  intro hs
  exact nodup_ix.1 (subOk_iff.1 hs).2 i j a b ha hb hji h
def Vall (s : Binds) : List Int := s.flatMap (fun b => vars b.2)
theorem Vall_len {s : Binds} : (Vall s).length ≤ (s.map (fun b => b.2.length)).sum := by
  unfold Vall
  induction s with
  | nil => simp
  | cons b s ih =>
    rw [List.flatMap_cons, List.length_append, List.map_cons, List.sum_cons]
    have := vars_len b.2
    omega
theorem Vall_in {s : Binds} {b : Int × Trm} (hb : b ∈ s) : ∀ x ∈ vars b.2, x ∈ Vall s := fun x hx => List.mem_flatMap.2 ⟨b, hb, hx⟩
theorem subOkS_c (s : Binds) (sv : Value) (w : World) (hs : B0 w sv s) (hf : fitB s) :
    Calls Tryz.prog 159 #[sv] w fun e w' => e = .returned (.bool (subOk s)) ∧ Below w.heap.size w w' := by
  have HS := Lib.hid hs
  have HF := Lib.hid hf
  have hl := hf.1
  have HLd := Lib.hid (fun (b : Int × Trm) (hb : b ∈ s) A c tv w' (hc : Kd.bind.C 216 w' A s) (ht : T0 w' tv b.2) => leads_c (Vall s) s A c b.2 tv w' hc (by omega) ht (fun v u hg => Vall_in (getB_in hg)) (Vall_in hb) (Nat.le_trans Vall_len hf.2.1) (fit_len (hf.2.2 b hb)) (fun v u hg => fit_len (hf.2.2 _ (getB_in hg))))
  obtain ⟨A, c, rfl, c1, c2, -⟩ := hs
  clear hf
  go_enter Tryz.func159, Tryz.ntmps159
  go_wp2
  go_loopw [3] (fun v3 wr => ∃ k : Nat, v3 = .int .i64 k ∧ k ≤ s.length ∧ Hid (∀ (i : Nat) (a : Int × Trm), i < k → s[i]? = some a → okB s a ∧ ∀ (j : Nat) (b : Int × Trm), s[j]? = some b → j < i → b.1 ≠ a.1) ∧ Hid (Below w.heap.size w wr)) (fun v3 _ => s.length - (intOf v3).toNat)
  case atStart => exact ⟨0, rfl, Nat.zero_le _, Lib.hid (fun i a h => by omega), Lib.hid (Below.refl _ _)⟩
  case round =>
    obtain ⟨k, rfl, hk, HP, HBr⟩ := hrel
    by_cases hlt : k < s.length
    · obtain ⟨b, hb⟩ : ∃ b, s[k]? = some b := ⟨_, List.getElem?_eq_getElem hlt⟩
      have Hb := Lib.hid hb
      obtain ⟨A0, c0, ev0, q1, q2, hC0⟩ := HS.out
      injection ev0 with u1 u2 u3
      obtain ⟨ad, B, cb, hA, y1, y2, y3, y4, y5⟩ := bind_at hC0 hb
      have hA2 := u1.trans hA
      have HTm := Lib.hid (show T0 w (.slice B b.2.length cb) b.2 from ⟨B, cb, rfl, y3, y4, y5⟩)
      have hbl := fit_len (HF.out.2.2 b (List.mem_of_getElem? hb))
      clear u1 u2 u3 hA hC0 y3 y4 y5 hb
      subst hA2
      have hst : ∀ W1 W2, Below W1.heap.size W1 W2 → (W1.cell? (ad.add (k * 2)) = some (.int .i64 b.1) ∧ W1.cell? ⟨(ad.add (k * 2)).block, (ad.add (k * 2)).off + 1, none⟩ = some (.slice B b.2.length cb) ∧ Hid (Below w.heap.size w W1)) → (W2.cell? (ad.add (k * 2)) = some (.int .i64 b.1) ∧ W2.cell? ⟨(ad.add (k * 2)).block, (ad.add (k * 2)).off + 1, none⟩ = some (.slice B b.2.length cb) ∧ Hid (Below w.heap.size w W2)) := fun W1 W2 hb h => ⟨cell_keep hb h.1, cell_keep hb h.2.1, Lib.hid (bel_trans h.2.2.out hb)⟩
      have hS0 := hst _ wr.drew (bel_drew (Below.refl _ _)) ⟨cell_keep HBr.out y1, cell_keep HBr.out y2, HBr⟩
      have Y1 := Lib.hid y1
      obtain ⟨qi, hqi⟩ : ∃ q, (decide (0 ≤ b.1) && decide (b.1 ≤ 99999)) = q := ⟨_, rfl⟩
      obtain ⟨qt, hqt⟩ : ∃ q, trmOk b.2 = q := ⟨_, rfl⟩
      have HI := Lib.hid (fun W => lIn_c b.1 0 99999 W)
      have HT := Lib.hid (fun W (hb : Below w.heap.size w W) => trmOkS_c b.2 _ W (Kd.S_ext hb HTm.out) hbl)
      rw [hqi] at HI
      rw [hqt] at HT
      cases qi with
      | false =>
        have HV := Lib.hid (show subOk s = false from sub_no1 Hb.out (fun h => by
          rw [decide_eq_true h.1, decide_eq_true h.2.1] at hqi; cases hqi))
        clear hqi hqt
        go_upto_region 4 with fail
        have hx1 := cell_keep HBr.out y1
        have hx2 := cell_keep HBr.out y2
        clear hS0
        refine wp_region_below (by kernel_rfl) (by kernel_rfl) ?_; (repeat (first | go_big_quiet_skip | (go_big_quiet_want; first | fail | (refine quiet_cell rfl rfl (fun W v hv => (by go_simp)) (fun W hW => BelC.cell hW (by assumption)) ?_; go_big_quiet_on; simp only [Act.put, List.setIfInBounds_toArray, List.set_cons_zero, List.set_cons_succ]) | (go_big_quiet_op; first | go_big_quiet_on | (refine ⟨_, fun W hW => (HI.out W).mono (fun e w' hh => ⟨hh.1, hh.2 ▸ hW⟩), ?_⟩; go_big_quiet_on) | (refine ⟨_, fun _ _ => rfl, ?_⟩; go_big_quiet_on))))); refine wpQuiet_nil ?_; intro w2 hw2
        have HB := Lib.hid (bel_trans HBr.out hw2.bel)
        clear hw2
        go_wp2
        go_ret
        exact ⟨ret_bool HV.out.symm, HB.out⟩
      | true =>
        cases qt with
        | false =>
          have HV := Lib.hid (show subOk s = false from sub_no1 Hb.out (fun h => by
            rw [h.2.2.1] at hqt; cases hqt))
          clear hqi hqt
          go_upto_region 4 with fail
          have hx1 := cell_keep HBr.out y1
          have hx2 := cell_keep HBr.out y2
          clear hS0
          refine wp_region_below (by kernel_rfl) (by kernel_rfl) ?_; (repeat (first | go_big_quiet_skip | (go_big_quiet_want; first | fail | (refine quiet_cell rfl rfl (fun W v hv => (by go_simp)) (fun W hW => BelC.cell hW (by assumption)) ?_; go_big_quiet_on; simp only [Act.put, List.setIfInBounds_toArray, List.set_cons_zero, List.set_cons_succ]) | (go_big_quiet_op; first | go_big_quiet_on | ((first | refine ⟨_, fun W hW => (HI.out W).mono (fun e w' hh => ⟨hh.1, hh.2 ▸ hW⟩), ?_⟩ | refine ⟨_, fun W hW => (HT.out W (bel_trans HBr.out hW.bel)).mono (fun e w' hh => ⟨hh.1, hW.step hh.2⟩), ?_⟩); go_big_quiet_on) | (refine ⟨_, fun _ _ => rfl, ?_⟩; go_big_quiet_on))))); refine wpQuiet_nil ?_; intro w2 hw2
          have HB := Lib.hid (bel_trans HBr.out hw2.bel)
          clear hw2
          go_wp2
          go_ret
          exact ⟨ret_bool HV.out.symm, HB.out⟩
        | true =>
          clear y1 y2
          obtain ⟨qr, hqr⟩ : ∃ q : Bool, (Rch s b.2 b.1 ↔ q = true) := by
            classical exact ⟨decide (Rch s b.2 b.1), by simp⟩
          have hmem := List.mem_of_getElem? Hb.out
          have HLk := Lib.hid (fun W (hb : Below w.heap.size w W) => HLd.out b hmem (some ad) c _ W (by
            obtain ⟨A0, c0, ev0, _, _, hC0⟩ := Kd.S_ext hb HS.out
            injection ev0 with u1 _ _
            rw [u1]; exact hC0) (Kd.S_ext hb HTm.out))
          have HHs : Hid (∀ W L v, (Kd.int .i64).S 3 W v L → (∀ x, x ∈ L ↔ Rch s b.2 x) → L.length ≤ 4000000 → Calls Tryz.prog 118 #[v, .int .i64 b.1] W fun e w' => e = .returned (.bool qr) ∧ W = w') := Lib.hid (fun W L v hv hL hl => by
            obtain ⟨A, c, rfl, _, _, hC⟩ := hv
            refine (has_c L A c b.1 W hC (by omega)).mono (fun e w' hh => ⟨?_, hh.2⟩)
            rw [hh.1]
            refine ret_bool ?_
            cases qr with
            | true => exact decide_eq_true ((hL _).2 (hqr.2 rfl))
            | false => exact decide_eq_false (fun h => by have := hqr.1 ((hL _).1 h); cases this))
          have HOk := Lib.hid (show qr = false → okB s b from fun h => by
            simp only [Bool.and_eq_true, decide_eq_true_eq] at hqi
            exact ⟨hqi.1, hqi.2, hqt, fun hr => by have := hqr.1 hr; rw [h] at this; cases this⟩)
          have HNo := Lib.hid (show qr = true → subOk s = false from fun h => sub_no1 Hb.out (fun hh => hh.2.2.2 (hqr.2 h)))
          clear hqi hqt hqr
          cases qr with
          | true =>
            have HV := Lib.hid (HNo.out rfl)
            clear HNo HOk hmem
            go_upto_region 4 with fail
            go_region_held3 (fun W => W.cell? (ad.add (k * 2)) = some (.int .i64 b.1) ∧ W.cell? ⟨(ad.add (k * 2)).block, (ad.add (k * 2)).off + 1, none⟩ = some (.slice B b.2.length cb) ∧ Hid (Below w.heap.size w W)) (assumption) (first | (go_at_call 18; refine (HI.out _).mono ?_; rintro e w1 ⟨rfl, rfl⟩) | (go_at_call 44; refine (HT.out _ (by have := hS0.2.2.out; exact this)).mono ?_; rintro e w2 ⟨rfl, hb2⟩; have hS2 := hst _ _ hb2 (by assumption); clear hb2) | (go_at_call 158; refine (HLk.out _ (by have := hS2.2.2.out; exact this)).mono ?_; rintro e w3 ⟨v3, L3, rfl, ho3, hm3, hl3, hb3⟩; have hS3 := hst _ _ hb3 (by assumption); have HO3 := Lib.hid (Kd.O_read ho3); have HM3 := Lib.hid hm3; have HL3 := Lib.hid hl3; clear hb3 ho3 hm3 hl3) | (go_at_call 118; refine (HHs.out _ _ _ HO3.out HM3.out HL3.out).mono ?_; rintro e w4 ⟨rfl, rfl⟩))
            all_goals
              have HB := hS3.2.2
              clear hS0 hst
              go_wp2
              go_ret
              exact ⟨ret_bool HV.out.symm, HB.out⟩
          | false =>
            have HOK := Lib.hid (HOk.out rfl)
            clear HNo HOk hmem
            go_upto_region 4 with fail
            go_region_held3 (fun W => W.cell? (ad.add (k * 2)) = some (.int .i64 b.1) ∧ W.cell? ⟨(ad.add (k * 2)).block, (ad.add (k * 2)).off + 1, none⟩ = some (.slice B b.2.length cb) ∧ Hid (Below w.heap.size w W)) (assumption) (first | (go_at_call 18; refine (HI.out _).mono ?_; rintro e w1 ⟨rfl, rfl⟩) | (go_at_call 44; refine (HT.out _ (by have := hS0.2.2.out; exact this)).mono ?_; rintro e w2 ⟨rfl, hb2⟩; have hS2 := hst _ _ hb2 (by assumption); clear hb2) | (go_at_call 158; refine (HLk.out _ (by have := hS2.2.2.out; exact this)).mono ?_; rintro e w3 ⟨v3, L3, rfl, ho3, hm3, hl3, hb3⟩; have hS3 := hst _ _ hb3 (by assumption); have HO3 := Lib.hid (Kd.O_read ho3); have HM3 := Lib.hid hm3; have HL3 := Lib.hid hl3; clear hb3 ho3 hm3 hl3) | (go_at_call 118; refine (HHs.out _ _ _ HO3.out HM3.out HL3.out).mono ?_; rintro e w4 ⟨rfl, rfl⟩))
            all_goals
              have HB3 := hS3.2.2
              clear hS0 hS2 hS3 hst
              go_wp2
              go_loopw [4] (fun v4 ws => ∃ j : Nat, v4 = .int .i64 j ∧ j ≤ k ∧ Hid (∀ (i : Nat) (a : Int × Trm), s[i]? = some a → i < j → a.1 ≠ b.1) ∧ Hid (Below w.heap.size w ws)) (fun v4 _ => k - (intOf v4).toNat)
              case atStart => exact ⟨0, rfl, Nat.zero_le _, Lib.hid (fun i a _ h => by omega), HB3⟩
              case round =>
                obtain ⟨j, rfl, hj, HJ, HBs⟩ := hrel
                by_cases hjk : j < k
                · obtain ⟨a, ha⟩ : ∃ a, s[j]? = some a := ⟨_, List.getElem?_eq_getElem (by omega)⟩
                  obtain ⟨A0, c0, ev0, q1, q2, hC0⟩ := HS.out
                  injection ev0 with u1 u2 u3
                  obtain ⟨ad', B', cb', hA, y1, y2, y3, y4, y5⟩ := bind_at hC0 ha
                  obtain rfl := Option.some.inj (u1.trans hA)
                  have x1 := cell_keep HBs.out y1
                  have x2 := cell_keep HBs.out Y1.out
                  clear u1 u2 u3 hA hC0 y1 y2 y3 y4 y5
                  by_cases he : a.1 = b.1
                  · have e1 : (a.1 == b.1) = true := beq_iff_eq.2 he
                    have HV := Lib.hid (sub_no2 Hb.out ha hjk he)
                    clear he ha
                    go_upto_region 9 with fail
                    go_quiet (fail)
                    go_wp2
                    go_ret
                    exact ⟨ret_bool HV.out.symm, bel_drewN HBs.out _⟩
                  · have e1 : (a.1 == b.1) = false := beq_eq_false_iff_ne.2 he
                    have HN := Lib.hid (show ∀ (i : Nat) (a' : Int × Trm), s[i]? = some a' → i < j + 1 → a'.1 ≠ b.1 from fun i a' ha' hi => by
                      rcases Nat.lt_or_ge i j with h | h
                      · exact HJ.out i a' ha' h
                      · obtain rfl : i = j := by omega
                        rw [ha] at ha'; obtain rfl := Option.some.inj ha'; exact he)
                    clear he ha
                    go_upto_region 9 with fail
                    go_quiet (fail)
                    go_wp2
                    exact ⟨⟨j + 1, by go_num, hjk, HN, Lib.hid (bel_drewN HBs.out _)⟩, by simp [intOf]; omega⟩
                · obtain rfl : j = k := by omega
                  have HN := Lib.hid (show ∀ (i : Nat) (a : Int × Trm), i < j + 1 → s[i]? = some a → okB s a ∧ ∀ (l : Nat) (b : Int × Trm), s[l]? = some b → l < i → b.1 ≠ a.1 from fun i a hi ha => by
                    rcases Nat.lt_or_ge i j with h | h
                    · exact HP.out i a h ha
                    · obtain rfl : i = j := by omega
                      rw [Hb.out] at ha; obtain rfl := Option.some.inj ha
                      exact ⟨HOK.out, fun l b' hb' hl' => HJ.out l b' hb' hl'⟩)
                  clear hjk
                  go_wp2
                  exact ⟨⟨j + 1, by go_num, hlt, HN, HBs⟩, by simp [intOf]; omega⟩
    · have HV := Lib.hid (show subOk s = true from sub_yes (fun i a ha => HP.out i a (by have := (List.getElem?_eq_some_iff.1 ha).1; omega) ha))
      go_wp2
      go_ret
      exact ⟨ret_bool HV.out.symm, HBr.out⟩
end Go.Proofs.YtdoggcfdfkkedaaGreatDoor
namespace Go.Proofs.YtdoggcfdfkkedaaGreatDoor
open Go.RowKit
set_option maxRecDepth 100000
set_option maxHeartbeats 8000000
set_option linter.unusedVariables false
theorem sgbox_at (w : World) (k : Int) (av bv cv : Value) (cut : Int) {w1 : World} (hb : Below ((w.alloc (.cells #[.int .i64 k, av, bv, cv, .int .i64 cut] 219)).alloc (.cells #[.int .i64 k, av, bv, cv] 137)).heap.size ((w.alloc (.cells #[.int .i64 k, av, bv, cv, .int .i64 cut] 219)).alloc (.cells #[.int .i64 k, av, bv, cv] 137)) w1) :
    w1.cell? ⟨w.heap.size, 4, none⟩ = some (.int .i64 cut) ∧ w1.cell? ⟨w.heap.size + 1, 0, none⟩ = some (.int .i64 k) ∧ w1.cell? ⟨w.heap.size + 1, 1, none⟩ = some av ∧ w1.cell? ⟨w.heap.size + 1, 2, none⟩ = some bv ∧ w1.cell? ⟨w.heap.size + 1, 3, none⟩ = some cv := by
  have h := heap_alloc_new w (.cells #[.int .i64 k, av, bv, cv, .int .i64 cut] 219)
  have h1 := cell_keep (bel_trans (bel_alloc (Below.refl _ _) _) hb) (Lib.cell_of_heap h 4)
  have h' := heap_alloc_new (w.alloc (.cells #[.int .i64 k, av, bv, cv, .int .i64 cut] 219)) (.cells #[.int .i64 k, av, bv, cv] 137)
  have hs : (w.alloc (.cells #[.int .i64 k, av, bv, cv, .int .i64 cut] 219)).heap.size = w.heap.size + 1 := by simp
  rw [hs] at h'
  exact ⟨h1, cell_keep hb (Lib.cell_of_heap h' 0), cell_keep hb (Lib.cell_of_heap h' 1), cell_keep hb (Lib.cell_of_heap h' 2), cell_keep hb (Lib.cell_of_heap h' 3)⟩
theorem sgoalS_c (g : SGoal) (v n : Int) (av bv cv : Value) (w : World) (hA : T0 w av g.g.a) (hB : T0 w bv g.g.b) (hC : T0 w cv g.g.c) (hf : fitG g.g) :
    Calls Tryz.prog 160 #[.agg #[.int .i64 g.g.k, av, bv, cv, .int .i64 g.cut], .int .i64 v, .int .i64 n] w fun e w' => e = .returned (.bool (sgOk v n g)) ∧ Below w.heap.size w w' := by
  obtain ⟨⟨k, a, b, c⟩, cut⟩ := g
  have HA := Lib.hid (fun w' hb => termS_c a v av w' (Kd.S_ext hb hA) (fit_len hf.1))
  have HB := Lib.hid (fun w' hb => termS_c b v bv w' (Kd.S_ext hb hB) (fit_len hf.2.1))
  have HC := Lib.hid (fun w' hb => termS_c c v cv w' (Kd.S_ext hb hC) (fit_len hf.2.2))
  have HI := Lib.hid (fun w' => lIn_c cut 0 n w')
  have HX := Lib.hid (fun w1 => sgbox_at w k av bv cv cut (w1 := w1))
  have H0 := Lib.hid (fun o o' => bel_alloc (bel_alloc (Below.refl _ w) o) o')
  have HCl := Lib.hid (fun w' hb => (show Calls Tryz.prog 45 #[av] w' fun e w2 => e = .returned (.bool (calls a)) ∧ w' = w2 by
    obtain ⟨A, c, rfl, _, _, h⟩ := Kd.S_ext (w := w) (w' := w') hb hA
    exact calls_c a A c w' h))
  have la := hf.1.1
  have lb := hf.2.1.1
  have lc := hf.2.2.1
  simp only at hA hB hC la lb lc
  clear hf
  obtain ⟨A1, n1, rfl, a1, a2, -⟩ := hA
  obtain ⟨A2, n2, rfl, b1, b2, -⟩ := hB
  obtain ⟨A3, n3, rfl, c1, c2, -⟩ := hC
  obtain ⟨qi, hqi⟩ : ∃ q, (decide (0 ≤ cut) && decide (cut ≤ n)) = q := ⟨_, rfl⟩
  obtain ⟨qa, hqa⟩ : ∃ q, termV v a = q := ⟨_, rfl⟩
  obtain ⟨qb, hqb⟩ : ∃ q, termV v b = q := ⟨_, rfl⟩
  obtain ⟨qc, hqc⟩ : ∃ q, termV v c = q := ⟨_, rfl⟩
  obtain ⟨ca, hca⟩ : ∃ q, calls a = q := ⟨_, rfl⟩
  rw [hqi] at HI
  rw [hqa] at HA
  rw [hqb] at HB
  rw [hqc] at HC
  rw [hca] at HCl
  unfold sgOk inR shapeOk
  dsimp only
  rw [hqi, hqa, hqb, hqc, hca]
  clear hqi hqa hqb hqc hca
  cases qi with
  | false =>
    rw [Bool.false_and, Bool.false_and]
    go_enter Tryz.func160, Tryz.ntmps160
    go_wp2_with (go_at_call 18; (with_reducible refine (HI.out _).mono ?_); rintro e w1 ⟨rfl, rfl⟩)
    go_ret
    exact ⟨rfl, H0.out _ _⟩
  | true =>
    rw [Bool.true_and]
    by_cases k3 : k = 3
    · subst k3
      rw [decide_eq_true rfl, Bool.true_or, Bool.true_and, if_neg (by decide), if_pos rfl]
      obtain ⟨q0, e0⟩ : ∃ q, ((a.length : Int) + (b.length : Int) + (c.length : Int) == 0) = q := ⟨_, rfl⟩
      rw [e0]
      cases q0
      all_goals
        go_enter Tryz.func160, Tryz.ntmps160
        go_wp2_with (go_at_call 18; (with_reducible refine (HI.out _).mono ?_); rintro e w1 ⟨rfl, rfl⟩)
        go_ret
        exact ⟨rfl, H0.out _ _⟩
    · rw [decide_eq_false k3, Bool.false_or]
      have e3 : (k == 3) = false := beq_eq_false_iff_ne.2 k3
      have e3n : (k != 3) = true := by unfold bne; rw [e3]; rfl
      by_cases kc : cut = 0
      · subst kc
        rw [decide_eq_true rfl, Bool.true_and]
        by_cases k1 : k = 1 ∨ k = 6
        · rw [if_pos k1]
          obtain ⟨q0, e0⟩ : ∃ q, ((b.length : Int) + (c.length : Int) == 0) = q := ⟨_, rfl⟩
          rw [e0]
          clear k3 e3 e3n
          rcases k1 with rfl | rfl
          all_goals (cases qa <;> cases ca <;> cases q0)
          all_goals
            go_enter Tryz.func160, Tryz.ntmps160
            go_wp2_with (first | (go_at_call 18; (with_reducible refine (HI.out _).mono ?_); rintro e w1 ⟨rfl, rfl⟩) | (go_at_call 123; (with_reducible refine (HA.out _ (H0.out _ _)).mono ?_); rintro e w1 ⟨rfl, hb1⟩; obtain ⟨x0, x1, x2, x3, x4⟩ := HX.out _ hb1; have HB1 := Lib.hid (bel_trans (H0.out _ _) hb1); clear hb1) | (go_at_call 45; (with_reducible refine (HCl.out _ HB1.out).mono ?_); rintro e w2 ⟨rfl, rfl⟩))
            go_ret
            exact ⟨rfl, HB1.out⟩
        · rw [if_neg k1, if_neg k3]
          have e1 : (k == 1) = false := beq_eq_false_iff_ne.2 (fun h => k1 (.inl h))
          have e6 : (k == 6) = false := beq_eq_false_iff_ne.2 (fun h => k1 (.inr h))
          by_cases k24 : k = 2 ∨ k = 4
          · rw [if_pos k24]
            obtain ⟨q0, e0⟩ : ∃ q, ((c.length : Int) == 0) = q := ⟨_, rfl⟩
            rw [e0]
            clear k1 k3 e1 e3 e6 e3n
            rcases k24 with rfl | rfl
            all_goals (cases qa <;> cases qb <;> cases q0)
            all_goals
              go_enter Tryz.func160, Tryz.ntmps160
              go_wp2_with (first | (go_at_call 18; (with_reducible refine (HI.out _).mono ?_); rintro e w1 ⟨rfl, rfl⟩) | (go_at_call 123; (with_reducible refine (HA.out _ (H0.out _ _)).mono ?_); rintro e w1 ⟨rfl, hb1⟩; obtain ⟨x0, x1, x2, x3, x4⟩ := HX.out _ hb1; have Hb1 := Lib.hid hb1; have HB1 := Lib.hid (bel_trans (H0.out _ _) hb1); clear hb1) | (go_at_call 123; (with_reducible refine (HB.out _ HB1.out).mono ?_); rintro e w2 ⟨rfl, hb2⟩; obtain ⟨z0, z1, z2, z3, z4⟩ := HX.out _ (bel_trans Hb1.out hb2); have HB2 := Lib.hid (bel_trans HB1.out hb2); clear hb2))
              go_ret
              first | exact ⟨rfl, HB2.out⟩ | exact ⟨rfl, HB1.out⟩
          · rw [if_neg k24]
            by_cases k5 : k = 5
            · subst k5
              rw [if_pos rfl]
              clear k1 k3 e1 e3 e6 k24 e3n
              cases qa <;> cases qb <;> cases qc
              all_goals
                go_enter Tryz.func160, Tryz.ntmps160
                go_wp2_with (first | (go_at_call 18; (with_reducible refine (HI.out _).mono ?_); rintro e w1 ⟨rfl, rfl⟩) | (go_at_call 123; (with_reducible refine (HA.out _ (H0.out _ _)).mono ?_); rintro e w1 ⟨rfl, hb1⟩; obtain ⟨x0, x1, x2, x3, x4⟩ := HX.out _ hb1; have Hb1 := Lib.hid hb1; have HB1 := Lib.hid (bel_trans (H0.out _ _) hb1); clear hb1) | (go_at_call 123; (with_reducible refine (HB.out _ HB1.out).mono ?_); rintro e w2 ⟨rfl, hb2⟩; obtain ⟨z0, z1, z2, z3, z4⟩ := HX.out _ (bel_trans Hb1.out hb2); have HB2 := Lib.hid (bel_trans HB1.out hb2); clear hb2) | (go_at_call 123; (with_reducible refine (HC.out _ HB2.out).mono ?_); rintro e w3 ⟨rfl, hb3⟩; have HB3 := Lib.hid (bel_trans HB2.out hb3); clear hb3))
                go_ret
                first | exact ⟨rfl, HB3.out⟩ | exact ⟨rfl, HB2.out⟩ | exact ⟨rfl, HB1.out⟩
            · rw [if_neg k5]
              have e2 : (k == 2) = false := beq_eq_false_iff_ne.2 (fun h => k24 (.inl h))
              have e4 : (k == 4) = false := beq_eq_false_iff_ne.2 (fun h => k24 (.inr h))
              have e5 : (k == 5) = false := beq_eq_false_iff_ne.2 k5
              clear k1 k3 k24 k5
              go_enter Tryz.func160, Tryz.ntmps160
              go_wp2_with (go_at_call 18; (with_reducible refine (HI.out _).mono ?_); rintro e w1 ⟨rfl, rfl⟩)
              go_ret
              exact ⟨rfl, H0.out _ _⟩
      · rw [decide_eq_false kc, Bool.false_and]
        have ec : (cut == 0) = false := beq_eq_false_iff_ne.2 kc
        have ecn : (cut != 0) = true := by unfold bne; rw [ec]; rfl
        clear kc k3
        go_enter Tryz.func160, Tryz.ntmps160
        go_wp2_with (go_at_call 18; (with_reducible refine (HI.out _).mono ?_); rintro e w1 ⟨rfl, rfl⟩)
        go_ret
        exact ⟨rfl, H0.out _ _⟩
theorem gs_split {xs : List SGoal} {k : Nat} {f : SGoal → Bool} (hlt : k < xs.length) {x : SGoal} (hc : xs[k]? = some x) : (xs.drop k).all f = (f x && (xs.drop (k + 1)).all f) := by
  rw [List.drop_eq_getElem_cons hlt, (List.getElem?_eq_some_iff.1 hc).2, List.all_cons]
theorem bs_split {xs : Binds} {k : Nat} {n : Int} (hlt : k < xs.length) {x : Int × Trm} (hc : xs[k]? = some x) : bindsBelow (xs.drop k) n = ((decide (x.1 < n) && belowV n x.2) && bindsBelow (xs.drop (k + 1)) n) := by
  unfold bindsBelow
  rw [List.drop_eq_getElem_cons hlt, (List.getElem?_eq_some_iff.1 hc).2, List.all_cons]
theorem fineS_c (gs : List SGoal) (s : Binds) (v n : Int) (gv sv : Value) (w : World) (hg : G0 w gv gs) (hs : B0 w sv s) (hfg : fitGs gs) (hfs : fitB s) :
    Calls Tryz.prog 122 #[gv, sv, .int .i64 v, .int .i64 n] w fun e w' => e = .returned (.bool (fineOk gs s v n)) ∧ Below w.heap.size w w' := by
  have HI := Lib.hid (fun w' => lIn_c v 0 99999 w')
  have HSb := Lib.hid (fun w' hb => subOkS_c s sv w' (Kd.S_ext (w := w) hb hs) hfs)
  have HG := Lib.hid (fun w' hb g (hm : g ∈ gs) av bv cv (a1 : T0 w av g.g.a) (a2 : T0 w bv g.g.b) (a3 : T0 w cv g.g.c) => sgoalS_c g v n av bv cv w' (Kd.S_ext (w := w) hb a1) (Kd.S_ext hb a2) (Kd.S_ext hb a3) (hfg.2 g hm))
  have HT := Lib.hid (fun w' hb b (hm : b ∈ s) tv (a1 : T0 w tv b.2) => termS_c b.2 v tv w' (Kd.S_ext (w := w) hb a1) (fit_len (hfs.2.2 b hm)))
  have Hg := Lib.hid hg
  have Hs := Lib.hid hs
  have lg := hfg.1
  have ls := hfs.1
  obtain ⟨A, na, rfl, a1, a2, -⟩ := hg
  obtain ⟨B, nb, rfl, b1, b2, -⟩ := hs
  obtain ⟨qi, hqi⟩ : ∃ q, (decide (0 ≤ v) && decide (v ≤ 99999)) = q := ⟨_, rfl⟩
  obtain ⟨qs, hqs⟩ : ∃ q, subOk s = q := ⟨_, rfl⟩
  rw [hqi] at HI
  rw [hqs] at HSb
  have hV : fineOk gs s v n = (qi && qs && gs.all (sgOk v n) && bindsBelow s v) := by unfold fineOk inR; rw [hqi, hqs]
  have HTr := Lib.hid (show qs = true → ∀ b ∈ s, trmOk b.2 = true from fun h b hb => by
    rw [h] at hqs; exact ((subOk_iff.1 hqs).1 b hb).2.2.1)
  clear hqi hqs hfg hfs
  cases qi with
  | false =>
    have HV := Lib.hid (show fineOk gs s v n = false by rw [hV]; rfl)
    clear hV HTr
    go_enter Tryz.func122, Tryz.ntmps122
    go_wp2_with (go_at_call 18; (with_reducible refine (HI.out _).mono ?_); rintro e w1 ⟨rfl, rfl⟩)
    go_ret
    exact ⟨ret_bool HV.out.symm, Below.refl _ _⟩
  | true =>
    cases qs with
    | false =>
      have HV := Lib.hid (show fineOk gs s v n = false by rw [hV]; rfl)
      clear hV HTr
      go_enter Tryz.func122, Tryz.ntmps122
      go_wp2_with (first | (go_at_call 18; (with_reducible refine (HI.out _).mono ?_); rintro e w1 ⟨rfl, rfl⟩) | (go_at_call 159; (with_reducible refine (HSb.out _ (Below.refl _ _)).mono ?_); rintro e w2 ⟨rfl, hb2⟩))
      go_ret
      exact ⟨ret_bool HV.out.symm, hb2⟩
    | true =>
      have HV := Lib.hid (show fineOk gs s v n = (gs.all (sgOk v n) && bindsBelow s v) by rw [hV]; rfl)
      have HTs := Lib.hid (HTr.out rfl)
      clear hV HTr
      go_enter Tryz.func122, Tryz.ntmps122
      go_wp2_with (first | (go_at_call 18; (with_reducible refine (HI.out _).mono ?_); rintro e w1 ⟨rfl, rfl⟩) | (go_at_call 159; (with_reducible refine (HSb.out _ (Below.refl _ _)).mono ?_); rintro e w2 ⟨rfl, hb2⟩; have HB2 := Lib.hid hb2; clear hb2))
      go_loopw [9] (fun v9 wr => ∃ k : Nat, v9 = .int .i64 k ∧ k ≤ gs.length ∧ Hid ((gs.drop k).all (sgOk v n) = gs.all (sgOk v n)) ∧ Hid (Below w.heap.size w wr)) (fun v9 _ => gs.length - (intOf v9).toNat)
      case atStart => exact ⟨0, rfl, Nat.zero_le _, Lib.hid (by simp), HB2⟩
      case round =>
        obtain ⟨k, rfl, hk, HA, HBr⟩ := hrel
        by_cases hlt : k < gs.length
        · obtain ⟨g, hc⟩ : ∃ g, gs[k]? = some g := ⟨_, List.getElem?_eq_getElem hlt⟩
          obtain ⟨A', c2, ev, _, _, hC⟩ := Hg.out
          injection ev with u1 u2 u3
          obtain ⟨ad, av, bv, cv, had, z0, z1, z2, z3, z4, t1, t2, t3⟩ := sgoal_at hC hc
          have had2 := u1.trans had
          have hA := HA.out
          rw [gs_split hlt hc] at hA
          have hmem := List.mem_of_getElem? hc
          have HGk := Lib.hid (fun W hb => HG.out W hb g hmem av bv cv t1 t2 t3)
          have v0 := cell_keep HBr.out z0
          have v1 := cell_keep HBr.out z1
          have v2 := cell_keep HBr.out z2
          have v3 := cell_keep HBr.out z3
          have v4 := cell_keep HBr.out z4
          clear u1 u2 u3 had hC hc z0 z1 z2 z3 z4 t1 t2 t3 hmem
          subst had2
          cases hq : sgOk v n g with
          | true =>
            rw [hq] at hA HGk
            have HR := Lib.hid hA
            clear hA hq
            go_wp2_with (go_at_call 160; (with_reducible refine (HGk.out _ HBr.out).mono ?_); rintro e w3 ⟨rfl, hb3⟩)
            exact ⟨⟨k + 1, by go_num, hlt, Lib.hid (by have := HR.out; rwa [Bool.true_and] at this), Lib.hid (bel_trans HBr.out hb3)⟩, by simp [intOf]; omega⟩
          | false =>
            rw [hq] at hA HGk
            have HR := Lib.hid (show fineOk gs s v n = false by rw [HV.out, ← hA]; rfl)
            clear hA hq
            go_wp2_with (go_at_call 160; (with_reducible refine (HGk.out _ HBr.out).mono ?_); rintro e w3 ⟨rfl, hb3⟩)
            go_ret
            exact ⟨ret_bool HR.out.symm, bel_trans HBr.out hb3⟩
        · have HW := Lib.hid (show fineOk gs s v n = bindsBelow s v by rw [HV.out, ← HA.out, List.drop_of_length_le (by omega)]; rfl)
          clear HA
          go_wp2
          clear hk hlt
          go_loopw [10] (fun v10 ws => ∃ k : Nat, v10 = .int .i64 k ∧ k ≤ s.length ∧ Hid (bindsBelow (s.drop k) v = bindsBelow s v) ∧ Hid (Below w.heap.size w ws)) (fun v10 _ => s.length - (intOf v10).toNat)
          case atStart => exact ⟨0, rfl, Nat.zero_le _, Lib.hid (by simp), HBr⟩
          case round =>
            obtain ⟨k, rfl, hk, HA, HBs⟩ := hrel
            by_cases hlt : k < s.length
            · obtain ⟨b, hc⟩ : ∃ b, s[k]? = some b := ⟨_, List.getElem?_eq_getElem hlt⟩
              obtain ⟨B', c2, ev, _, _, hC⟩ := Hs.out
              injection ev with u1 u2 u3
              obtain ⟨ad, TB, cb, had, z0, z1, y3, y4, y5⟩ := bind_at hC hc
              have had2 := u1.trans had
              have hA := HA.out
              rw [bs_split hlt hc] at hA
              have hmem := List.mem_of_getElem? hc
              have HTk := Lib.hid (fun W hb => HT.out W hb b hmem (.slice TB b.2.length cb) ⟨TB, cb, rfl, y3, y4, y5⟩)
              have htk := HTs.out b hmem
              have htv : termV v b.2 = belowV v b.2 := by unfold termV; rw [htk]; rfl
              rw [htv] at HTk
              have v0 := cell_keep HBs.out z0
              have v1 := cell_keep HBs.out z1
              clear u1 u2 u3 had hC hc z0 z1 y3 y4 y5 hmem htk htv
              subst had2
              by_cases hbv : b.1 < v
              · have e1 : decide (v ≤ b.1) = false := decide_eq_false (by omega)
                rw [decide_eq_true hbv, Bool.true_and] at hA
                clear hbv
                cases hq : belowV v b.2 with
                | true =>
                  rw [hq] at hA HTk
                  have HR := Lib.hid hA
                  clear hA hq
                  go_wp2_with (go_at_call 123; (with_reducible refine (HTk.out _ HBs.out).mono ?_); rintro e w3 ⟨rfl, hb3⟩)
                  exact ⟨⟨k + 1, by go_num, hlt, Lib.hid (by have := HR.out; rwa [Bool.true_and] at this), Lib.hid (bel_trans HBs.out hb3)⟩, by simp [intOf]; omega⟩
                | false =>
                  rw [hq] at hA HTk
                  have HR := Lib.hid (show fineOk gs s v n = false by rw [HW.out, ← hA]; rfl)
                  clear hA hq
                  go_wp2_with (go_at_call 123; (with_reducible refine (HTk.out _ HBs.out).mono ?_); rintro e w3 ⟨rfl, hb3⟩)
                  go_ret
                  exact ⟨ret_bool HR.out.symm, bel_trans HBs.out hb3⟩
              · have e1 : decide (v ≤ b.1) = true := decide_eq_true (by omega)
                have HR := Lib.hid (show fineOk gs s v n = false by rw [HW.out, ← hA, decide_eq_false hbv]; rfl)
                clear hA hbv
                go_wp2
                go_ret
                exact ⟨ret_bool HR.out.symm, HBs.out⟩
            · have HR := Lib.hid (show fineOk gs s v n = true by rw [HW.out, ← HA.out, List.drop_of_length_le (by omega)]; rfl)
              go_wp2
              go_ret
              exact ⟨ret_bool HR.out.symm, HBs.out⟩
end Go.Proofs.YtdoggcfdfkkedaaGreatDoor
namespace Go.Proofs.YtdoggcfdfkkedaaGreatDoor
set_option linter.unusedVariables false
def farAllS (p : Prog) (node : Int) (B : Binds) (i : Nat) (c : TCh) : Bool :=
  decide (1 ≤ c.far) && decide (c.far ≤ 12000) && decide (c.next = 0) && trmOk c.call && calls c.call && decide (nodeOf p c.call ≠ node)
noncomputable def farAll2 (B : Binds) (i : Nat) (c : TCh) : Bool := fineOk c.goals (B.take c.mark.toNat) c.vars i && termV c.vars c.call
noncomputable def chOneS (p : Prog) (node : Int) (B : Binds) (V m v : Int) (i : Nat) (c : TCh) : Bool :=
  (decide (m ≤ c.mark) && decide (v ≤ c.vars) && decide (c.mark ≤ B.length) && decide (c.vars ≤ V)) &&
  (if 0 < c.far then farAllS p node B i c && farAll2 B i c else decide (0 ≤ c.far) && (fineOk c.goals (B.take c.mark.toNat) c.vars i && (termV c.vars c.call && (calls c.call && nearOk p c))))
noncomputable def chAllS (p : Prog) (node : Int) (B : Binds) (V : Int) : Int → Int → Nat → List TCh → Bool
  | _, _, _, [] => true
  | m, v, i, c :: cs => chOneS p node B V m v i c && chAllS p node B V c.mark c.vars (i + 1) cs
def noFar (cs : List TCh) : Bool := cs.all (fun c => decide (c.far = 0))
theorem fine_take {gs : List SGoal} {B : Binds} {v n : Int} {k : Nat} (hB : SubOk' B) (hv : 0 ≤ v ∧ v ≤ 99999) : fineOk gs (B.take k) v n = (gs.all (sgOk v n) && bindsBelow (B.take k) v) := by
  unfold fineOk
  rw [inR_iff.2 hv, subOk_iff.2 (sub_take hB k)]; rfl
theorem chOneS_eq {p : Prog} {node : Int} {B : Binds} {V m v : Int} {i : Nat} {c : TCh} (hB : SubOk' B) (hV : V ≤ 99999) (hv : 0 ≤ v) (hn : -1 ≤ node) (hnf : node < 0 → c.far = 0) : chOneS p node B V m v i c = chOne p node B V m v i c := by
  rw [Bool.eq_iff_iff, chOne_iff]
  unfold chOneS farAllS farAll2 termV
  simp only [Bool.and_eq_true, decide_eq_true_eq]
  constructor
  · rintro ⟨⟨⟨⟨h1, h2⟩, h3⟩, h4⟩, h5⟩
    split at h5
    · rename_i hf
      simp only [Bool.and_eq_true, decide_eq_true_eq] at h5
      obtain ⟨⟨⟨⟨⟨⟨f1, f2⟩, f3⟩, f4⟩, f5⟩, f6⟩, g1, g2, g3⟩ := h5
      rw [fine_take hB ⟨by omega, by omega⟩, Bool.and_eq_true] at g1
      refine ⟨⟨h1, h3⟩, ⟨h2, h4⟩, g1.2, g1.1, f4, f5, g3, ?_⟩
      rw [if_neg (by omega)]
      unfold farOk
      have : node ≠ -1 := fun e => by have := hnf (by omega); omega
      simp [this, inR, f1, f2, f3, f6]
    · rename_i hf
      simp only [Bool.and_eq_true, decide_eq_true_eq] at h5
      obtain ⟨f0, g1, ⟨g2, g3⟩, f5, f6⟩ := h5
      rw [fine_take hB ⟨by omega, by omega⟩, Bool.and_eq_true] at g1
      refine ⟨⟨h1, h3⟩, ⟨h2, h4⟩, g1.2, g1.1, g2, f5, g3, ?_⟩
      rw [if_pos (by omega)]; exact f6
  · intro h
    refine ⟨⟨⟨⟨h.mr.1, h.vr.1⟩, h.mr.2⟩, h.vr.2⟩, ?_⟩
    have hmr := h.mr
    have hvr := h.vr
    have hnf' := h.nf
    rw [fine_take hB ⟨by omega, by omega⟩]
    split
    · rename_i hf
      rw [if_neg (by omega)] at hnf'
      unfold farOk at hnf'
      simp only [Bool.and_eq_true, decide_eq_true_eq, inR_iff] at hnf'
      simp [hnf'.1.1.2, hnf'.1.2, hnf'.2, h.tm, h.cl, h.gs, h.bb, h.bl]
    · rename_i hf
      have h0 : c.far = 0 := by
        apply Decidable.byContradiction
        intro hne
        rw [if_neg hne] at hnf'
        unfold farOk at hnf'
        simp only [Bool.and_eq_true, decide_eq_true_eq, inR_iff] at hnf'
        omega
      rw [if_pos h0] at hnf'
      simp [h0, h.gs, h.bb, h.tm, h.bl, h.cl, hnf']
theorem chAllS_eq {p : Prog} {node : Int} {B : Binds} {V : Int} (hB : SubOk' B) (hV : V ≤ 99999) (hn : -1 ≤ node) : ∀ {cs : List TCh} {m v : Int} {i : Nat}, 0 ≤ v → (node < 0 → noFar cs = true) → chAllS p node B V m v i cs = chAll p node B V m v i cs
  | [], m, v, i, _, _ => rfl
  | c :: cs, m, v, i, hv, hf => by
    have hc : node < 0 → c.far = 0 := fun h => by
      have := hf h
      unfold noFar at this
      rw [List.all_cons, Bool.and_eq_true] at this
      simpa using this.1
    rw [chAllS, chAll, chOneS_eq hB hV hv hn hc]
    cases ho : chOne p node B V m v i c with
    | false => rfl
    | true =>
      have := (chOne_iff.1 ho).vr
      rw [chAllS_eq hB hV hn (by omega) (fun h => by
        have := hf h
        unfold noFar at this ⊢
        rw [List.all_cons, Bool.and_eq_true] at this
        exact this.2)]
theorem chAll_noFar {p : Prog} {node : Int} {B : Binds} {V : Int} (hn : -1 ≤ node) (hneg : node < 0) : ∀ {cs : List TCh} {m v : Int} {i : Nat}, chAll p node B V m v i cs = true → noFar cs = true
  | [], m, v, i, _ => rfl
  | c :: cs, m, v, i, h => by
    rw [chAll, Bool.and_eq_true, chOne_iff] at h
    unfold noFar
    rw [List.all_cons, Bool.and_eq_true]
    refine ⟨?_, chAll_noFar hn hneg h.2⟩
    have := h.1.nf
    apply Decidable.byContradiction
    intro hne
    rw [if_neg (by simpa using hne)] at this
    unfold farOk at this
    have e : node = -1 := by omega
    simp [e] at this
noncomputable def tOkS (p : Prog) (node : Int) (s : TSt) : Bool :=
  (prgOk p && inR node (-1) 2 && isQ s.top) && (if 3 ≤ s.st ∧ s.st ≤ 5 then nothing s else
    (fineOk s.goals s.binds s.vars s.ch.length && termV s.vars s.top && chAllS p node s.binds s.vars 0 0 0 s.ch) && (if node < 0 then noFar s.ch else true) && statOk s)
theorem tOkS_eq (p : Prog) (node : Int) (s : TSt) : tOkS p node s = tOk p node s := by
  unfold tOkS tOk
  cases hp : (prgOk p && inR node (-1) 2 && isQ s.top) with
  | false => rfl
  | true =>
    rw [Bool.true_and, Bool.true_and]
    simp only [Bool.and_eq_true, inR_iff] at hp
    split
    · rfl
    · unfold liveOk
      cases hf : fineOk s.goals s.binds s.vars s.ch.length with
      | false => rfl
      | true =>
        have hf' := hf
        unfold fineOk at hf'
        simp only [Bool.and_eq_true, inR_iff] at hf'
        have hB := subOk_iff.1 hf'.1.1.2
        have ht : termV s.vars s.top = belowV s.vars s.top := by unfold termV; rw [(isQ_ok hp.2).1]; rfl
        rw [ht]
        cases belowV s.vars s.top with
        | false => rfl
        | true =>
          simp only [Bool.true_and]
          by_cases hneg : node < 0
          · rw [if_pos hneg]
            cases hnf : noFar s.ch with
            | true => rw [chAllS_eq hB hf'.1.1.1.2 hp.1.2.1 (Int.le_refl _) (fun _ => hnf), Bool.and_true]
            | false =>
              have : chAll p node s.binds s.vars 0 0 0 s.ch = false := by
                rw [Bool.eq_false_iff]
                intro h
                rw [chAll_noFar hp.1.2.1 hneg h] at hnf; cases hnf
              rw [this, Bool.and_false]
          · rw [if_neg hneg, chAllS_eq hB hf'.1.1.1.2 hp.1.2.1 (Int.le_refl _) (fun h => absurd h hneg), Bool.and_true]
theorem fitB_take {s : Binds} (h : fitB s) (k : Nat) : fitB (s.take k) := by
  refine ⟨Nat.le_trans (List.length_take_le' _ _) h.1, ?_, fun b hb => h.2.2 b (List.mem_of_mem_take hb)⟩
  have : ∀ (l : List Nat) (k : Nat), (l.take k).sum ≤ l.sum := fun l => by
    induction l with
    | nil => intro k; simp
    | cons a l ih =>
      intro k
      cases k with
      | zero => simp
      | succ k => rw [List.take_succ_cons, List.sum_cons, List.sum_cons]; have := ih k; omega
  rw [List.map_take]
  exact Nat.le_trans (this _ _) h.2.1
end Go.Proofs.YtdoggcfdfkkedaaGreatDoor
namespace Go.Proofs.YtdoggcfdfkkedaaGreatDoor
open Go.RowKit
set_option maxRecDepth 100000
set_option maxHeartbeats 8000000
set_option linter.unusedVariables false
structure PrR (w : World) (p : Prog) (cv pv : Value) : Prop where
  c : Kd.clause.S 92 w cv p.cl
  p : Kd.place.S 95 w pv p.pl
structure StR (w : World) (s : TSt) (gv bv cv tv ov : Value) : Prop where
  g : G0 w gv s.goals
  b : B0 w bv s.binds
  c : Kd.tch.S 183 w cv s.ch
  t : T0 w tv s.top
  o : T0 w ov s.out
theorem PrR.ext {w w' : World} {p : Prog} {cv pv : Value} (h : PrR w p cv pv) (hb : Below w.heap.size w w') : PrR w' p cv pv := ⟨Kd.S_ext hb h.c, Kd.S_ext hb h.p⟩
theorem StR.ext {w w' : World} {s : TSt} {gv bv cv tv ov : Value} (h : StR w s gv bv cv tv ov) (hb : Below w.heap.size w w') : StR w' s gv bv cv tv ov := ⟨Kd.S_ext hb h.g, Kd.S_ext hb h.b, Kd.S_ext hb h.c, Kd.S_ext hb h.t, Kd.S_ext hb h.o⟩
theorem keep_cells {w0 w1 : World} {g t : Nat} {cs : Array Value} {fz : Nat × Nat} (h : w0.heap[g]? = some (.cells cs t fz)) (hb : Below w0.heap.size w0 w1) : ∀ i u, cs[i]? = some u → w1.cell? ⟨g, i, none⟩ = some u := fun i u hu => cell_keep hb (by rw [cell_of_row w0 g i cs t fz h]; exact hu)
theorem heap1 (w : World) (o1 o2 : Obj) : ((w.alloc o1).alloc o2).heap[w.heap.size]? = some o1 := by
  have h := heap_alloc_new w o1
  exact (((Below.refl _ (w.alloc o1)).alloc (Nat.le_refl _) o2).block _ (Array.getElem?_eq_some_iff.1 h).1).trans h
theorem heap2 (w : World) (o1 o2 : Obj) : ((w.alloc o1).alloc o2).heap[w.heap.size + 1]? = some o2 := by
  have h := heap_alloc_new (w.alloc o1) o2
  have hs : (w.alloc o1).heap.size = w.heap.size + 1 := by simp
  rwa [hs] at h
def CB (p1 p2 st gv bv vs cv tv ov x0 x1 x2 x3 x4 x5 : Value) (g : Nat) (w1 : World) : Prop :=
  w1.cell? ⟨g, 0, none⟩ = some p1 ∧ w1.cell? ⟨g, 1, none⟩ = some p2 ∧ w1.cell? ⟨g + 1, 2, none⟩ = some bv ∧ w1.cell? ⟨g + 2, 0, none⟩ = some x0 ∧ w1.cell? ⟨g + 2, 1, none⟩ = some x1 ∧ w1.cell? ⟨g + 2, 2, none⟩ = some x2 ∧ w1.cell? ⟨g + 2, 3, none⟩ = some x3 ∧ w1.cell? ⟨g + 2, 4, none⟩ = some x4 ∧ w1.cell? ⟨g + 2, 5, none⟩ = some x5
theorem far_box {w : World} {p1 p2 st gv bv vs cv tv ov x0 x1 x2 x3 x4 x5 : Value} {t1 t2 t3 : TypeId} {w1 : World} (hb : Below (((w.alloc (.cells #[p1, p2] t1)).alloc (.cells #[st, gv, bv, vs, cv, tv, ov] t2)).alloc (.cells #[x0, x1, x2, x3, x4, x5] t3)).heap.size (((w.alloc (.cells #[p1, p2] t1)).alloc (.cells #[st, gv, bv, vs, cv, tv, ov] t2)).alloc (.cells #[x0, x1, x2, x3, x4, x5] t3)) w1) :
    CB p1 p2 st gv bv vs cv tv ov x0 x1 x2 x3 x4 x5 w.heap.size w1 := by
  have hs : (w.alloc (.cells #[p1, p2] t1)).heap.size = w.heap.size + 1 := by simp
  have a := bel_trans (bel_alloc (Below.refl _ _) _) hb
  have k1 := keep_cells (heap1 w (.cells #[p1, p2] t1) (.cells #[st, gv, bv, vs, cv, tv, ov] t2)) a
  have k2 := keep_cells (heap2 w (.cells #[p1, p2] t1) (.cells #[st, gv, bv, vs, cv, tv, ov] t2)) a
  have k3 := keep_cells (heap2 (w.alloc (.cells #[p1, p2] t1)) (.cells #[st, gv, bv, vs, cv, tv, ov] t2) (.cells #[x0, x1, x2, x3, x4, x5] t3)) hb
  rw [hs] at k3
  exact ⟨k1 0 _ rfl, k1 1 _ rfl, k2 2 _ rfl, k3 0 _ rfl, k3 1 _ rfl, k3 2 _ rfl, k3 3 _ rfl, k3 4 _ rfl, k3 5 _ rfl⟩
theorem farS_c (p : Prog) (s : TSt) (k : Nat) (c : TCh) (node : Int) (p1 p2 gv bv cv tv ov : Value) (w : World) (hp : PrR w p p1 p2) (hs : StR w s gv bv cv tv ov) (hc : s.ch[k]? = some c) (hm : 0 ≤ c.mark ∧ c.mark ≤ s.binds.length)
    (hfp : p.pl.length ≤ 4000000) (hfc : fitCh c) (hfb : fitB (s.binds.take c.mark.toNat)) (hl : s.ch.length ≤ 4000000) (hlb : s.binds.length ≤ 4000000) :
    Calls Tryz.prog 161 #[.agg #[p1, p2], .agg #[.int .i64 s.st, gv, bv, .int .i64 s.vars, cv, tv, ov], .int .i64 k, .int .i64 node] w fun e w' => e = .returned (.bool (farAllS p node s.binds k c && farAll2 s.binds k c)) ∧ Below w.heap.size w w' := by
  have hlt := (List.getElem?_eq_some_iff.1 hc).1
  obtain ⟨CA, cn, rfl, n1, n2, hC⟩ := hs.c
  obtain ⟨ad, xg, xa, rfl, y0, y1, y2, y3, y4, y5, yg, ya⟩ := tch_at hC hc
  have H0 := Lib.hid (fun o o' o'' => bel_alloc (bel_alloc (bel_alloc (Below.refl _ w) o) o') o'')
  have HT := Lib.hid (fun w' hb => trmOkS_c c.call xa w' (Kd.S_ext (w := w) hb ya) (fit_len hfc.2))
  have HCl := Lib.hid (fun w' hb => (show Calls Tryz.prog 45 #[xa] w' fun e w2 => e = .returned (.bool (calls c.call)) ∧ w' = w2 by
    obtain ⟨A, n, rfl, _, _, h⟩ := Kd.S_ext (w := w) (w' := w') hb ya
    exact calls_c c.call A n w' h))
  have HN := Lib.hid (fun w' hb hcc => nodeS_c p c.call p1 p2 xa w' (Kd.S_ext (w := w) hb hp.p) (Kd.S_ext hb ya) hcc hfp)
  have HTm := Lib.hid (fun w' hb => termS_c c.call c.vars xa w' (Kd.S_ext (w := w) hb ya) (fit_len hfc.2))
  obtain ⟨BA, bn, rfl, m1, m2, hBC⟩ := hs.b
  have HFi := Lib.hid (fun w' hb => fineS_c c.goals (s.binds.take c.mark.toNat) c.vars k xg (.slice BA c.mark.toNat bn) w' (Kd.S_ext (w := w) hb yg) (S_take (Kd.S_ext hb (show B0 w (.slice BA s.binds.length bn) s.binds from ⟨BA, bn, rfl, m1, m2, hBC⟩)) (by omega)) hfc.1 hfb)
  obtain ⟨GA, gn, rfl, g1, g2, -⟩ := yg
  obtain ⟨AA, an, rfl, a1, a2, -⟩ := ya
  have hbn : c.mark ≤ bn := by omega
  have em0 : decide ((0 : Int) ≤ c.mark) = true := decide_eq_true hm.1
  have em1 : decide (c.mark ≤ (s.binds.length : Int)) = true := decide_eq_true hm.2
  obtain ⟨h0, h9⟩ := hm
  clear hC hBC hp hs hc hfc hfb
  obtain ⟨q1, hq1⟩ : ∃ q, fineOk c.goals (s.binds.take c.mark.toNat) c.vars k = q := ⟨_, rfl⟩
  obtain ⟨q2, hq2⟩ : ∃ q, termV c.vars c.call = q := ⟨_, rfl⟩
  rw [hq1] at HFi
  rw [hq2] at HTm
  have HV2 := Lib.hid (show farAll2 s.binds k c = (q1 && q2) by unfold farAll2; rw [hq1, hq2])
  clear hq1 hq2
  have Y0 := fun o o' => cell_keep (bel_alloc (bel_alloc (Below.refl _ w) o) o') y0
  have Y1 := fun o o' => cell_keep (bel_alloc (bel_alloc (Below.refl _ w) o) o') y1
  have Y2 := fun o o' => cell_keep (bel_alloc (bel_alloc (Below.refl _ w) o) o') y2
  have Y3 := fun o o' => cell_keep (bel_alloc (bel_alloc (Below.refl _ w) o) o') y3
  have Y4 := fun o o' => cell_keep (bel_alloc (bel_alloc (Below.refl _ w) o) o') y4
  have Y5 := fun o o' => cell_keep (bel_alloc (bel_alloc (Below.refl _ w) o) o') y5
  clear y0 y1 y2 y3 y4 y5
  go_enter Tryz.func161, Tryz.ntmps161
  go_upto_region 4 with (first | (go_at_call 44; (with_reducible refine (HT.out _ (H0.out _ _ _)).mono ?_); rintro e w1 ⟨rfl, hb1⟩; obtain ⟨x0, x1, x2, x3, x4, x5, x6, x7, x8⟩ := far_box hb1; have Hb1 := Lib.hid hb1; have HB1 := Lib.hid (bel_trans (H0.out _ _ _) hb1); clear hb1) | (go_at_call 45; (with_reducible refine (HCl.out _ HB1.out).mono ?_); rintro e w2 ⟨rfl, rfl⟩) | (go_at_call 89; (with_reducible refine (HN.out _ HB1.out (by assumption)).mono ?_); rintro e w3 ⟨rfl, hb3⟩; obtain ⟨z0, z1, z2, z3, z4, z5, z6, z7, z8⟩ := far_box (bel_trans Hb1.out hb3); have HB3 := Lib.hid (bel_trans HB1.out hb3); clear hb3))
  all_goals first
    | (go_ret
       refine ⟨ret_bool (Eq.symm ?_), (by first | exact HB3.out | exact HB1.out | exact H0.out _ _ _)⟩
       rw [Bool.and_eq_false_iff]
       left
       rw [Bool.eq_false_iff]
       intro hh
       unfold farAllS at hh
       simp only [Bool.and_eq_true, decide_eq_true_eq, ne_eq] at hh
       obtain ⟨⟨⟨⟨⟨f1, f2⟩, f3⟩, f4⟩, f5⟩, f6⟩ := hh
       first | omega | (simp_all; done) | (simp_all; omega))
    | skip
  have HVa := Lib.hid (show farAllS p node s.binds k c = true by
    unfold farAllS
    simp_all)
  cases q1
  all_goals
    refine wp_region_below (by kernel_rfl) (by kernel_rfl) ?_; (repeat (first | go_big_quiet_skip | (go_big_quiet_want; first | (refine quiet_sub_h AppI.bind rfl rfl rfl (by omega) (by omega) ?_; go_big_quiet_on; simp only [Act.put, List.setIfInBounds_toArray, List.set_cons_zero, List.set_cons_succ]) | (refine quiet_cell rfl rfl (fun W v hv => (by go_simp)) (fun W hW => BelC.cell hW (by assumption)) ?_; go_big_quiet_on; simp only [Act.put, List.setIfInBounds_toArray, List.set_cons_zero, List.set_cons_succ]) | (go_big_quiet_op; first | go_big_quiet_on | ((first | with_reducible refine ⟨_, fun W hW => (HFi.out W (bel_trans HB3.out hW.bel)).mono (fun e w' hh => ⟨hh.1, hW.step hh.2⟩), ?_⟩ | with_reducible refine ⟨_, fun W hW => (HTm.out W (bel_trans HB3.out hW.bel)).mono (fun e w' hh => ⟨hh.1, hW.step hh.2⟩), ?_⟩); go_big_quiet_on) | (refine ⟨_, fun _ _ => rfl, ?_⟩; go_big_quiet_on))))); refine wpQuiet_nil ?_; intro w2 hw2
    have HB := Lib.hid (bel_trans HB3.out hw2.bel)
    clear hw2
    go_wp2
    go_ret
    exact ⟨ret_bool (by rw [HVa.out, HV2.out]; rfl), HB.out⟩
end Go.Proofs.YtdoggcfdfkkedaaGreatDoor
