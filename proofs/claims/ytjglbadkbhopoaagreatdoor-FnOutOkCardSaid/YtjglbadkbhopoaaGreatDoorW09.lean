/- Lemmas and contracts for FnOutOk, part 9. -/
import Derived.Test.YtjglbadkbhopoaaGreatDoorW08
import Derived.Test.YtjglbadkbhopoaaGreatDoorW01
namespace Go.Proofs.YtjglbadkbhopoaaGreatDoor
set_option linter.unusedVariables false
theorem place_mem {xs : List Int} {x : Int} (h : x ∈ xs) : 0 ≤ place xs x ∧ xs[(place xs x).toNat]? = some x := by
  induction xs with
  | nil => cases h
  | cons y xs ih =>
    unfold place
    by_cases e : y = x
    · rw [if_pos e]; subst e; simp
    · rw [if_neg e]
      rcases List.mem_cons.1 h with rfl | h
      · exact absurd rfl e
      · obtain ⟨h1, h2⟩ := ih h
        rw [if_neg (by omega)]
        refine ⟨by omega, ?_⟩
        rw [show (place xs x + 1).toNat = (place xs x).toNat + 1 by omega, List.getElem?_cons_succ]
        exact h2
theorem place_map {f : Int → Int} {xs : List Int} {x : Int} (hf : ∀ a ∈ xs, f a = f x → a = x) : place (xs.map f) (f x) = place xs x := by
  induction xs with
  | nil => rfl
  | cons y xs ih =>
    rw [List.map_cons, place, place, ih (fun a ha => hf a (List.mem_cons_of_mem _ ha))]
    by_cases e : y = x
    · subst e; rw [if_pos rfl, if_pos rfl]
    · rw [if_neg (fun h => e (hf y List.mem_cons_self h)), if_neg e]
theorem free_map {f : Int → Int} {t : Trm} (hf : ∀ a ∈ vars t, ∀ b ∈ vars t, f a = f b → a = b) : free (t.map fun c => if c.k = 1 then { c with n := f c.n } else c) = (free t).map f := by
  have : ∀ (t : Trm) (D : List Int), (∀ a b, (a ∈ D ∨ a ∈ vars t) → (b ∈ D ∨ b ∈ vars t) → f a = f b → a = b) → (t.map fun c => if c.k = 1 then { c with n := f c.n } else c).foldl freeStep (D.map f) = (t.foldl freeStep D).map f := by
    intro t
    induction t with
    | nil => intro D _; rfl
    | cons c t ih =>
      intro D h
      rw [List.map_cons, List.foldl_cons, List.foldl_cons]
      have hs : freeStep (D.map f) (if c.k = 1 then { c with n := f c.n } else c) = (freeStep D c).map f := by
        unfold freeStep
        by_cases hk : c.k = 1
        · simp only [hk, if_pos, true_and]
          have hv : c.n ∈ vars (c :: t) := by rw [vars_cons_var hk]; exact List.mem_cons_self
          by_cases hm : c.n ∈ D
          · have h1 : f c.n ∈ D.map f := List.mem_map.2 ⟨c.n, hm, rfl⟩
            simp only [h1, hm, not_true_eq_false, if_false]
          · have h1 : f c.n ∉ D.map f := fun hx => by
              obtain ⟨a, ha, he⟩ := List.mem_map.1 hx
              exact hm (h a c.n (.inl ha) (.inr hv) he ▸ ha)
            simp only [h1, hm, not_false_eq_true, if_true, List.map_append, List.map_cons, List.map_nil]
        · simp [hk]
      rw [hs]
      refine ih _ (fun a b ha hb => h a b ?_ ?_)
      · rcases ha with ha | ha
        · rcases mem_freeStep.1 ha with ha | ⟨hk, rfl⟩
          · exact .inl ha
          · exact .inr (by rw [vars_cons_var hk]; exact List.mem_cons_self)
        · exact .inr (by
            by_cases hk : c.k = 1
            · rw [vars_cons_var hk]; exact List.mem_cons_of_mem _ ha
            · rw [vars_cons_fun hk]; exact ha)
      · rcases hb with ha | ha
        · rcases mem_freeStep.1 ha with ha | ⟨hk, rfl⟩
          · exact .inl ha
          · exact .inr (by rw [vars_cons_var hk]; exact List.mem_cons_self)
        · exact .inr (by
            by_cases hk : c.k = 1
            · rw [vars_cons_var hk]; exact List.mem_cons_of_mem _ ha
            · rw [vars_cons_fun hk]; exact ha)
  have := this t [] (fun a b ha hb => hf a (ha.resolve_left (by simp)) b (hb.resolve_left (by simp)))
  simpa [free] using this
theorem place_inj {t : Trm} : ∀ a ∈ vars t, ∀ b ∈ vars t, place (free t) a = place (free t) b → a = b := fun a ha b hb h => by
  have h1 := (place_mem (mem_free.2 ha)).2
  have h2 := (place_mem (mem_free.2 hb)).2
  rw [h, h2] at h1
  exact (Option.some.inj h1).symm
theorem canon_idem (t : Trm) : canon (canon t) = canon t := by
  have hf : free (canon t) = (free t).map (place (free t)) := free_map (f := place (free t)) place_inj
  unfold canon at hf ⊢
  rw [hf, List.map_map]
  refine List.map_congr_left fun c hc => ?_
  simp only [Function.comp_apply]
  by_cases hk : c.k = 1
  · have hv : c.n ∈ vars t := List.mem_map.2 ⟨c, List.mem_filter.2 ⟨hc, by simpa using hk⟩, rfl⟩
    simp only [hk, if_pos]
    congr 1
    exact place_map (f := place (free t)) (fun a ha h => place_inj a (mem_free.1 ha) c.n hv h)
  · simp [hk]
theorem ar_canon (F : List Int) (c : Cell) : ar (if c.k = 1 then { c with n := place F c.n } else c) = ar c := by
  split
  · rename_i h; unfold ar; dsimp only; rw [if_neg (by omega), if_neg (by omega)]
  · rfl
theorem canon_ok {t : Trm} (h : trmOk t = true) : trmOk (canon t) = true := by
  obtain ⟨h1, h2, h3⟩ := trmOk_iff.1 h
  refine trmOk_iff.2 ⟨?_, by rw [canon_len]; exact h2, ?_⟩
  · unfold Ms at *
    rw [canon_len]
    unfold canon
    rw [skip_map (ar_canon _)]
    exact h1
  · rw [List.all_eq_true] at h3 ⊢
    intro c hc
    unfold canon at hc
    rw [List.mem_map] at hc
    obtain ⟨c', hc', rfl⟩ := hc
    have := h3 c' hc'
    split
    · rename_i hk
      obtain ⟨k1, k2, k3⟩ := cellOk_var this hk
      unfold cellOk
      dsimp only
      rw [if_pos hk]
      have hv : c'.n ∈ vars t := List.mem_map.2 ⟨c', List.mem_filter.2 ⟨hc', by simpa using hk⟩, rfl⟩
      have p1 := (place_mem (mem_free.2 hv)).1
      have p2 := (place_ge (free t) c'.n).2
      have p3 := free_len t
      simp only [Bool.and_eq_true, decide_eq_true_eq]
      exact ⟨⟨by omega, by omega⟩, by rw [k1]; rfl⟩
    · exact this
theorem Fl_solve {s : Binds} {θ : Sub} (hθ : Solves θ s) {t o : Trm} {k : Nat} (f : Fl s t k o) : app θ o = app θ t := by
  induction f with
  | nil => rfl
  | keep _ _ ih => rw [app_cons, app_cons, ih]
  | bound hk g _ ih =>
    rw [ih, app_append, app_cons, ← hθ _ _ g]
    congr 1
    unfold cs; rw [if_pos hk]
theorem app_map {θ : Sub} {g : Cell → Cell} {t : Trm} {σ : Sub} (h : ∀ c ∈ t, cs θ (g c) = cs σ c) : app θ (t.map g) = app σ t := by
  induction t with
  | nil => rfl
  | cons c t ih => rw [List.map_cons, app_cons, app_cons, h c List.mem_cons_self, ih (fun x hx => h x (List.mem_cons_of_mem _ hx))]
theorem ans_ok {top : Trm} {s : Binds} (ht : isQ top = true) (hs : SubOk' s) (hl : (flat s top).length ≤ 40) : outOk top 2 (canon (flat s top)) = true := by
  obtain ⟨q1, q2, q3⟩ := isQ_ok ht
  have hF := flat_ok (sub_binv hs) q1 hl
  have hcF := canon_ok hF
  unfold outOk
  rw [ht, hcF, canon_idem]
  simp only [Bool.true_eq_false, if_false]
  rw [if_neg (by decide), if_neg (by decide), if_neg (by simp)]
  have hsh := shiftQ_ok (n := (canon (flat s top)).length) ht (by rw [canon_len]; exact hl)
  have hI : Uinv (vars (canon (flat s top)) ++ vars (shift top (canon (flat s top)).length)) [] [(canon (flat s top), shift top (canon (flat s top)).length)] :=
    .start (.nil _) hcF hsh (fun v hv => List.mem_append_left _ hv) (fun v hv => List.mem_append_right _ hv)
  rw [uni_isSome hI]
  obtain ⟨θ0, g0, s0⟩ := exists_sol (sub_binv hs).bok
  refine ⟨fun v => if v < ((canon (flat s top)).length : Int) then θ0 (((free (flat s top))[v.toNat]?).getD 0) else θ0 (v - (canon (flat s top)).length), fun v => ?_, fun v t h => by simp [getB] at h, Same_cons.2 ⟨?_, fun p hp => by cases hp⟩⟩
  · dsimp only
    split
    · exact g0 _
    · exact g0 _
  · obtain ⟨k, f⟩ := flat_fl (sub_binv hs).bok top
    have e1 : app (fun v => if v < ((canon (flat s top)).length : Int) then θ0 (((free (flat s top))[v.toNat]?).getD 0) else θ0 (v - (canon (flat s top)).length)) (canon (flat s top)) = app θ0 (flat s top) := by
      conv => lhs; rhs; unfold canon
      refine app_map fun c hc => ?_
      by_cases hk : c.k = 1
      · have hv : c.n ∈ vars (flat s top) := List.mem_map.2 ⟨c, List.mem_filter.2 ⟨hc, by simpa using hk⟩, rfl⟩
        obtain ⟨p1, p2⟩ := place_mem (mem_free.2 hv)
        have p3 := (place_ge (free (flat s top)) c.n).2
        have p4 := free_len (flat s top)
        unfold cs
        simp only [hk, if_pos]
        rw [if_pos (by rw [canon_len]; omega), p2]; rfl
      · unfold cs; simp [hk]
    have e2 : app (fun v => if v < ((canon (flat s top)).length : Int) then θ0 (((free (flat s top))[v.toNat]?).getD 0) else θ0 (v - (canon (flat s top)).length)) (shift top (canon (flat s top)).length) = app θ0 top := by
      conv => lhs; rhs; unfold shift
      refine app_map fun c hc => ?_
      by_cases hk : c.k = 1
      · have := (cellOk_var (List.all_eq_true.1 (trmOk_iff.1 q1).2.2 c hc) hk).2.1
        unfold cs
        simp only [hk, if_pos]
        rw [if_neg (by omega)]
        congr 1; omega
      · unfold cs; simp [hk]
    show app _ (canon (flat s top)) = app _ (shift top (canon (flat s top)).length)
    rw [e1, e2]
    exact Fl_solve s0 f
end Go.Proofs.YtjglbadkbhopoaaGreatDoor
namespace Go.Proofs.YtjglbadkbhopoaaGreatDoor
set_option linter.unusedVariables false
abbrev SOut := Int × Trm
end Go.Proofs.YtjglbadkbhopoaaGreatDoor
namespace Go.Proofs.YtjglbadkbhopoaaGreatDoor
set_option linter.unusedVariables false
def fitT (t : Trm) : Prop := t.length ≤ 4000000 ∧ ∀ c ∈ t, c.s.size ≤ 9223372036854775807
def fitG (g : Goal) : Prop := fitT g.a ∧ fitT g.b ∧ fitT g.c
def fitC (c : Clause) : Prop := fitT c.head ∧ c.body.length ≤ 4000000 ∧ ∀ g ∈ c.body, fitG g
def fitP (p : Prog) : Prop := p.cl.length ≤ 4000000 ∧ (∀ c ∈ p.cl, fitC c) ∧ p.pl.length ≤ 4000000 ∧ ∀ x ∈ p.pl, x.name.size ≤ 9223372036854775807
def fitB (s : Binds) : Prop := s.length ≤ 4000000 ∧ (s.map (fun b => b.2.length)).sum ≤ 4000000 ∧ ∀ b ∈ s, fitT b.2
theorem fit_len {t : Trm} (h : fitT t) : t.length ≤ 1000000000 := Nat.le_trans h.1 (by decide)
theorem cell_fit {c : Cell} (h : cellOk c = true) : c.s.size ≤ 8 := by
  have : ∀ s : ByteArray, s.data.toList = [] → s.size ≤ 8 := fun s h => by
    have : s.data.toList.length = s.size := Array.length_toList
    rw [h] at this; simp at this; omega
  unfold cellOk at h
  split at h
  · simp only [Bool.and_eq_true] at h
    exact this _ (by simpa using h.2)
  · split at h
    · simp only [Bool.and_eq_true] at h
      exact this _ (by simpa using h.2)
    · split at h
      · simp only [Bool.and_eq_true] at h
        have := h.2
        unfold nameOk at this
        simp only [Bool.and_eq_true, decide_eq_true_eq] at this
        exact this.1.1.2
      · cases h
end Go.Proofs.YtjglbadkbhopoaaGreatDoor
namespace Go.Proofs.YtjglbadkbhopoaaGreatDoor
open Go.RowKit
set_option maxRecDepth 100000
set_option maxHeartbeats 4000000
set_option linter.unusedVariables false
theorem placeS_c (x : Place) (w : World) :
    Calls Tryz.prog 112 #[.agg #[.string x.name, .int .i64 x.n, .int .i64 x.node]] w fun e w' => e = .returned (.bool (placeOk x)) ∧ Below w.heap.size w w' := by
  have HN := Lib.hid (fun W => name_c x.name W)
  have HI := Lib.hid (fun W => lIn_c x.n 0 3 W)
  have HJ := Lib.hid (fun W => lIn_c x.node 1 2 W)
  obtain ⟨q1, e1⟩ : ∃ q, nameOk x.name = q := ⟨_, rfl⟩
  obtain ⟨q2, e2⟩ : ∃ q, (decide (0 ≤ x.n) && decide (x.n ≤ 3)) = q := ⟨_, rfl⟩
  obtain ⟨q3, e3⟩ : ∃ q, (decide (1 ≤ x.node) && decide (x.node ≤ 2)) = q := ⟨_, rfl⟩
  have HV := Lib.hid (show placeOk x = (q1 && q2 && q3) by unfold placeOk inR; rw [e1, e2, e3])
  rw [e1] at HN
  rw [e2] at HI
  rw [e3] at HJ
  clear e1 e2 e3
  cases q1 <;> cases q2 <;> cases q3
  all_goals
    go_enter Tryz.func112, Tryz.ntmps112
    go_wp2_with (first | (go_at_call 84; (with_reducible refine (HN.out _).mono ?_); rintro e w1 ⟨rfl, rfl⟩) | (go_at_call 20; (with_reducible refine (HI.out _).mono ?_); rintro e w2 ⟨rfl, rfl⟩) | (go_at_call 20; (with_reducible refine (HJ.out _).mono ?_); rintro e w3 ⟨rfl, rfl⟩))
    go_ret
    exact ⟨ret_bool HV.out.symm, bel_alloc (Below.refl _ _) _⟩
theorem body_split {xs : List Goal} {k : Nat} (hlt : k < xs.length) {x : Goal} (hc : xs[k]? = some x) : (xs.drop k).all (fun g => goalOk g.k g.a g.b g.c) = (goalOk x.k x.a x.b x.c && (xs.drop (k + 1)).all (fun g => goalOk g.k g.a g.b g.c)) := by
  rw [List.drop_eq_getElem_cons hlt, (List.getElem?_eq_some_iff.1 hc).2, List.all_cons]
theorem box2_at (w : World) (a b : Value) (t : TypeId) {w1 : World} (hb : Below (w.alloc (.cells #[a, b] t)).heap.size (w.alloc (.cells #[a, b] t)) w1) : w1.cell? ⟨w.heap.size, 0, none⟩ = some a ∧ w1.cell? ⟨w.heap.size, 1, none⟩ = some b := by
  have h := heap_alloc_new w (.cells #[a, b] t)
  exact ⟨cell_keep hb (Lib.cell_of_heap h 0), cell_keep hb (Lib.cell_of_heap h 1)⟩
theorem clauseS_c (x : Clause) (hv bv : Value) (w : World) (h1 : T0 w hv x.head) (h2 : Kd.goal.S 160 w bv x.body) (hf : fitC x) :
    Calls Tryz.prog 115 #[.agg #[hv, bv]] w fun e w' => e = .returned (.bool (clauseOk x)) ∧ Below w.heap.size w w' := by
  have HT := Lib.hid (fun w' hb => inClS_c x.head hv w' (Kd.S_ext (w := w) hb h1) (fit_len hf.1))
  have HC := Lib.hid (fun w' hb => (show Calls Tryz.prog 49 #[hv] w' fun e w2 => e = .returned (.bool (calls x.head)) ∧ w' = w2 by
    obtain ⟨A, c, rfl, _, _, h⟩ := Kd.S_ext (w := w) (w' := w') hb h1
    exact calls_c x.head A c w' h))
  have HG := Lib.hid (fun w' hb g (hg : g ∈ x.body) av bv cv (a1 : T0 w av g.a) (a2 : T0 w bv g.b) (a3 : T0 w cv g.c) => goalS_c g.k g.a g.b g.c av bv cv w' (Kd.S_ext (w := w) hb a1) (Kd.S_ext hb a2) (Kd.S_ext hb a3) (fit_len (hf.2.2 g hg).1) (fit_len (hf.2.2 g hg).2.1) (fit_len (hf.2.2 g hg).2.2))
  have H2 := Lib.hid h2
  have HX := Lib.hid (fun w1 => box2_at w hv bv 126 (w1 := w1))
  have H0 := Lib.hid (fun o => bel_alloc (Below.refl _ w) o)
  have hlen := hf.2.1
  obtain ⟨B, c, rfl, b1, b2, -⟩ := h2
  obtain ⟨A, c', rfl, a1, a2, -⟩ := h1
  obtain ⟨q1, e1⟩ : ∃ q, inCl x.head = q := ⟨_, rfl⟩
  obtain ⟨q2, e2⟩ : ∃ q, calls x.head = q := ⟨_, rfl⟩
  rw [e1] at HT
  rw [e2] at HC
  have hV : clauseOk x = (q1 && q2 && decide (x.body.length ≤ 4) && x.body.all (fun g => goalOk g.k g.a g.b g.c)) := by unfold clauseOk; rw [e1, e2]
  clear e1 e2 hf
  by_cases hq : q1 = true ∧ q2 = true ∧ x.body.length ≤ 4
  · obtain ⟨rfl, rfl, h4⟩ := hq
    have e4 : decide ((4 : Int) < (x.body.length : Int)) = false := decide_eq_false (by omega)
    rw [decide_eq_true h4] at hV
    have HV := Lib.hid (show clauseOk x = x.body.all (fun g => goalOk g.k g.a g.b g.c) by rw [hV]; rfl)
    clear hV
    go_enter Tryz.func115, Tryz.ntmps115
    go_wp2_with (first | (go_at_call 140; (with_reducible refine (HT.out _ (H0.out _)).mono ?_); rintro e w1 ⟨rfl, hb1⟩; obtain ⟨x0, x1⟩ := HX.out _ hb1; have HB0 := Lib.hid hb1; have HB1 := Lib.hid (bel_trans (H0.out _) hb1); clear hb1) | (go_at_call 49; (with_reducible refine (HC.out _ HB1.out).mono ?_); rintro e w2 ⟨rfl, rfl⟩))
    have hx1 := x1
    go_loopw [3] (fun v3 wr => ∃ k : Nat, v3 = .int .i64 k ∧ k ≤ x.body.length ∧ Hid ((x.body.drop k).all (fun g => goalOk g.k g.a g.b g.c) = x.body.all (fun g => goalOk g.k g.a g.b g.c)) ∧ Hid (Below w1.heap.size w1 wr)) (fun v3 _ => x.body.length - (intOf v3).toNat)
    case atStart => exact ⟨0, rfl, Nat.zero_le _, Lib.hid (by simp), Lib.hid (Below.refl _ _)⟩
    case round =>
      obtain ⟨k, rfl, hk, HA, HBr⟩ := hrel
      have y1 := cell_keep HBr.out hx1
      have HBw := Lib.hid (bel_trans HB1.out HBr.out)
      by_cases hlt : k < x.body.length
      · obtain ⟨g, hc⟩ : ∃ g, x.body[k]? = some g := ⟨_, List.getElem?_eq_getElem hlt⟩
        obtain ⟨B', c2, ev, _, _, hC⟩ := H2.out
        injection ev with u1 u2 u3
        obtain ⟨ad, av, bv, cv, had, z0, z1, z2, z3, t1, t2, t3⟩ := goal_at hC hc
        have had2 := u1.trans had
        have hA := HA.out
        rw [body_split hlt hc] at hA
        have hmem := List.mem_of_getElem? hc
        have HGk := Lib.hid (fun W hb => HG.out W hb g hmem av bv cv t1 t2 t3)
        have v0 := cell_keep HBw.out z0
        have v1 := cell_keep HBw.out z1
        have v2 := cell_keep HBw.out z2
        have v3 := cell_keep HBw.out z3
        clear u1 u2 u3 had hC hc z0 z1 z2 z3 t1 t2 t3 hmem
        subst had2
        cases hq : goalOk g.k g.a g.b g.c with
        | true =>
          rw [hq] at hA HGk
          have HR := Lib.hid hA
          clear hA hq
          go_wp2_with (go_at_call 139; (with_reducible refine (HGk.out _ HBw.out).mono ?_); rintro e w3 ⟨rfl, hb3⟩)
          exact ⟨⟨k + 1, by go_num, hlt, Lib.hid (by have := HR.out; rwa [Bool.true_and] at this), Lib.hid (bel_trans HBr.out hb3)⟩, by simp [intOf]; omega⟩
        | false =>
          rw [hq] at hA HGk
          have HR := Lib.hid (show clauseOk x = false by rw [HV.out, ← hA]; rfl)
          clear hA hq
          go_wp2_with (go_at_call 139; (with_reducible refine (HGk.out _ HBw.out).mono ?_); rintro e w3 ⟨rfl, hb3⟩)
          go_ret
          exact ⟨ret_bool HR.out.symm, bel_trans HBw.out hb3⟩
      · have HR := Lib.hid (show clauseOk x = true by rw [HV.out, ← HA.out, List.drop_of_length_le (by omega)]; rfl)
        go_wp2
        go_ret
        exact ⟨ret_bool HR.out.symm, HBw.out⟩
  · have HV := Lib.hid (show clauseOk x = false by
      rw [hV]
      cases q1
      · rfl
      · cases q2
        · rfl
        · rw [decide_eq_false (fun h => hq ⟨rfl, rfl, h⟩)]; rfl)
    clear hV
    by_cases h4 : x.body.length ≤ 4
    · have hqq : q1 = false ∨ (q1 = true ∧ q2 = false) := by cases q1 <;> cases q2 <;> simp_all
      clear hq
      rcases hqq with rfl | ⟨rfl, rfl⟩
      all_goals
        go_enter Tryz.func115, Tryz.ntmps115
        go_wp2_with (first | (go_at_call 140; (with_reducible refine (HT.out _ (H0.out _)).mono ?_); rintro e w1 ⟨rfl, hb1⟩; obtain ⟨x0, x1⟩ := HX.out _ hb1; have HB1 := Lib.hid (bel_trans (H0.out _) hb1); clear hb1) | (go_at_call 49; (with_reducible refine (HC.out _ HB1.out).mono ?_); rintro e w2 ⟨rfl, rfl⟩))
        go_ret
        exact ⟨ret_bool HV.out.symm, HB1.out⟩
    · have e4 : decide ((4 : Int) < (x.body.length : Int)) = true := decide_eq_true (by omega)
      clear hq
      cases q1 <;> cases q2
      all_goals
        go_enter Tryz.func115, Tryz.ntmps115
        go_wp2_with (first | (go_at_call 140; (with_reducible refine (HT.out _ (H0.out _)).mono ?_); rintro e w1 ⟨rfl, hb1⟩; obtain ⟨x0, x1⟩ := HX.out _ hb1; have HB1 := Lib.hid (bel_trans (H0.out _) hb1); clear hb1) | (go_at_call 49; (with_reducible refine (HC.out _ HB1.out).mono ?_); rintro e w2 ⟨rfl, rfl⟩))
        go_ret
        exact ⟨ret_bool HV.out.symm, HB1.out⟩
end Go.Proofs.YtjglbadkbhopoaaGreatDoor
namespace Go.Proofs.YtjglbadkbhopoaaGreatDoor
open Go.RowKit
set_option maxRecDepth 100000
set_option maxHeartbeats 4000000
set_option linter.unusedVariables false
theorem str_eqb (s u : ByteArray) : (s.toList == u.toList) = decide (s = u) := by
  rw [Lib.toList_data, Lib.toList_data]
  by_cases h : s = u
  · subst h; simp
  · rw [decide_eq_false h]
    exact beq_eq_false_iff_ne.2 (fun e => h (ByteArray.ext (Array.toList_inj.1 e)))
theorem cl_split {xs : List Clause} {k : Nat} (hlt : k < xs.length) {x : Clause} (hc : xs[k]? = some x) : (xs.drop k).all clauseOk = (clauseOk x && (xs.drop (k + 1)).all clauseOk) := by
  rw [List.drop_eq_getElem_cons hlt, (List.getElem?_eq_some_iff.1 hc).2, List.all_cons]
theorem pl_split {xs : List Place} {k : Nat} (hlt : k < xs.length) {x : Place} (hc : xs[k]? = some x) : placesOk (xs.take k) (xs.drop k) = (placeOk x && !(xs.take k).any (samePl x) && placesOk (xs.take (k + 1)) (xs.drop (k + 1))) := by
  rw [List.drop_eq_getElem_cons hlt, (List.getElem?_eq_some_iff.1 hc).2, placesOk, List.take_succ_eq_append_getElem hlt, (List.getElem?_eq_some_iff.1 hc).2]
theorem any_snoc {xs : List Place} {j : Nat} (hlt : j < xs.length) {y : Place} (hy : xs[j]? = some y) (x : Place) : (xs.take (j + 1)).any (samePl x) = ((xs.take j).any (samePl x) || samePl x y) := by
  rw [List.take_succ_eq_append_getElem hlt, (List.getElem?_eq_some_iff.1 hy).2, List.any_append]; simp
theorem any_mono {xs : List Place} {j k : Nat} (hjk : j < k) {y : Place} (hy : xs[j]? = some y) {x : Place} (h : samePl x y = true) : (xs.take k).any (samePl x) = true := by
  rw [List.any_eq_true]
  refine ⟨y, ?_, h⟩
  have : (xs.take k)[j]? = some y := by rw [List.getElem?_take, if_pos hjk]; exact hy
  exact List.mem_of_getElem? this
theorem prgOkS_c (p : Prog) (cv pv : Value) (w : World) (h1 : Kd.clause.S 126 w cv p.cl) (h2 : Kd.place.S 121 w pv p.pl) (hf : fitP p) :
    Calls Tryz.prog 94 #[.agg #[cv, pv]] w fun e w' => e = .returned (.bool (prgOk p)) ∧ Below w.heap.size w w' := by
  have HC := Lib.hid (fun w' hb x (hx : x ∈ p.cl) hv bv (a1 : T0 w hv x.head) (a2 : Kd.goal.S 160 w bv x.body) => clauseS_c x hv bv w' (Kd.S_ext (w := w) hb a1) (Kd.S_ext hb a2) (hf.2.1 x hx))
  have HP := Lib.hid (fun x w' => placeS_c x w')
  have H1 := Lib.hid h1
  have H2 := Lib.hid h2
  have HX := Lib.hid (fun w1 => box2_at w cv pv 58 (w1 := w1))
  have H0 := Lib.hid (fun o => bel_alloc (Below.refl _ w) o)
  have l1 := hf.1
  have l2 := hf.2.2.1
  obtain ⟨A, n, rfl, a1, a2, -⟩ := h1
  obtain ⟨B, m, rfl, b1, b2, -⟩ := h2
  have hV : prgOk p = (decide (p.cl.length ≤ 12) && decide (p.pl.length ≤ 6) && p.cl.all clauseOk && placesOk [] p.pl) := rfl
  clear hf
  by_cases h12 : p.cl.length ≤ 12
  · have e12 : decide ((12 : Int) < (p.cl.length : Int)) = false := decide_eq_false (by omega)
    by_cases h6 : p.pl.length ≤ 6
    · have e6 : decide ((6 : Int) < (p.pl.length : Int)) = false := decide_eq_false (by omega)
      have HV := Lib.hid (show prgOk p = (p.cl.all clauseOk && placesOk [] p.pl) by rw [hV, decide_eq_true h12, decide_eq_true h6]; rfl)
      clear hV
      go_enter Tryz.func94, Tryz.ntmps94
      go_wp2
      go_loopw [3] (fun v3 wr => ∃ k : Nat, v3 = .int .i64 k ∧ k ≤ p.cl.length ∧ Hid ((p.cl.drop k).all clauseOk = p.cl.all clauseOk) ∧ Hid (Below (w.alloc (.cells #[.slice A p.cl.length n, .slice B p.pl.length m] 58)).heap.size (w.alloc (.cells #[.slice A p.cl.length n, .slice B p.pl.length m] 58)) wr)) (fun v3 _ => p.cl.length - (intOf v3).toNat)
      case atStart => exact ⟨0, rfl, Nat.zero_le _, Lib.hid (by simp), Lib.hid (Below.refl _ _)⟩
      case round =>
        obtain ⟨k, rfl, hk, HA, HBr⟩ := hrel
        obtain ⟨x0, x1⟩ := HX.out _ HBr.out
        have HBw := Lib.hid (bel_trans (H0.out _) HBr.out)
        by_cases hlt : k < p.cl.length
        · obtain ⟨x, hx⟩ : ∃ x, p.cl[k]? = some x := ⟨_, List.getElem?_eq_getElem hlt⟩
          obtain ⟨A', n', ev, _, _, hC⟩ := H1.out
          injection ev with u1 u2 u3
          obtain ⟨ad, hv, bv, had, z0, z1, t1, t2⟩ := clause_at hC hx
          have had2 := u1.trans had
          have hA := HA.out
          rw [cl_split hlt hx] at hA
          have HCk := Lib.hid (fun W hb => HC.out W hb x (List.mem_of_getElem? hx) hv bv t1 t2)
          have y0 := cell_keep HBw.out z0
          have y1 := cell_keep HBw.out z1
          clear u1 u2 u3 had hC hx z0 z1 t1 t2
          subst had2
          cases hq : clauseOk x with
          | true =>
            rw [hq] at hA HCk
            have HR := Lib.hid hA
            clear hA hq
            go_wp2_with (go_at_call 115; (with_reducible refine (HCk.out _ HBw.out).mono ?_); rintro e w3 ⟨rfl, hb3⟩)
            exact ⟨⟨k + 1, by go_num, hlt, Lib.hid (by have := HR.out; rwa [Bool.true_and] at this), Lib.hid (bel_trans HBr.out hb3)⟩, by simp [intOf]; omega⟩
          | false =>
            rw [hq] at hA HCk
            have HR := Lib.hid (show prgOk p = false by rw [HV.out, ← hA]; rfl)
            clear hA hq
            go_wp2_with (go_at_call 115; (with_reducible refine (HCk.out _ HBw.out).mono ?_); rintro e w3 ⟨rfl, hb3⟩)
            go_ret
            exact ⟨ret_bool HR.out.symm, bel_trans HBw.out hb3⟩
        · have HW := Lib.hid (show prgOk p = placesOk [] p.pl by rw [HV.out, ← HA.out, List.drop_of_length_le (by omega)]; rfl)
          clear HA
          go_wp2
          clear hk hlt
          go_loopw [4] (fun v4 ws => ∃ k : Nat, v4 = .int .i64 k ∧ k ≤ p.pl.length ∧ Hid (placesOk (p.pl.take k) (p.pl.drop k) = placesOk [] p.pl) ∧ Hid (Below (w.alloc (.cells #[.slice A p.cl.length n, .slice B p.pl.length m] 58)).heap.size (w.alloc (.cells #[.slice A p.cl.length n, .slice B p.pl.length m] 58)) ws)) (fun v4 _ => p.pl.length - (intOf v4).toNat)
          case atStart => exact ⟨0, rfl, Nat.zero_le _, Lib.hid (by simp), HBr⟩
          case round =>
            clear x0 x1
            obtain ⟨k, rfl, hk, HA, HBs⟩ := hrel
            obtain ⟨x0, x1⟩ := HX.out _ HBs.out
            have HBv := Lib.hid (bel_trans (H0.out _) HBs.out)
            by_cases hlt : k < p.pl.length
            · obtain ⟨x, hx⟩ : ∃ x, p.pl[k]? = some x := ⟨_, List.getElem?_eq_getElem hlt⟩
              obtain ⟨B', m', ev, _, _, hC⟩ := H2.out
              injection ev with u1 u2 u3
              obtain ⟨ad, had, z0, z1, z2⟩ := place_at hC hx
              have had2 := u1.trans had
              have hA := HA.out
              rw [pl_split hlt hx] at hA
              have HPk := Lib.hid (fun W => HP.out x W)
              have y0 := cell_keep HBv.out z0
              have y1 := cell_keep HBv.out z1
              have y2 := cell_keep HBv.out z2
              have Hx := Lib.hid hx
              clear u1 u2 u3 had hC hx
              subst had2
              cases hq : placeOk x with
              | true =>
                rw [hq, Bool.true_and] at hA
                rw [hq] at HPk
                have HR := Lib.hid hA
                have Z0 := Lib.hid z0
                have Z1 := Lib.hid z1
                clear hA hq z0 z1 z2
                go_wp2_with (go_at_call 112; (with_reducible refine (HPk.out _).mono ?_); rintro e w3 ⟨rfl, hb3⟩; have HB3 := Lib.hid hb3; clear hb3)
                clear y0 y1 y2 x0 x1
                go_loopw [5] (fun v5 wt => ∃ j : Nat, v5 = .int .i64 j ∧ j ≤ k ∧ Hid ((p.pl.take j).any (samePl x) = false) ∧ Hid (Below w3.heap.size w3 wt)) (fun v5 _ => k - (intOf v5).toNat)
                case atStart => exact ⟨0, rfl, Nat.zero_le _, Lib.hid rfl, Lib.hid (Below.refl _ _)⟩
                case round =>
                  obtain ⟨j, rfl, hj, HJ, HBt⟩ := hrel
                  have HBu := Lib.hid (bel_trans HBs.out (bel_trans HB3.out HBt.out))
                  obtain ⟨x0, x1⟩ := HX.out _ HBu.out
                  have HBq := Lib.hid (bel_trans (H0.out _) HBu.out)
                  by_cases hjk : j < k
                  · obtain ⟨y, hy⟩ : ∃ y, p.pl[j]? = some y := ⟨_, List.getElem?_eq_getElem (by omega)⟩
                    obtain ⟨B', m', ev, _, _, hC⟩ := H2.out
                    injection ev with u1 u2 u3
                    obtain ⟨ad', had, z0, z1, z2⟩ := place_at hC hy
                    obtain rfl := Option.some.inj (u1.trans had)
                    have q0 := cell_keep HBq.out z0
                    have q1 := cell_keep HBq.out z1
                    have q2 := cell_keep HBq.out Z0.out
                    have q3 := cell_keep HBq.out Z1.out
                    clear u1 u2 u3 had hC z0 z1 z2
                    by_cases e1 : y.name = x.name
                    · have f1 : (y.name.toList == x.name.toList) = true := by rw [str_eqb]; exact decide_eq_true e1
                      by_cases e2 : y.n = x.n
                      · have f2 : (y.n == x.n) = true := beq_iff_eq.2 e2
                        have HF := Lib.hid (show prgOk p = false by
                          rw [HW.out, ← HR.out, any_mono hjk hy (by unfold samePl; rw [e1, e2]; simp)]; rfl)
                        clear e1 e2 hy
                        go_upto_region 16 with fail
                        go_quiet (fail)
                        go_wp2
                        go_ret
                        exact ⟨ret_bool HF.out.symm, bel_drewN HBq.out _⟩
                      · have f2 : (y.n == x.n) = false := beq_eq_false_iff_ne.2 e2
                        have HN := Lib.hid (show (p.pl.take (j + 1)).any (samePl x) = false by
                          rw [any_snoc (by omega) hy, HJ.out]; unfold samePl; simp; exact fun _ h => e2 h.symm)
                        clear e1 e2 hy
                        go_upto_region 16 with fail
                        go_quiet (fail)
                        go_wp2
                        exact ⟨⟨j + 1, by go_num, hjk, HN, Lib.hid (bel_drewN HBt.out _)⟩, by simp [intOf]; omega⟩
                    · have f1 : (y.name.toList == x.name.toList) = false := by rw [str_eqb]; exact decide_eq_false e1
                      have HN := Lib.hid (show (p.pl.take (j + 1)).any (samePl x) = false by
                        rw [any_snoc (by omega) hy, HJ.out]; unfold samePl; simp; exact fun h _ => e1 h.symm)
                      clear e1 hy
                      go_upto_region 16 with fail
                      go_quiet (fail)
                      go_wp2
                      exact ⟨⟨j + 1, by go_num, hjk, HN, Lib.hid (bel_drewN HBt.out _)⟩, by simp [intOf]; omega⟩
                  · obtain rfl : j = k := by omega
                    have HN := Lib.hid (show placesOk (p.pl.take (j + 1)) (p.pl.drop (j + 1)) = placesOk [] p.pl by rw [← HR.out, HJ.out]; rfl)
                    clear hjk
                    go_wp2
                    exact ⟨⟨j + 1, by go_num, hlt, HN, HBu⟩, by simp [intOf]; omega⟩
              | false =>
                rw [hq] at hA HPk
                have HR := Lib.hid (show prgOk p = false by rw [HW.out, ← hA]; rfl)
                clear hA hq z0 z1 z2
                go_wp2_with (go_at_call 112; (with_reducible refine (HPk.out _).mono ?_); rintro e w3 ⟨rfl, hb3⟩)
                go_ret
                exact ⟨ret_bool HR.out.symm, bel_trans HBv.out hb3⟩
            · have HR := Lib.hid (show prgOk p = true by rw [HW.out, ← HA.out, List.drop_of_length_le (by omega)]; rfl)
              go_wp2
              go_ret
              exact ⟨ret_bool HR.out.symm, HBv.out⟩
    · have e6 : decide ((6 : Int) < (p.pl.length : Int)) = true := decide_eq_true (by omega)
      have HV := Lib.hid (show prgOk p = false by rw [hV, decide_eq_false h6, Bool.and_false]; rfl)
      clear hV
      go_enter Tryz.func94, Tryz.ntmps94
      go_wp2
      go_ret
      exact ⟨ret_bool HV.out.symm, H0.out _⟩
  · have e12 : decide ((12 : Int) < (p.cl.length : Int)) = true := decide_eq_true (by omega)
    have HV := Lib.hid (show prgOk p = false by rw [hV, decide_eq_false h12]; rfl)
    clear hV
    go_enter Tryz.func94, Tryz.ntmps94
    go_wp2
    go_ret
    exact ⟨ret_bool HV.out.symm, H0.out _⟩
end Go.Proofs.YtjglbadkbhopoaaGreatDoor
namespace Go.Proofs.YtjglbadkbhopoaaGreatDoor
open Go.RowKit
set_option linter.unusedVariables false
end Go.Proofs.YtjglbadkbhopoaaGreatDoor
namespace Go.Proofs.YtjglbadkbhopoaaGreatDoor
open Go.RowKit
set_option maxRecDepth 100000
set_option maxHeartbeats 4000000
set_option linter.unusedVariables false
def okB (s : Binds) (b : Int × Trm) : Prop := 0 ≤ b.1 ∧ b.1 ≤ 99999 ∧ trmOk b.2 = true ∧ ¬ Rch s b.2 b.1
theorem nodup_ix {s : Binds} : (s.map (·.1)).Nodup ↔ ∀ (i j : Nat) (a b : Int × Trm), s[i]? = some a → s[j]? = some b → j < i → b.1 ≠ a.1 := by
  rw [List.Nodup, List.pairwise_iff_getElem]
  constructor
  · intro h i j a b ha hb hji
    obtain ⟨ha1, ha2⟩ := List.getElem?_eq_some_iff.1 ha
    obtain ⟨hb1, hb2⟩ := List.getElem?_eq_some_iff.1 hb
    have := h j i (by rw [List.length_map]; exact hb1) (by rw [List.length_map]; exact ha1) hji
    rw [List.getElem_map, List.getElem_map, ha2, hb2] at this
    exact this
  · intro h j i hj hi hji
    rw [List.length_map] at hj hi
    have := h i j s[i] s[j] (List.getElem?_eq_getElem hi) (List.getElem?_eq_getElem hj) hji
    rw [List.getElem_map, List.getElem_map]
    exact this
theorem sub_yes {s : Binds} (h : ∀ (i : Nat) (a : Int × Trm), s[i]? = some a → okB s a ∧ ∀ (j : Nat) (b : Int × Trm), s[j]? = some b → j < i → b.1 ≠ a.1) : subOk s = true :=
  subOk_iff.2 ⟨fun b hb => by
    obtain ⟨i, hi, e⟩ := List.mem_iff_getElem.1 hb
    exact (h i b (by rw [List.getElem?_eq_getElem hi, e])).1, nodup_ix.2 fun i j a b ha hb hji => (h i a ha).2 j b hb hji⟩
theorem sub_no1 {s : Binds} {i : Nat} {a : Int × Trm} (ha : s[i]? = some a) (h : ¬ okB s a) : subOk s = false := by
  rw [Bool.eq_false_iff]
  intro hs
  exact h ((subOk_iff.1 hs).1 a (List.mem_of_getElem? ha))
theorem sub_no2 {s : Binds} {i j : Nat} {a b : Int × Trm} (ha : s[i]? = some a) (hb : s[j]? = some b) (hji : j < i) (h : b.1 = a.1) : subOk s = false := by
  rw [Bool.eq_false_iff]
  intro hs
  exact nodup_ix.1 (subOk_iff.1 hs).2 i j a b ha hb hji h
end Go.Proofs.YtjglbadkbhopoaaGreatDoor
namespace Go.Proofs.YtjglbadkbhopoaaGreatDoor
open Go.RowKit
set_option maxRecDepth 100000
set_option maxHeartbeats 8000000
set_option linter.unusedVariables false
end Go.Proofs.YtjglbadkbhopoaaGreatDoor
namespace Go.Proofs.YtjglbadkbhopoaaGreatDoor
set_option linter.unusedVariables false
end Go.Proofs.YtjglbadkbhopoaaGreatDoor
namespace Go.Proofs.YtjglbadkbhopoaaGreatDoor
open Go.RowKit
set_option maxRecDepth 100000
set_option maxHeartbeats 8000000
set_option linter.unusedVariables false
structure PrR (w : World) (p : Prog) (cv pv : Value) : Prop where
  c : Kd.clause.S 126 w cv p.cl
  p : Kd.place.S 121 w pv p.pl
theorem PrR.ext {w w' : World} {p : Prog} {cv pv : Value} (h : PrR w p cv pv) (hb : Below w.heap.size w w') : PrR w' p cv pv := ⟨Kd.S_ext hb h.c, Kd.S_ext hb h.p⟩
def CB (p1 p2 st gv bv vs cv tv ov x0 x1 x2 x3 x4 x5 : Value) (g : Nat) (w1 : World) : Prop :=
  w1.cell? ⟨g, 0, none⟩ = some p1 ∧ w1.cell? ⟨g, 1, none⟩ = some p2 ∧ w1.cell? ⟨g + 1, 2, none⟩ = some bv ∧ w1.cell? ⟨g + 2, 0, none⟩ = some x0 ∧ w1.cell? ⟨g + 2, 1, none⟩ = some x1 ∧ w1.cell? ⟨g + 2, 2, none⟩ = some x2 ∧ w1.cell? ⟨g + 2, 3, none⟩ = some x3 ∧ w1.cell? ⟨g + 2, 4, none⟩ = some x4 ∧ w1.cell? ⟨g + 2, 5, none⟩ = some x5
end Go.Proofs.YtjglbadkbhopoaaGreatDoor
namespace Go.Proofs.YtjglbadkbhopoaaGreatDoor
open Go.RowKit
set_option linter.unusedVariables false
set_option maxRecDepth 100000
theorem bx_but {w : World} {g j t : Nat} {cs : Array Value} {u : Value} (h : Bx w g t cs) : KeepBut t w (w.setCell ⟨g, j, none⟩ u) := fun k c q f' hk hq => by
  refine heap_setCell_other w _ k u (fun he => ?_)
  have h' : w.heap[g]? = some (.cells cs t (0, 0)) := h
  rw [show k = g from he, h'] at hk
  injection hk with hk
  injection hk with _ ht
  exact hq ht.symm
theorem Bx.but {W W' : World} {g t e : Nat} {cs : Array Value} (h : Bx W g t cs) (hk : KeepBut e W W') (hne : t ≠ e) : Bx W' g t cs := (hk g cs t (0, 0) h hne).trans h
theorem bx2a (w : World) (t1 t2 : Nat) (c1 c2 : Array Value) : Bx ((w.alloc (.cells c1 t1)).alloc (.cells c2 t2)) w.heap.size t1 c1 := Bx.alloc (Bx.new w t1 c1) _
theorem bx2b (w : World) (t1 t2 : Nat) (c1 c2 : Array Value) : Bx ((w.alloc (.cells c1 t1)).alloc (.cells c2 t2)) (w.heap.size + 1) t2 c2 := by
  have := Bx.new (w.alloc (.cells c1 t1)) t2 c2; rwa [size_alloc] at this
theorem bx3a (w : World) (t1 t2 t3 : Nat) (c1 c2 c3 : Array Value) : Bx (((w.alloc (.cells c1 t1)).alloc (.cells c2 t2)).alloc (.cells c3 t3)) w.heap.size t1 c1 := Bx.alloc (bx2a w t1 t2 c1 c2) _
theorem bx3b (w : World) (t1 t2 t3 : Nat) (c1 c2 c3 : Array Value) : Bx (((w.alloc (.cells c1 t1)).alloc (.cells c2 t2)).alloc (.cells c3 t3)) (w.heap.size + 1) t2 c2 := Bx.alloc (bx2b w t1 t2 c1 c2) _
theorem bx3c (w : World) (t1 t2 t3 : Nat) (c1 c2 c3 : Array Value) : Bx (((w.alloc (.cells c1 t1)).alloc (.cells c2 t2)).alloc (.cells c3 t3)) (w.heap.size + 1 + 1) t3 c3 := by
  have := Bx.new ((w.alloc (.cells c1 t1)).alloc (.cells c2 t2)) t3 c3; rwa [size_alloc, size_alloc] at this
theorem wrote_own {B e : Nat} {w W W' : World} (h : Wrote B e w W) (hb : Below w.heap.size W W') (hB : B ≤ w.heap.size) : Wrote B e w W' :=
  ⟨h.bel.trans (hb.mono hB), fun k c q f hk hq => (hb.block k (Array.getElem?_eq_some_iff.1 hk).1).trans (h.but k c q f hk hq)⟩
theorem S_zero {α : Type} (d : Kd α) (e : Nat) (w : World) (A : Option Addr) (c : Nat) (hc : c ≤ maxLen) : d.S e w (.slice A 0 c) [] := ⟨A, c, rfl, Nat.zero_le _, hc, Kd.C_nil d e w A⟩
def ChB (L : Nat) (s : TSt) : Prop := s.ch.length ≤ L ∧ ∀ c ∈ s.ch, c.goals.length ≤ L
theorem put_7 {W : World} {gr t : Nat} {b0 b1 b2 b3 b4 b5 b6 : Value} (hr : Bx W gr t #[b0, b1, b2, b3, b4, b5, b6]) (u0 u1 u2 u3 u4 u5 u6 : Value) :
    W.cell? ⟨gr, 0, none⟩ = some b0 ∧ W.frozen? ⟨gr, 0, none⟩ = false ∧ (W.setCell ⟨gr, 0, none⟩ u0).cell? ⟨gr, 1, none⟩ = some b1 ∧ (W.setCell ⟨gr, 0, none⟩ u0).frozen? ⟨gr, 1, none⟩ = false ∧ ((W.setCell ⟨gr, 0, none⟩ u0).setCell ⟨gr, 1, none⟩ u1).cell? ⟨gr, 2, none⟩ = some b2 ∧ ((W.setCell ⟨gr, 0, none⟩ u0).setCell ⟨gr, 1, none⟩ u1).frozen? ⟨gr, 2, none⟩ = false ∧ (((W.setCell ⟨gr, 0, none⟩ u0).setCell ⟨gr, 1, none⟩ u1).setCell ⟨gr, 2, none⟩ u2).cell? ⟨gr, 3, none⟩ = some b3 ∧ (((W.setCell ⟨gr, 0, none⟩ u0).setCell ⟨gr, 1, none⟩ u1).setCell ⟨gr, 2, none⟩ u2).frozen? ⟨gr, 3, none⟩ = false ∧ ((((W.setCell ⟨gr, 0, none⟩ u0).setCell ⟨gr, 1, none⟩ u1).setCell ⟨gr, 2, none⟩ u2).setCell ⟨gr, 3, none⟩ u3).cell? ⟨gr, 4, none⟩ = some b4 ∧ ((((W.setCell ⟨gr, 0, none⟩ u0).setCell ⟨gr, 1, none⟩ u1).setCell ⟨gr, 2, none⟩ u2).setCell ⟨gr, 3, none⟩ u3).frozen? ⟨gr, 4, none⟩ = false ∧ (((((W.setCell ⟨gr, 0, none⟩ u0).setCell ⟨gr, 1, none⟩ u1).setCell ⟨gr, 2, none⟩ u2).setCell ⟨gr, 3, none⟩ u3).setCell ⟨gr, 4, none⟩ u4).cell? ⟨gr, 5, none⟩ = some b5 ∧ (((((W.setCell ⟨gr, 0, none⟩ u0).setCell ⟨gr, 1, none⟩ u1).setCell ⟨gr, 2, none⟩ u2).setCell ⟨gr, 3, none⟩ u3).setCell ⟨gr, 4, none⟩ u4).frozen? ⟨gr, 5, none⟩ = false ∧ ((((((W.setCell ⟨gr, 0, none⟩ u0).setCell ⟨gr, 1, none⟩ u1).setCell ⟨gr, 2, none⟩ u2).setCell ⟨gr, 3, none⟩ u3).setCell ⟨gr, 4, none⟩ u4).setCell ⟨gr, 5, none⟩ u5).cell? ⟨gr, 6, none⟩ = some b6 ∧ ((((((W.setCell ⟨gr, 0, none⟩ u0).setCell ⟨gr, 1, none⟩ u1).setCell ⟨gr, 2, none⟩ u2).setCell ⟨gr, 3, none⟩ u3).setCell ⟨gr, 4, none⟩ u4).setCell ⟨gr, 5, none⟩ u5).frozen? ⟨gr, 6, none⟩ = false ∧ Hid (Bx (((((((W.setCell ⟨gr, 0, none⟩ u0).setCell ⟨gr, 1, none⟩ u1).setCell ⟨gr, 2, none⟩ u2).setCell ⟨gr, 3, none⟩ u3).setCell ⟨gr, 4, none⟩ u4).setCell ⟨gr, 5, none⟩ u5).setCell ⟨gr, 6, none⟩ u6) gr t #[u0, u1, u2, u3, u4, u5, u6] ∧ KeepBut t W (((((((W.setCell ⟨gr, 0, none⟩ u0).setCell ⟨gr, 1, none⟩ u1).setCell ⟨gr, 2, none⟩ u2).setCell ⟨gr, 3, none⟩ u3).setCell ⟨gr, 4, none⟩ u4).setCell ⟨gr, 5, none⟩ u5).setCell ⟨gr, 6, none⟩ u6) ∧ ∀ B W0, B ≤ gr → Below B W0 W → Below B W0 (((((((W.setCell ⟨gr, 0, none⟩ u0).setCell ⟨gr, 1, none⟩ u1).setCell ⟨gr, 2, none⟩ u2).setCell ⟨gr, 3, none⟩ u3).setCell ⟨gr, 4, none⟩ u4).setCell ⟨gr, 5, none⟩ u5).setCell ⟨gr, 6, none⟩ u6)) := by
  have r1 : Bx (W.setCell ⟨gr, 0, none⟩ u0) gr t #[u0, b1, b2, b3, b4, b5, b6] := Bx.put hr 0 u0
  have r2 : Bx ((W.setCell ⟨gr, 0, none⟩ u0).setCell ⟨gr, 1, none⟩ u1) gr t #[u0, u1, b2, b3, b4, b5, b6] := Bx.put r1 1 u1
  have r3 : Bx (((W.setCell ⟨gr, 0, none⟩ u0).setCell ⟨gr, 1, none⟩ u1).setCell ⟨gr, 2, none⟩ u2) gr t #[u0, u1, u2, b3, b4, b5, b6] := Bx.put r2 2 u2
  have r4 : Bx ((((W.setCell ⟨gr, 0, none⟩ u0).setCell ⟨gr, 1, none⟩ u1).setCell ⟨gr, 2, none⟩ u2).setCell ⟨gr, 3, none⟩ u3) gr t #[u0, u1, u2, u3, b4, b5, b6] := Bx.put r3 3 u3
  have r5 : Bx (((((W.setCell ⟨gr, 0, none⟩ u0).setCell ⟨gr, 1, none⟩ u1).setCell ⟨gr, 2, none⟩ u2).setCell ⟨gr, 3, none⟩ u3).setCell ⟨gr, 4, none⟩ u4) gr t #[u0, u1, u2, u3, u4, b5, b6] := Bx.put r4 4 u4
  have r6 : Bx ((((((W.setCell ⟨gr, 0, none⟩ u0).setCell ⟨gr, 1, none⟩ u1).setCell ⟨gr, 2, none⟩ u2).setCell ⟨gr, 3, none⟩ u3).setCell ⟨gr, 4, none⟩ u4).setCell ⟨gr, 5, none⟩ u5) gr t #[u0, u1, u2, u3, u4, u5, b6] := Bx.put r5 5 u5
  have r7 : Bx (((((((W.setCell ⟨gr, 0, none⟩ u0).setCell ⟨gr, 1, none⟩ u1).setCell ⟨gr, 2, none⟩ u2).setCell ⟨gr, 3, none⟩ u3).setCell ⟨gr, 4, none⟩ u4).setCell ⟨gr, 5, none⟩ u5).setCell ⟨gr, 6, none⟩ u6) gr t #[u0, u1, u2, u3, u4, u5, u6] := Bx.put r6 6 u6
  exact ⟨Bx.cell hr 0, Bx.free hr 0, Bx.cell r1 1, Bx.free r1 1, Bx.cell r2 2, Bx.free r2 2, Bx.cell r3 3, Bx.free r3 3, Bx.cell r4 4, Bx.free r4 4, Bx.cell r5 5, Bx.free r5 5, Bx.cell r6 6, Bx.free r6 6, Lib.hid ⟨r7, ((((((bx_but hr).trans (bx_but r1)).trans (bx_but r2)).trans (bx_but r3)).trans (bx_but r4)).trans (bx_but r5)).trans (bx_but r6), fun B W0 hB h => (Below.setCell (Below.setCell (Below.setCell (Below.setCell (Below.setCell (Below.setCell (Below.setCell h hB _) hB _) hB _) hB _) hB _) hB _) hB _)⟩⟩
theorem put_2 {W : World} {gr t : Nat} {b0 b1 : Value} (hr : Bx W gr t #[b0, b1]) (u0 u1 : Value) :
    W.cell? ⟨gr, 0, none⟩ = some b0 ∧ W.frozen? ⟨gr, 0, none⟩ = false ∧ (W.setCell ⟨gr, 0, none⟩ u0).cell? ⟨gr, 1, none⟩ = some b1 ∧ (W.setCell ⟨gr, 0, none⟩ u0).frozen? ⟨gr, 1, none⟩ = false ∧ Hid (Bx ((W.setCell ⟨gr, 0, none⟩ u0).setCell ⟨gr, 1, none⟩ u1) gr t #[u0, u1] ∧ KeepBut t W ((W.setCell ⟨gr, 0, none⟩ u0).setCell ⟨gr, 1, none⟩ u1) ∧ ∀ B W0, B ≤ gr → Below B W0 W → Below B W0 ((W.setCell ⟨gr, 0, none⟩ u0).setCell ⟨gr, 1, none⟩ u1)) := by
  have r1 : Bx (W.setCell ⟨gr, 0, none⟩ u0) gr t #[u0, b1] := Bx.put hr 0 u0
  have r2 : Bx ((W.setCell ⟨gr, 0, none⟩ u0).setCell ⟨gr, 1, none⟩ u1) gr t #[u0, u1] := Bx.put r1 1 u1
  exact ⟨Bx.cell hr 0, Bx.free hr 0, Bx.cell r1 1, Bx.free r1 1, Lib.hid ⟨r2, (bx_but hr).trans (bx_but r1), fun B W0 hB h => (Below.setCell (Below.setCell h hB _) hB _)⟩⟩
theorem put_5 {W : World} {gr t : Nat} {b0 b1 b2 b3 b4 : Value} (hr : Bx W gr t #[b0, b1, b2, b3, b4]) (u0 u1 u2 u3 u4 : Value) :
    W.cell? ⟨gr, 0, none⟩ = some b0 ∧ W.frozen? ⟨gr, 0, none⟩ = false ∧ (W.setCell ⟨gr, 0, none⟩ u0).cell? ⟨gr, 1, none⟩ = some b1 ∧ (W.setCell ⟨gr, 0, none⟩ u0).frozen? ⟨gr, 1, none⟩ = false ∧ ((W.setCell ⟨gr, 0, none⟩ u0).setCell ⟨gr, 1, none⟩ u1).cell? ⟨gr, 2, none⟩ = some b2 ∧ ((W.setCell ⟨gr, 0, none⟩ u0).setCell ⟨gr, 1, none⟩ u1).frozen? ⟨gr, 2, none⟩ = false ∧ (((W.setCell ⟨gr, 0, none⟩ u0).setCell ⟨gr, 1, none⟩ u1).setCell ⟨gr, 2, none⟩ u2).cell? ⟨gr, 3, none⟩ = some b3 ∧ (((W.setCell ⟨gr, 0, none⟩ u0).setCell ⟨gr, 1, none⟩ u1).setCell ⟨gr, 2, none⟩ u2).frozen? ⟨gr, 3, none⟩ = false ∧ ((((W.setCell ⟨gr, 0, none⟩ u0).setCell ⟨gr, 1, none⟩ u1).setCell ⟨gr, 2, none⟩ u2).setCell ⟨gr, 3, none⟩ u3).cell? ⟨gr, 4, none⟩ = some b4 ∧ ((((W.setCell ⟨gr, 0, none⟩ u0).setCell ⟨gr, 1, none⟩ u1).setCell ⟨gr, 2, none⟩ u2).setCell ⟨gr, 3, none⟩ u3).frozen? ⟨gr, 4, none⟩ = false ∧ Hid (Bx (((((W.setCell ⟨gr, 0, none⟩ u0).setCell ⟨gr, 1, none⟩ u1).setCell ⟨gr, 2, none⟩ u2).setCell ⟨gr, 3, none⟩ u3).setCell ⟨gr, 4, none⟩ u4) gr t #[u0, u1, u2, u3, u4] ∧ KeepBut t W (((((W.setCell ⟨gr, 0, none⟩ u0).setCell ⟨gr, 1, none⟩ u1).setCell ⟨gr, 2, none⟩ u2).setCell ⟨gr, 3, none⟩ u3).setCell ⟨gr, 4, none⟩ u4) ∧ ∀ B W0, B ≤ gr → Below B W0 W → Below B W0 (((((W.setCell ⟨gr, 0, none⟩ u0).setCell ⟨gr, 1, none⟩ u1).setCell ⟨gr, 2, none⟩ u2).setCell ⟨gr, 3, none⟩ u3).setCell ⟨gr, 4, none⟩ u4)) := by
  have r1 : Bx (W.setCell ⟨gr, 0, none⟩ u0) gr t #[u0, b1, b2, b3, b4] := Bx.put hr 0 u0
  have r2 : Bx ((W.setCell ⟨gr, 0, none⟩ u0).setCell ⟨gr, 1, none⟩ u1) gr t #[u0, u1, b2, b3, b4] := Bx.put r1 1 u1
  have r3 : Bx (((W.setCell ⟨gr, 0, none⟩ u0).setCell ⟨gr, 1, none⟩ u1).setCell ⟨gr, 2, none⟩ u2) gr t #[u0, u1, u2, b3, b4] := Bx.put r2 2 u2
  have r4 : Bx ((((W.setCell ⟨gr, 0, none⟩ u0).setCell ⟨gr, 1, none⟩ u1).setCell ⟨gr, 2, none⟩ u2).setCell ⟨gr, 3, none⟩ u3) gr t #[u0, u1, u2, u3, b4] := Bx.put r3 3 u3
  have r5 : Bx (((((W.setCell ⟨gr, 0, none⟩ u0).setCell ⟨gr, 1, none⟩ u1).setCell ⟨gr, 2, none⟩ u2).setCell ⟨gr, 3, none⟩ u3).setCell ⟨gr, 4, none⟩ u4) gr t #[u0, u1, u2, u3, u4] := Bx.put r4 4 u4
  exact ⟨Bx.cell hr 0, Bx.free hr 0, Bx.cell r1 1, Bx.free r1 1, Bx.cell r2 2, Bx.free r2 2, Bx.cell r3 3, Bx.free r3 3, Bx.cell r4 4, Bx.free r4 4, Lib.hid ⟨r5, ((((bx_but hr).trans (bx_but r1)).trans (bx_but r2)).trans (bx_but r3)).trans (bx_but r4), fun B W0 hB h => (Below.setCell (Below.setCell (Below.setCell (Below.setCell (Below.setCell h hB _) hB _) hB _) hB _) hB _)⟩⟩
end Go.Proofs.YtjglbadkbhopoaaGreatDoor
namespace Go.Proofs.YtjglbadkbhopoaaGreatDoor
open Go.RowKit
set_option maxRecDepth 100000
set_option maxHeartbeats 8000000
set_option linter.unusedVariables false
def RQ (w0 : World) (g M : Nat) (W : World) : Prop := ∃ p bs A c, p ≤ M ∧ Bx W g 92 #[.slice A bs.length c, .int .i64 (p : Int)] ∧ Bytes w0 A bs.length c bs ∧ bs.length ≤ 2000 ∧ Below w0.heap.size w0 W ∧ w0.heap.size ≤ g
theorem RQ.below {w0 W : World} {g M : Nat} (h : RQ w0 g M W) : Below w0.heap.size w0 W := by obtain ⟨p, bs, A, c, -, -, -, -, h, -⟩ := h; exact h
theorem RQ.size {w0 W : World} {g M : Nat} (h : RQ w0 g M W) : w0.heap.size ≤ W.heap.size := h.below.size
theorem RQ.lt {w0 W : World} {g M : Nat} (h : RQ w0 g M W) : g < W.heap.size ∧ w0.heap.size ≤ g := by obtain ⟨p, bs, A, c, -, h, -, -, -, h2⟩ := h; exact ⟨(Array.getElem?_eq_some_iff.1 h).1, h2⟩
theorem RQ.mono {w0 W : World} {g M M' : Nat} (h : RQ w0 g M W) (hm : M ≤ M') : RQ w0 g M' W := by obtain ⟨p, bs, A, c, h1, h⟩ := h; exact ⟨p, bs, A, c, by omega, h⟩
theorem RQ.ext {w0 W W' : World} {g M : Nat} (h : RQ w0 g M W) (hb : Below W.heap.size W W') : RQ w0 g M W' := by
  obtain ⟨p, bs, A, c, h1, h2, h3, h4, h5, h6⟩ := h
  exact ⟨p, bs, A, c, h1, h2.below hb, h3, h4, bel_trans h5 hb, h6⟩
theorem RQ.wrote {w0 W W' : World} {g M e b : Nat} (h : RQ w0 g M W) (hw : Wrote b e W W') (hb : w0.heap.size ≤ b) (he : 92 ≠ e) : RQ w0 g M W' := by
  obtain ⟨p, bs, A, c, h1, h2, h3, h4, h5, h6⟩ := h
  exact ⟨p, bs, A, c, h1, h2.but hw.but he, h3, h4, h5.trans (hw.bel.mono hb), h6⟩
abbrev DW (w0 W W' : World) : Prop := Wrote w0.heap.size 92 W W'
theorem rq_pick {w0 W : World} {g M : Nat} (h : RQ w0 g M W) (hM : M ≤ 1000000000) (n : Int) (hn0 : -9223372036854775808 ≤ n) (hn1 : n ≤ 9223372036854775807) :
    Calls Tryz.prog 34 #[.pointer (some ⟨g, 0, none⟩), .int .i64 n] W fun e w' => ∃ v : Int, e = .returned (.int .i64 v) ∧ Picked n v ∧ RQ w0 g (M + 1) w' ∧ DW w0 W w' := by
  obtain ⟨p, bs, A, c, h1, h2, h3, h4, h5, h6⟩ := h
  have hrd : Rd W g bs p := by
    refine ⟨⟨A, c, h2, h3.le, h3.cap, fun hne => ?_⟩, h3.small, h4⟩
    obtain ⟨ad, ea, hc⟩ := h3.row hne
    have hpos : 0 < bs.length := List.length_pos_iff.2 hne
    have hlt := World.block_lt_of_cell? w0 _ (hc 0 _ (List.getElem?_eq_getElem hpos))
    rw [add_block] at hlt
    exact ⟨ad, ea, by omega, fun i b hi => cell_keep h5 (hc i b hi)⟩
  refine (pick_c W g bs p hrd (by omega) n hn0 hn1).mono ?_
  rintro e w' ⟨v, rfl, hv, k, rfl⟩
  have hbel : Below w0.heap.size W ((W.setCell ⟨g, 1, none⟩ (.int .i64 ((p : Int) + 1))).drewN k) := bel_drewN ((Below.refl _ _).setCell h6 _) k
  refine ⟨v, rfl, hv, ⟨p + 1, bs, A, c, by omega, ?_, h3, h4, h5.trans hbel, h6⟩, hbel, fun i cs q f hi hq => ?_⟩
  · have := Bx.put h2 1 (.int .i64 ((p : Int) + 1))
    exact this
  · exact bx_but h2 (j := 1) (u := .int .i64 ((p : Int) + 1)) i cs q f hi hq
theorem odd_c {w0 W : World} {g M : Nat} (h : RQ w0 g M W) (hM : M ≤ 1000000000) (n : Int) (hn0 : 1 ≤ n) (hn1 : n ≤ 1000000) :
    Calls Tryz.prog 33 #[.pointer (some ⟨g, 0, none⟩), .int .i64 n] W fun e w' => ∃ b : Bool, e = .returned (.bool b) ∧ RQ w0 g (M + 1) w' ∧ DW w0 W w' := by
  have HP := Lib.hid (rq_pick h hM n (by omega) (by omega))
  clear h
  go_enter Tryz.func33, Tryz.ntmps33
  go_wp2_with (first | (go_at_call 34; refine HP.out.mono ?_; rintro e w1 ⟨v, rfl, hv, hR, hw⟩; obtain ⟨hv0, hv1, -⟩ := hv; have hv2 := hv1 (by omega); have HR := Lib.hid hR; have HW := Lib.hid hw; clear hR hw hv1) | fail)
  go_ret
  exact ⟨_, rfl, HR.out, HW.out⟩
theorem ints_lit (xs : List Int) (hb : ∀ x ∈ xs, -100000 ≤ x ∧ x ≤ 100000) (j : Nat) (hj : j < xs.length) : ∃ x : Int, ((xs.map (Value.int .i64)).toArray)[j]? = some (.int .i64 x) ∧ -100000 ≤ x ∧ x ≤ 100000 :=
  ⟨xs[j], by simp [hj], hb _ (List.getElem_mem hj)⟩
theorem strs_lit (xs : List ByteArray) (hb : ∀ x ∈ xs, x.size ≤ 100) (j : Nat) (hj : j < xs.length) : ∃ x : ByteArray, ((xs.map Value.string).toArray)[j]? = some (.string x) ∧ x.size ≤ 100 :=
  ⟨xs[j], by simp [hj], hb _ (List.getElem_mem hj)⟩
theorem put_3 {W : World} {gr t : Nat} {b0 b1 b2 : Value} (hr : Bx W gr t #[b0, b1, b2]) (u0 u1 u2 : Value) :
    W.cell? ⟨gr, 0, none⟩ = some b0 ∧ W.frozen? ⟨gr, 0, none⟩ = false ∧ (W.setCell ⟨gr, 0, none⟩ u0).cell? ⟨gr, 1, none⟩ = some b1 ∧ (W.setCell ⟨gr, 0, none⟩ u0).frozen? ⟨gr, 1, none⟩ = false ∧ ((W.setCell ⟨gr, 0, none⟩ u0).setCell ⟨gr, 1, none⟩ u1).cell? ⟨gr, 2, none⟩ = some b2 ∧ ((W.setCell ⟨gr, 0, none⟩ u0).setCell ⟨gr, 1, none⟩ u1).frozen? ⟨gr, 2, none⟩ = false ∧ Hid (Bx (((W.setCell ⟨gr, 0, none⟩ u0).setCell ⟨gr, 1, none⟩ u1).setCell ⟨gr, 2, none⟩ u2) gr t #[u0, u1, u2] ∧ KeepBut t W (((W.setCell ⟨gr, 0, none⟩ u0).setCell ⟨gr, 1, none⟩ u1).setCell ⟨gr, 2, none⟩ u2) ∧ (∀ k, k ≠ gr → (((W.setCell ⟨gr, 0, none⟩ u0).setCell ⟨gr, 1, none⟩ u1).setCell ⟨gr, 2, none⟩ u2).heap[k]? = W.heap[k]?) ∧ ∀ B W0, B ≤ gr → Below B W0 W → Below B W0 (((W.setCell ⟨gr, 0, none⟩ u0).setCell ⟨gr, 1, none⟩ u1).setCell ⟨gr, 2, none⟩ u2)) := by
  have r1 : Bx (W.setCell ⟨gr, 0, none⟩ u0) gr t #[u0, b1, b2] := Bx.put hr 0 u0
  have r2 : Bx ((W.setCell ⟨gr, 0, none⟩ u0).setCell ⟨gr, 1, none⟩ u1) gr t #[u0, u1, b2] := Bx.put r1 1 u1
  have r3 : Bx (((W.setCell ⟨gr, 0, none⟩ u0).setCell ⟨gr, 1, none⟩ u1).setCell ⟨gr, 2, none⟩ u2) gr t #[u0, u1, u2] := Bx.put r2 2 u2
  exact ⟨Bx.cell hr 0, Bx.free hr 0, Bx.cell r1 1, Bx.free r1 1, Bx.cell r2 2, Bx.free r2 2, Lib.hid ⟨r3, ((bx_but hr).trans (bx_but r1)).trans (bx_but r2), fun k hk => (heap_setCell_other _ _ k u2 hk).trans ((heap_setCell_other _ _ k u1 hk).trans (heap_setCell_other _ _ k u0 hk)), fun B W0 hB h => (Below.setCell (Below.setCell (Below.setCell h hB _) hB _) hB _)⟩⟩
def SmC (c : Cell) : Prop := (-1000000 ≤ c.n ∧ c.n ≤ 1000000) ∧ c.s.size ≤ 100
theorem DW.own {w0 W W1 W2 : World} (h : DW w0 W W1) (hb : Below W.heap.size W1 W2) (h0 : w0.heap.size ≤ W.heap.size) : DW w0 W W2 := wrote_own h hb h0
theorem DW.ext {w0 W W1 W2 : World} (h : DW w0 W W1) (hb : Below W1.heap.size W1 W2) (h0 : w0.heap.size ≤ W.heap.size) : DW w0 W W2 := h.trans (.of_below (Nat.le_trans h0 h.bel.size) hb)
theorem leaf_c {w0 W : World} {g M : Nat} (h : RQ w0 g M W) (hM : M ≤ 900000000) (vars : Nat) (hv1 : 1 ≤ vars) (hv2 : vars ≤ 1000) :
    Calls Tryz.prog 103 #[.pointer (some ⟨g, 0, none⟩), .int .i64 (vars : Int)] W fun e w' => ∃ c : Cell, e = .returned (.agg #[.int .i64 c.k, .int .i64 c.n, .string c.s]) ∧ SmC c ∧ (c.k = 3 → c.n = 0) ∧ RQ w0 g (M + 2) w' ∧ DW w0 W w' := by
  have HR0 := Lib.hid (h.ext (bel_alloc (Below.refl _ _) (.cells #[.int .i64 0, .int .i64 0, .string ⟨#[]⟩] 47)))
  have HB0 := Lib.hid (Bx.new W 47 #[.int .i64 0, .int .i64 0, .string ⟨#[]⟩])
  have hsz := h.size
  have HD0 := Lib.hid (Wrote.of_below (e := 92) h.size (bel_alloc (Below.refl _ _) (.cells #[.int .i64 0, .int .i64 0, .string ⟨#[]⟩] 47)))
  have hg := h.lt
  clear h
  go_enter Tryz.func103, Tryz.ntmps103
  go_upto_region 2 with (first | (go_at_call_of 34 (Value.int .i64 4); refine (rq_pick HR0.out (by omega) _ (by omega) (by omega)).mono ?_; rintro e wp1 ⟨v, rfl, hv, hR, hw⟩; obtain ⟨hv0, hv1, -⟩ := hv; have hv2 := hv1 (by omega); obtain ⟨k, rfl⟩ : ∃ i : Nat, v = i := ⟨v.toNat, by omega⟩; have hk : k < 4 := (by omega); have HR1 := Lib.hid hR; have HW1 := Lib.hid hw; have HB1 := Lib.hid (Bx.but HB0.out hw.but (by decide)); have HD1 := Lib.hid (HD0.out.trans hw); clear hv0 hv1 hv2 hR hw) | fail)
  have hks : k = 0 ∨ k = 1 ∨ k = 2 ∨ k = 3 := by omega
  clear HR0 HB0 HD0 hk
  rcases hks with rfl | rfl | rfl | rfl
  · go_wp2_with (first | (go_at_call_of 34 (Value.int .i64 (vars : Int)); refine (rq_pick HR1.out (by omega) _ (by omega) (by omega)).mono ?_; rintro e wp2 ⟨v, rfl, hv, hR, hw⟩; obtain ⟨hv0, hv1, -⟩ := hv; have hv2 := hv1 (by omega); obtain ⟨i, rfl⟩ : ∃ i : Nat, v = i := ⟨v.toNat, by omega⟩; have hi : (i : Int) < (vars : Int) := (by omega); have HR2 := Lib.hid hR; have HW2 := Lib.hid hw; have HB2 := Lib.hid (Bx.but HB1.out hw.but (by decide)); have HD2 := Lib.hid (HD1.out.trans hw); obtain ⟨m0, m1, m2, m3, m4, m5, HE⟩ := put_3 HB2.out (.int .i64 1) (.int .i64 (i : Int)) (.string ⟨#[]⟩); clear hv0 hv1 hv2 hR hw) | fail)
    refine bodyPost_ret (results_cell_row rfl _ _ (W.heap.size) 47 _ (0, 0) _ rfl HE.out.1 Tryz.underlying47 rfl (by kernel_rfl)) rfl ?_
    exact ⟨⟨1, (i : Int), ⟨#[]⟩⟩, rfl, ⟨⟨by show -1000000 ≤ (i : Int); omega, by show (i : Int) ≤ 1000000; omega⟩, by show (0 : Nat) ≤ 100; omega⟩, fun h => absurd (show (1 : Int) = 3 from h) (by decide), HR2.out.wrote (b := w0.heap.size) ⟨HE.out.2.2.2 w0.heap.size _ hsz (Below.refl _ _), HE.out.2.1⟩ (Nat.le_refl _) (by decide), DW.own HD2.out (HE.out.2.2.2 W.heap.size _ (Nat.le_refl _) (Below.refl _ _)) hsz⟩
  · go_wp2_with (first | (go_at_call_of 34 (Value.int .i64 (vars : Int)); refine (rq_pick HR1.out (by omega) _ (by omega) (by omega)).mono ?_; rintro e wp2 ⟨v, rfl, hv, hR, hw⟩; obtain ⟨hv0, hv1, -⟩ := hv; have hv2 := hv1 (by omega); obtain ⟨i, rfl⟩ : ∃ i : Nat, v = i := ⟨v.toNat, by omega⟩; have hi : (i : Int) < (vars : Int) := (by omega); have HR2 := Lib.hid hR; have HW2 := Lib.hid hw; have HB2 := Lib.hid (Bx.but HB1.out hw.but (by decide)); have HD2 := Lib.hid (HD1.out.trans hw); obtain ⟨m0, m1, m2, m3, m4, m5, HE⟩ := put_3 HB2.out (.int .i64 1) (.int .i64 (i : Int)) (.string ⟨#[]⟩); clear hv0 hv1 hv2 hR hw) | fail)
    refine bodyPost_ret (results_cell_row rfl _ _ (W.heap.size) 47 _ (0, 0) _ rfl HE.out.1 Tryz.underlying47 rfl (by kernel_rfl)) rfl ?_
    exact ⟨⟨1, (i : Int), ⟨#[]⟩⟩, rfl, ⟨⟨by show -1000000 ≤ (i : Int); omega, by show (i : Int) ≤ 1000000; omega⟩, by show (0 : Nat) ≤ 100; omega⟩, fun h => absurd (show (1 : Int) = 3 from h) (by decide), HR2.out.wrote (b := w0.heap.size) ⟨HE.out.2.2.2 w0.heap.size _ hsz (Below.refl _ _), HE.out.2.1⟩ (Nat.le_refl _) (by decide), DW.own HD2.out (HE.out.2.2.2 W.heap.size _ (Nat.le_refl _) (Below.refl _ _)) hsz⟩
  · go_wp2_with (first | (go_at_call_of 34 (Value.int .i64 6); refine (rq_pick (HR1.out.ext (bel_alloc (Below.refl _ _) _)) (by omega) _ (by omega) (by omega)).mono ?_; rintro e wp2 ⟨v, rfl, hv, hR, hw⟩; obtain ⟨hv0, hv1, -⟩ := hv; have hv2 := hv1 (by omega); obtain ⟨i, rfl⟩ : ∃ i : Nat, v = i := ⟨v.toNat, by omega⟩; have hi : i < 6 := (by omega); have HR2 := Lib.hid hR; have HW2 := Lib.hid hw; obtain ⟨xi, hxi, hxbi⟩ := ints_lit [0, 1, 2, -1, 7, 9999] (by decide) i (by simpa using hi); have hci := (Bx.cell (Bx.but (Bx.new _ 3 #[.int .i64 0, .int .i64 1, .int .i64 2, .int .i64 (-1), .int .i64 7, .int .i64 9999]) hw.but (by decide)) i).trans hxi; have HB2 := Lib.hid (Bx.but (Bx.alloc HB1.out _) hw.but (by decide)); have HD2 := Lib.hid ((DW.ext HD1.out (bel_alloc (Below.refl _ _) _) hsz).trans hw); obtain ⟨m0, m1, m2, m3, m4, m5, HE⟩ := put_3 HB2.out (.int .i64 2) (.int .i64 xi) (.string ⟨#[]⟩); clear hv0 hv1 hv2 hR hw) | fail)
    refine bodyPost_ret (results_cell_row rfl _ _ (W.heap.size) 47 _ (0, 0) _ rfl HE.out.1 Tryz.underlying47 rfl (by kernel_rfl)) rfl ?_
    exact ⟨⟨2, xi, ⟨#[]⟩⟩, rfl, ⟨⟨by show -1000000 ≤ xi; omega, by show xi ≤ 1000000; omega⟩, by show (0 : Nat) ≤ 100; omega⟩, fun h => absurd (show (2 : Int) = 3 from h) (by decide), HR2.out.wrote (b := w0.heap.size) ⟨HE.out.2.2.2 w0.heap.size _ hsz (Below.refl _ _), HE.out.2.1⟩ (Nat.le_refl _) (by decide), DW.own HD2.out (HE.out.2.2.2 W.heap.size _ (Nat.le_refl _) (Below.refl _ _)) hsz⟩
  · go_wp2_with (first | (go_at_call_of 34 (Value.int .i64 4); refine (rq_pick (HR1.out.ext (bel_alloc (Below.refl _ _) _)) (by omega) _ (by omega) (by omega)).mono ?_; rintro e wp2 ⟨v, rfl, hv, hR, hw⟩; obtain ⟨hv0, hv1, -⟩ := hv; have hv2 := hv1 (by omega); obtain ⟨i, rfl⟩ : ∃ i : Nat, v = i := ⟨v.toNat, by omega⟩; have hi : i < 4 := (by omega); have HR2 := Lib.hid hR; have HW2 := Lib.hid hw; obtain ⟨xi, hxi, hxbi⟩ := strs_lit [⟨#[97]⟩, ⟨#[98]⟩, ⟨#[99]⟩, ⟨#[110, 105, 108]⟩] (by decide) i (by simpa using hi); have hci := (Bx.cell (Bx.but (Bx.new _ 9 #[.string ⟨#[97]⟩, .string ⟨#[98]⟩, .string ⟨#[99]⟩, .string ⟨#[110, 105, 108]⟩]) hw.but (by decide)) i).trans hxi; have HB2 := Lib.hid (Bx.but (Bx.alloc HB1.out _) hw.but (by decide)); have HD2 := Lib.hid ((DW.ext HD1.out (bel_alloc (Below.refl _ _) _) hsz).trans hw); obtain ⟨m0, m1, m2, m3, m4, m5, HE⟩ := put_3 HB2.out (.int .i64 3) (.int .i64 0) (.string xi); clear hv0 hv1 hv2 hR hw) | fail)
    refine bodyPost_ret (results_cell_row rfl _ _ (W.heap.size) 47 _ (0, 0) _ rfl HE.out.1 Tryz.underlying47 rfl (by kernel_rfl)) rfl ?_
    exact ⟨⟨3, 0, xi⟩, rfl, ⟨⟨by show (-1000000 : Int) ≤ 0; omega, by show (0 : Int) ≤ 1000000; omega⟩, hxbi⟩, fun _ => rfl, HR2.out.wrote (b := w0.heap.size) ⟨HE.out.2.2.2 w0.heap.size _ hsz (Below.refl _ _), HE.out.2.1⟩ (Nat.le_refl _) (by decide), DW.own HD2.out (HE.out.2.2.2 W.heap.size _ (Nat.le_refl _) (Below.refl _ _)) hsz⟩
#print axioms leaf_c
end Go.Proofs.YtjglbadkbhopoaaGreatDoor
