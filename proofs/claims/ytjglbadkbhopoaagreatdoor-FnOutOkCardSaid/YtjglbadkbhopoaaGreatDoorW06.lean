/- Lemmas and contracts for FnOutOk, part 6. -/
import Derived.ArgAppend
import Derived.BigQuiet
import Derived.Test.YtjglbadkbhopoaaGreatDoorW01
import Derived.Test.YtjglbadkbhopoaaGreatDoorW05
import Derived.Test.YtjglbadkbhopoaaGreatDoorW03
import Derived.Test.YtjglbadkbhopoaaGreatDoorW02
namespace Go.Proofs.YtjglbadkbhopoaaGreatDoor
open Go.RowKit
set_option linter.unusedVariables false
theorem Kd.O_base {α : Type} {d : Kd α} {e base base' : Nat} {w : World} {v : Value} {xs : List α} (h : d.O e w base v xs) (hb : base' ≤ base) : d.O e w base' v xs := by
  obtain ⟨cs, ⟨h0, h1⟩, h2⟩ := h
  refine ⟨cs, ⟨h0, ?_⟩, h2⟩
  rcases h1 with h1 | ⟨g, cap, cur, rfl, r1, r2⟩
  · exact .inl h1
  · exact .inr ⟨g, cap, cur, rfl, Nat.le_trans hb r1, r2⟩
def Kd.F {α : Type} (d : Kd α) (e : Nat) (w : World) (b : Nat) (v : Value) (xs : List α) : Prop := d.O e w b v xs ∨ (d.S e w v xs ∧ ∃ A, v = .slice A xs.length xs.length)
section
variable {α : Type} {d : Kd α} {e b : Nat} {w w' : World} {v : Value} {xs : List α}
theorem Kd.F_read (h : d.F e w b v xs) : d.S e w v xs := h.elim Kd.O_read (·.1)
theorem Kd.F_ext (hb : Below w.heap.size w w') (h : d.F e w b v xs) : d.F e w' b v xs := h.imp (Kd.O_ext hb) (fun h => ⟨Kd.S_ext hb h.1, h.2⟩)
theorem Kd.F_base {b' : Nat} (h : d.F e w b v xs) (hb : b' ≤ b) : d.F e w b' v xs := h.imp (fun h => Kd.O_base h hb) id
theorem Kd.F_nil (d : Kd α) (e : Nat) (w : World) (b : Nat) : d.F e w b (.slice none 0 0) [] := .inl (Kd.O_nil d e w b)
theorem wp_app_F {P : Program} {t : TypeId} {w : World} {d : Kd α} {e : TypeId} {xs : List α} {v : Value} (I : AppI P t e d) {ops : Array Oper} {rest : List Oper} {o : Oper} {a : Act} {Q : Exit → Act → World → Prop} (hgd : o.guard = none) {s x : Operand}
    (ho : o.op = .call { callee := .builtin .append, args := #[s, x], argTypes := #[t, t] })
    (hf : d.F e w b v xs) (hs : a.eval s = v) {xv : Value} {ys : List α} (hy : d.S e w xv ys) (hx : a.eval x = xv) (hne : ys ≠ [])
    (hlen : xs.length + ys.length ≤ 1000000000) (hb : b ≤ w.heap.size)
    (h : ∀ v' w', d.O e w' b v' (xs ++ ys) → Wrote b e w w' → wpList P ops Q rest (a.put o.dst v') w') : wpList P ops Q (o :: rest) a w := by
  rcases hf with hf | ⟨hS, A, rfl⟩
  · exact wp_app I hgd ho hf hs hy hx hlen hb (fun v' w' hg => h v' w' hg.own (.grew hg hf hb))
  · cases A with
    | none =>
      obtain ⟨A', c', ev, _, _, hC⟩ := hS
      injection ev with e1 _ _
      subst e1
      obtain rfl : xs = [] := by
        cases xs with
        | nil => rfl
        | cons y ys => obtain ⟨_, _, _, _, ea, _⟩ := hC 0 y rfl; cases ea
      have hf : d.O e w b (.slice none 0 0) ([] : List α) := Kd.O_nil _ _ _ _
      exact wp_app I hgd ho hf hs hy hx hlen hb (fun v' w' hg => h v' w' hg.own (.grew hg hf hb))
    | some ad =>
      obtain ⟨z, bytes, hi, hz, hby⟩ := I.info
      obtain ⟨i, hi, hz1, hs1, hb1⟩ := info_parts hi
      obtain ⟨A', c', ev, _, _, hC⟩ := hS
      injection ev with e1 _ _
      subst e1
      obtain ⟨Y, cy, rfl, hy1, hy2, hCY⟩ := hy
      cases Y with
      | none =>
        exfalso
        cases ys with
        | nil => exact hne rfl
        | cons y ys => obtain ⟨_, _, _, _, ea, _⟩ := hCY 0 y rfl; cases ea
      | some ay =>
        obtain ⟨olds, o1, o2, o3, o4⟩ := Kd.C_cells w hC
        obtain ⟨news, n1, n2, n3, n4⟩ := Kd.C_cells w hCY
        have hpos : 0 < ys.length := List.length_pos_iff.2 hne
        obtain ⟨v', w', hrun, hown, hgr⟩ := run_append_arg_grows (P := P) w t o.type e i z d.sz bytes I.und hi hz1 hs1 hb1 hz I.pos ad xs.length xs.length olds o1 o2 ay ys.length cy news n1 n2 (by omega) (by unfold maxLen; omega) (Nat.le_trans (Nat.mul_le_mul hlen hby) (by decide))
        have hB : Below w.heap.size w w' := ⟨hgr.os, hgr.tape, hgr.output, hgr.size, fun k hk => hgr.block k hk (by simp)⟩
        refine wpList_plain hgd fun K hK => ?_
        unfold Oper.wp execOp
        simp only [ho, resolve, invoke, builtin, Sem.run_bind, Sem.run_pure, Result.andThen_ok, List.map_toArray, List.map_cons, List.map_nil, hs, hx, hrun]
        refine hK _ _ (h v' w' (Kd.O_base ⟨olds ++ news, by rw [List.length_append]; exact hown, fun i x hx => d.mov (Keep.of_below hB) (Reps.snoc o1 o4 n4 i x hx)⟩ hb) (.of_below hb hB))
end
theorem wp_region_class {P : Program} {C : World → Prop} {id : Nat} {Q : Exit → Act → World → Prop} {a : Act} {w : World} {l : List Oper} (hm : P.follows .mixedOrders = true) (hB : Region.lexB .any l.toArray = true) (hC : C w.drew)
    (h : wpQuiet P l.toArray C (fun a' => ∀ w', C w' → Q .normal a' w') l a) : (Code.region id l.toArray true).wp P Q a w := wp_region_quiet (C := C) hm hB hC (by simpa using h)
theorem quiet_load {P : Program} {C : World → Prop} {K : Act → Prop} {a : Act} {o : Oper} {t : TypeId} {x : Operand} {ad : Addr} {v : Value} (ho : o.op = .load t x) (hx : a.eval x = .pointer (some ad))
    (h1 : ∀ W, C W → (Instr.loadAt t (.pointer (some ad))).run P W = .ok v W) (hk : K (a.put o.dst v)) : o.quiet P a C K :=
  ⟨v, fun W hW => by
    unfold Oper.quietAt execOp
    simp only [ho, hx, Sem.run_bind, Sem.run_pure, h1 W hW, Result.andThen_ok]
    exact ⟨rfl, rfl⟩, hk⟩
theorem quiet_cell {P : Program} {C : World → Prop} {K : Act → Prop} {a : Act} {o : Oper} {t : TypeId} {x : Operand} {ad : Addr} {v : Value} (ho : o.op = .load t x) (hx : a.eval x = .pointer (some ad))
    (h1 : ∀ W v, W.cell? ad = some v → (Instr.loadAt t (.pointer (some ad))).run P W = .ok v W) (h2 : ∀ W, C W → W.cell? ad = some v) (hk : K (a.put o.dst v)) : o.quiet P a C K := quiet_load ho hx (fun W hW => h1 W v (h2 W hW)) hk
theorem Kd.O_put {α : Type} {d : Kd α} {e base : Nat} {w : World} {v : Value} {xs : List α} (h : d.O e w base v xs) (hE : ∀ q ∈ d.E, q ≠ e) {i : Nat} {x : α} (hi : xs[i]? = some x) :
    ∃ ad cap, v = .slice (some ad) xs.length cap ∧ base ≤ ad.block ∧ (∀ j, j < d.sz → w.frozen? ⟨(ad.add (i * d.sz)).block, (ad.add (i * d.sz)).off + j, none⟩ = false) ∧
      ∀ j, j < d.sz → ∀ u x', u.oneCell' = true → (∀ cs, d.K w x cs → d.K w x' (cs.set j u)) → d.O e (w.setCell ⟨(ad.add (i * d.sz)).block, (ad.add (i * d.sz)).off + j, none⟩ u) base v (xs.set i x') ∧ KeepBut e w (w.setCell ⟨(ad.add (i * d.sz)).block, (ad.add (i * d.sz)).off + j, none⟩ u) := by
  obtain ⟨cs, ⟨h0, h1⟩, h2⟩ := h
  have hil := (List.getElem?_eq_some_iff.1 hi).1
  rcases h1 with ⟨_, hn⟩ | ⟨g, cap, cur, rfl, r1, r2, r3, r4, r5, r6⟩
  · omega
  · have ea : ∀ j, (⟨((⟨g, 0, none⟩ : Addr).add (i * d.sz)).block, ((⟨g, 0, none⟩ : Addr).add (i * d.sz)).off + j, none⟩ : Addr) = ⟨g, i * d.sz + j, none⟩ := fun j => by unfold Addr.add; split <;> simp_all
    refine ⟨⟨g, 0, none⟩, cap, rfl, r1, fun j _ => by rw [ea]; exact frozen_of_row w g _ cur e r2, fun j hj u x' hu hK => ?_⟩
    rw [ea]
    have hblk := heap_setCell_same w g (i * d.sz + j) cur e u r2
    have hkb : KeepBut e w (w.setCell ⟨g, i * d.sz + j, none⟩ u) := fun k c q f hk hq => by
      refine heap_setCell_other w _ k u (fun he => ?_)
      rw [show k = g from he, r2] at hk
      injection hk with hk
      injection hk with _ ht
      exact hq ht.symm
    have hlt : i * d.sz + j < cs.length := by
      rw [h0]
      have : i * d.sz + d.sz ≤ xs.length * d.sz := by rw [← Nat.succ_mul]; exact Nat.mul_le_mul_right _ hil
      omega
    refine ⟨⟨cs.set (i * d.sz + j) u, ⟨by rw [List.length_set, List.length_set]; exact h0, .inr ⟨g, cap, cur.setIfInBounds (i * d.sz + j) u, by rw [List.length_set], r1, hblk, by rw [List.length_set]; exact r3, r4, by rw [Array.size_setIfInBounds]; exact r5, ?_⟩⟩, fun k y hy => ?_⟩, hkb⟩
    · rw [List.length_set, Array.toList_setIfInBounds, ← r6]
      rw [List.take_set]
    · by_cases hki : k = i
      · subst hki
        rw [List.getElem?_set_self hil] at hy
        obtain rfl := Option.some.inj hy
        have hseg : (((cs.set (k * d.sz + j) u).drop (k * d.sz)).take d.sz) = ((cs.drop (k * d.sz)).take d.sz).set j u := by
          rw [List.drop_set, if_neg (by omega), Nat.add_sub_cancel_left, List.take_set]
        rw [hseg]
        exact d.mov (hkb.keep hE) (hK _ (h2 k x hi))
      · rw [List.getElem?_set_ne (Ne.symm hki)] at hy
        have hseg : (((cs.set (i * d.sz + j) u).drop (k * d.sz)).take d.sz) = (cs.drop (k * d.sz)).take d.sz := by
          rcases Nat.lt_or_ge k i with hlt' | hge
          · have : k * d.sz + d.sz ≤ i * d.sz := by rw [← Nat.succ_mul]; exact Nat.mul_le_mul_right _ hlt'
            rw [List.drop_set, if_neg (by omega), List.take_set]
            rw [List.set_eq_of_length_le]
            rw [List.length_take]; omega
          · have : i * d.sz + d.sz ≤ k * d.sz := by rw [← Nat.succ_mul]; exact Nat.mul_le_mul_right _ (by omega)
            rw [List.drop_set, if_pos (by omega)]
        rw [hseg]
        exact d.mov (hkb.keep hE) (h2 k y hy)
theorem KeepBut.below_put {b e : Nat} {w : World} {a : Addr} {u : Value} (h : KeepBut e w (w.setCell a u)) (ha : b ≤ a.block) (hb : b ≤ w.heap.size) : Wrote b e w (w.setCell a u) := ⟨(Below.refl _ _).setCell ha _, h⟩
end Go.Proofs.YtjglbadkbhopoaaGreatDoor
namespace Go.Proofs.YtjglbadkbhopoaaGreatDoor
open Go.RowKit
set_option maxRecDepth 100000
set_option maxHeartbeats 2000000
set_option linter.unusedVariables false
theorem AppI.bindings : AppI Tryz.prog 65 107 Kd.bind := ⟨Tryz.underlying65, AppI.bind.info, AppI.bind.pos, AppI.bind.sep⟩
theorem cloneS_c (t : Trm) (A : Option Addr) (c : Nat) (w : World) (h : Kd.cell.S 47 w (.slice A t.length c) t) (hl : t.length ≤ 1000000000) :
    Calls Tryz.prog 46 #[.slice A t.length c] w fun e w' => ∃ v, e = .returned v ∧ Kd.cell.O 47 w' w.heap.size v t ∧ Below w.heap.size w w' := by
  obtain ⟨A', c', ev, _, _, hC⟩ := h
  injection ev with e1 e2 e3
  subst e1
  exact clone_c t A c w hC hl
def unseen (V S : List Int) : Nat := (V.filter (fun x => decide (x ∉ S))).length
theorem unseen_lt {V S : List Int} {x : Int} (hx : x ∈ V) (hS : x ∉ S) : unseen V (S ++ [x]) < unseen V S := by
  refine filter_lt (fun y hy => ?_) (v := x) (decide_eq_true hS) (by simp) hx
  have := of_decide_eq_true hy
  exact decide_eq_true (fun h => this (List.mem_append_left _ h))
theorem unseen_le {V S S' : List Int} (h : ∀ x ∈ S, x ∈ S') : unseen V S' ≤ unseen V S := by
  refine filter_le (fun y hy => ?_) V
  have := of_decide_eq_true hy
  exact decide_eq_true (fun h' => this (h y h'))
structure DInv (V : List Int) (s : Binds) (v : Int) (S S' : List Int) : Prop where
  sub : ∀ x ∈ S, x ∈ S'
  nod : S'.Nodup
  inV : ∀ x ∈ S', x ∈ V
  not : v ∉ S'
  clo : ∀ x ∈ S', x ∉ S → ∀ u, getB s x = some u → ∀ y ∈ vars u, y ∈ S'
theorem DInv.none {V : List Int} {s : Binds} {v : Int} {S S' : List Int} (h : DInv V s v S S') {x : Int} (hx : x ∉ S') (hv : x ≠ v) (hV : x ∈ V) (hg : getB s x = none) : DInv V s v S (S' ++ [x]) where
  sub := fun y hy => List.mem_append_left _ (h.sub y hy)
  nod := by
    rw [List.nodup_append]
    exact ⟨h.nod, by simp, fun a ha b hb => by simp at hb; subst hb; rintro rfl; exact hx ha⟩
  inV := fun y hy => by
    rcases List.mem_append.1 hy with hy | hy
    · exact h.inV y hy
    · simp at hy; subst hy; exact hV
  not := fun hm => by
    rcases List.mem_append.1 hm with hm | hm
    · exact h.not hm
    · simp at hm; exact hv hm.symm
  clo := fun y hy hS u hu z hz => by
    rcases List.mem_append.1 hy with hy | hy
    · exact List.mem_append_left _ (h.clo y hy hS u hu z hz)
    · simp at hy; subst hy; rw [hg] at hu; cases hu
theorem DInv.start {V : List Int} {s : Binds} {v : Int} {S : List Int} (h1 : S.Nodup) (h2 : ∀ x ∈ S, x ∈ V) (h3 : v ∉ S) : DInv V s v S S := ⟨fun _ h => h, h1, h2, h3, fun x h h' => absurd h h'⟩
theorem DInv.some {V : List Int} {s : Binds} {v : Int} {S S' S'' : List Int} (h : DInv V s v S S') {x : Int} {u : Trm} (hg : getB s x = some u) (k : DInv V s v (S' ++ [x]) S'') (hu : ∀ y ∈ vars u, y ∈ S'') : DInv V s v S S'' where
  sub := fun y hy => k.sub y (List.mem_append_left _ (h.sub y hy))
  nod := k.nod
  inV := k.inV
  not := k.not
  clo := fun y hy hS u' hu' z hz => by
    by_cases h1 : y ∈ S'
    · exact k.sub z (List.mem_append_left _ (h.clo y h1 hS u' hu' z hz))
    · by_cases h2 : y = x
      · subst h2; rw [hg] at hu'; obtain rfl := Option.some.inj hu'; exact hu z hz
      · exact k.clo y hy (fun h => by rcases List.mem_append.1 h with h | h; exact h1 h; simp at h; exact h2 h) u' hu' z hz
theorem DInv.done {V : List Int} {s : Binds} {v : Int} {S' : List Int} {t : Trm} (h : DInv V s v [] S') (ht : ∀ x ∈ vars t, x ∈ S') : ¬ Rch s t v := by
  intro hr
  have : ∀ {t : Trm} {x : Int}, Rch s t x → (∀ y ∈ vars t, y ∈ S') → x ∈ S' := by
    intro t x hr
    induction hr with
    | here hx => exact fun hv => hv _ hx
    | on hx hg _ ih => exact fun hv => ih (h.clo _ (hv _ hx) (by simp) _ hg)
  exact h.not (this hr ht)
def HoldsPost (V : List Int) (s : Binds) (t : Trm) (v : Int) (b : Nat) (w : World) (S : List Int) (e : Ending) (w' : World) : Prop :=
  w.grownBy w' (some b) ∧ ∃ r : Bool, e = .returned (.bool r) ∧ (r = true → Rch s t v) ∧ (r = false → ∃ S', Seen w' b S' ∧ DInv V s v S S' ∧ ∀ x ∈ vars t, x ∈ S')
theorem HoldsPost.yes {V : List Int} {s : Binds} {t : Trm} {v : Int} {b : Nat} {w : World} {S : List Int} {w' : World} (hg : w.grownBy w' (some b)) (h : Rch s t v) : HoldsPost V s t v b w S (.returned (.bool true)) w' := ⟨hg, true, rfl, fun _ => h, fun h => by cases h⟩
theorem HoldsPost.no {V : List Int} {s : Binds} {t : Trm} {v : Int} {b : Nat} {w : World} {S S' : List Int} {w' : World} (hg : w.grownBy w' (some b)) (h1 : Seen w' b S') (h2 : DInv V s v S S') (h3 : ∀ x ∈ vars t, x ∈ S') : HoldsPost V s t v b w S (.returned (.bool false)) w' := ⟨hg, false, rfl, fun h => (by cases h), fun _ => ⟨S', h1, h2, h3⟩⟩
theorem holds_c (V : List Int) (s : Binds) (v : Int) (b : Nat) (A : Option Addr) (c : Nat) (hl : s.length ≤ 1000000000) (hnd : (s.map (·.1)).Nodup) (hV : VarsIn s V) (hVl : V.length ≤ 4000000) (hVr : ∀ x ∈ V, 0 ≤ x ∧ x ≤ 1000000000) (hsl : ∀ v u, getB s v = some u → u.length ≤ 1000000000 ∧ u ≠ []) (N : Nat) :
    ∀ (t : Trm) (tv : Value) (w : World) (S : List Int), Kd.bind.C 107 w A s → Kd.cell.S 47 w tv t → t.length ≤ 1000000000 → (∀ x ∈ vars t, x ∈ V) → Seen w b S → S.Nodup → (∀ x ∈ S, x ∈ V) → v ∉ S → unseen V S < N →
    Calls Tryz.prog 105 #[.slice A s.length c, tv, .int .i64 v, .map (some b)] w (HoldsPost V s t v b w S) := by
  induction N with
  | zero => intro t tv w S _ _ _ _ _ _ _ _ h; omega
  | succ N ih =>
    intro t tv w S h ht htl htV hS hSn hSV hv hN
    obtain ⟨B, cB, rfl, b1, b2, hC⟩ := ht
    have IH := Lib.hid ih
    have HF := Lib.hid (imFree_c t B cB w hC htl)
    have H := Lib.hid h
    have HTV := Lib.hid htV
    have HSn := Lib.hid hS
    have HD0 := Lib.hid (DInv.start (s := s) hSn hSV hv)
    have HVi := Lib.hid hV
    have HVr := Lib.hid hVr
    have HSl := Lib.hid hsl
    have HND := Lib.hid hnd
    have HN := Lib.hid hN
    have hq := nil_eq
    clear ih hC h htV hS hSn hSV hv hV hVr hsl hnd hN
    go_enter Tryz.func105, Tryz.ntmps105
    go_wp2_with (go_at_call 45; (with_reducible refine HF.out.mono ?_); rintro e w1 ⟨fv, rfl, hO, hb⟩; have HO := Lib.hid hO; have HB := Lib.hid hb; obtain ⟨FB, cF, rfl, f1, f2, -⟩ := Kd.O_read hO; clear hO hb)
    obtain ⟨F, hF⟩ : ∃ F, free t = F := ⟨_, rfl⟩
    have HFv := Lib.hid (show ∀ x, x ∈ F ↔ x ∈ vars t from fun x => by rw [← hF]; exact mem_free)
    have hFl : F.length ≤ 1000000000 := by rw [← hF]; exact Nat.le_trans (free_len t) htl
    rw [hF] at HO f1 ⊢
    clear hF HF
    have HS1 := Lib.hid (HSn.out.ext HB.out)
    go_loopw [15] (fun v15 wr => ∃ (k : Nat) (T : List Int), v15 = .int .i64 k ∧ k ≤ F.length ∧ Hid (Seen wr b T) ∧ Hid (DInv V s v S T) ∧ Hid (∀ x ∈ F.take k, x ∈ T) ∧ Hid (w1.grownBy wr (some b))) (fun v15 _ => F.length - (intOf v15).toNat)
    case atStart => exact ⟨0, S, rfl, Nat.zero_le _, HS1, HD0, Lib.hid (fun x hx => by simp at hx), Lib.hid (grown_of_below (Below.refl _ _) _)⟩
    case round =>
      obtain ⟨k, T, rfl, hk, HT, HD, HK, HG⟩ := hrel
      by_cases hlt : k < F.length
      · obtain ⟨x, hx⟩ : ∃ x, F[k]? = some x := ⟨_, List.getElem?_eq_getElem hlt⟩
        have HOr := Lib.hid (grown_O HS1.out HG.out HO.out)
        obtain ⟨A', c', ev, -, -, hCF⟩ := Kd.O_read HOr.out
        injection ev with e1 e2 e3
        obtain ⟨ad, had, a1⟩ := int_at hCF hx
        have had2 := e1.trans had
        clear e1 e2 e3 had hCF
        subst had2
        have hxt : x ∈ vars t := (HFv.out x).1 (List.mem_of_getElem? hx)
        have hxV := HTV.out x hxt
        have hxr := HVr.out x hxV
        have Hx1 := Lib.hid hxt
        have Hx2 := Lib.hid hxV
        have hTl : T.length ≤ 4000000 := Nat.le_trans (sub_len HD.out.nod HD.out.inV) hVl
        have HKn := Lib.hid (show ∀ T' : List Int, (∀ y ∈ T, y ∈ T') → x ∈ T' → ∀ y ∈ F.take (k + 1), y ∈ T' from fun T' h1 h2 y hy => by
          rw [List.take_succ_eq_append_getElem hlt, (List.getElem?_eq_some_iff.1 hx).2] at hy
          rcases List.mem_append.1 hy with hy | hy
          · exact h1 y (HK.out y hy)
          · simp at hy; rw [hy]; exact h2)
        clear hxt hxV hx
        by_cases hxv : x = v
        · have e1 : (x == v) = true := beq_iff_eq.2 hxv
          have HR := Lib.hid (show Rch s t v by rw [← hxv]; exact .here Hx1.out)
          clear hxv
          go_wp2
          go_ret
          exact .yes ((grown_of_below HB.out _).trans HG.out) HR.out
        · have e1 : (x == v) = false := beq_eq_false_iff_ne.2 hxv
          by_cases hxT : x ∈ T
          · have HK2 := Lib.hid (HKn.out T (fun _ h => h) hxT)
            have HdT := Lib.hid (decide_eq_true hxT)
            clear hxT hxv
            go_wp2_with (at_lookup; refine wp_seen_look rfl rfl rfl HT.out rfl rfl (by omega) (by omega) ?_; rw [HdT.out])
            exact ⟨⟨k + 1, T, by go_num, by omega, HT, HD, HK2, HG⟩, by simp [intOf]; omega⟩
          · have HdT := Lib.hid (decide_eq_false hxT)
            have HxT := Lib.hid hxT
            have Hxv := Lib.hid hxv
            clear hxT hxv
            cases hg : getB s x with
            | none =>
              have HGt := Lib.hid (fun W hb => getI_none s A c x W (Kd.C_ext (w' := W) hb H.out) hl HND.out hg)
              have HD2 := Lib.hid (HD.out.none HxT.out Hxv.out Hx2.out hg)
              have HGc := Lib.hid (fun W (hc : Kd.bind.C 107 W A s) => getI_none s A c x W hc hl HND.out hg)
              clear hg HGt
              go_wp2_with (first | (at_lookup; refine wp_seen_look rfl rfl rfl HT.out rfl rfl (by omega) (by omega) ?_; rw [HdT.out]) | (at_mapUpdate; refine wp_seen_put rfl rfl rfl HT.out rfl rfl rfl (by omega) (by omega) (by omega) ?_; intro w2 hs2 hg2; have HS2 := Lib.hid hs2; have HG2 := Lib.hid hg2; clear hs2 hg2) | (go_at_call 104; (with_reducible refine (HGc.out _ (grown_C HT.out HG2.out (grown_C HS1.out HG.out (Kd.C_ext HB.out H.out)))).mono ?_); rintro e w3 ⟨rfl, hb3⟩; have HB3 := Lib.hid hb3; clear hb3))
              exact ⟨⟨k + 1, T ++ [x], by go_num, by omega, Lib.hid (HS2.out.ext HB3.out), HD2, Lib.hid (HKn.out _ (fun y h => List.mem_append_left _ h) (by simp)), Lib.hid ((HG.out.trans HG2.out).trans (grown_of_below HB3.out _))⟩, by simp [intOf]; omega⟩
            | some u =>
              have HGc := Lib.hid (fun W (hc : Kd.bind.C 107 W A s) => getI_some s A c x u W hc hl HND.out hg)
              have hul := (HSl.out x u hg).1
              obtain ⟨uc, ur, rfl⟩ : ∃ uc ur, u = uc :: ur := by
                cases u with
                | nil => exact absurd rfl (HSl.out x _ hg).2
                | cons uc ur => exact ⟨uc, ur, rfl⟩
              have HIH := Lib.hid (fun tv W hc hs hS => IH.out (uc :: ur) tv W (T ++ [x]) hc hs hul (HVi.out _ _ hg) hS (by
                rw [List.nodup_append]
                exact ⟨HD.out.nod, by simp, fun a ha b' hb => by simp at hb; subst hb; rintro rfl; exact HxT.out ha⟩) (fun y hy => by
                rcases List.mem_append.1 hy with hy | hy
                · exact HD.out.inV y hy
                · simp at hy; subst hy; exact Hx2.out) (fun hm => by
                rcases List.mem_append.1 hm with hm | hm
                · exact HD.out.not hm
                · simp at hm; exact Hxv.out hm.symm) (by
                have h1 := unseen_lt Hx2.out HxT.out
                have h2 := unseen_le (V := V) HD.out.sub
                have h3 := HN.out
                omega))
              have HRy := Lib.hid (show Rch s (uc :: ur) v → Rch s t v from fun hr => .on Hx1.out hg hr)
              have HDs := Lib.hid (fun S'' => HD.out.some hg (S'' := S''))
              clear hg hul
              go_wp2_with (first | (at_lookup; refine wp_seen_look rfl rfl rfl HT.out rfl rfl (by omega) (by omega) ?_; rw [HdT.out]) | (at_mapUpdate; refine wp_seen_put rfl rfl rfl HT.out rfl rfl rfl (by omega) (by omega) (by omega) ?_; intro w2 hs2 hg2; have HS2 := Lib.hid hs2; have HG2 := Lib.hid hg2; clear hs2 hg2)
                                 | (go_at_call 104; (with_reducible refine (HGc.out _ (grown_C HT.out HG2.out (grown_C HS1.out HG.out (Kd.C_ext HB.out H.out)))).mono ?_); rintro e w3 ⟨rv, rfl, hs3, hb3⟩; have HB3 := Lib.hid hb3; have HS3 := Lib.hid hs3; obtain ⟨ua, nu, ku, rfl, hu1, hu2, hu3, hu4⟩ := S_open hs3; clear hb3 hs3)
                                 | (go_at_call 105; (with_reducible refine (HIH.out _ _ (Kd.C_ext HB3.out (grown_C HT.out HG2.out (grown_C HS1.out HG.out (Kd.C_ext HB.out H.out)))) HS3.out (HS2.out.ext HB3.out)).mono ?_); rintro e w4 ⟨hg4, r, rfl, hy4, hn4⟩; have HG4 := Lib.hid hg4; have HY4 := Lib.hid hy4; have HN4 := Lib.hid hn4; clear hg4 hy4 hn4))
              · have hr : r = true := by assumption
                go_ret
                exact .yes ((grown_of_below HB.out _).trans (((HG.out.trans HG2.out).trans (grown_of_below HB3.out _)).trans HG4.out)) (HRy.out (HY4.out hr))
              · have hr : r = false := by assumption
                obtain ⟨T2, k1, k2, k3⟩ := HN4.out hr
                exact ⟨⟨k + 1, T2, by go_num, by omega, Lib.hid k1, Lib.hid (HDs.out _ k2 k3), Lib.hid (HKn.out _ (fun y h => k2.sub y (List.mem_append_left _ h)) (k2.sub x (by simp))), Lib.hid (((HG.out.trans HG2.out).trans (grown_of_below HB3.out _)).trans HG4.out)⟩, by simp [intOf]; omega⟩
      · have HX := Lib.hid (show ∀ x ∈ vars t, x ∈ T from fun x hx => HK.out x (by rw [List.take_of_length_le (by omega)]; exact (HFv.out x).2 hx))
        go_wp2
        go_ret
        exact .no ((grown_of_below HB.out _).trans HG.out) HT.out HD.out HX.out
theorem grown_below {w w' : World} {b : Nat} (hg : w.grownBy w' (some b)) {B : Nat} (hB : B ≤ b) (hw : B ≤ w.heap.size) : Below B w w' := ⟨hg.os, hg.tape, hg.output, hg.size, fun i hi => hg.block i (by omega) (fun e => by have := Option.some.inj e; omega)⟩
theorem bindI_no (V : List Int) (s : Binds) (v : Int) (A : Option Addr) (c : Nat) (t : Trm) (tv : Value) (w : World) (hl : s.length ≤ 1000000000) (hnd : (s.map (·.1)).Nodup) (hV : VarsIn s V) (hVl : V.length ≤ 4000000) (hVr : ∀ x ∈ V, 0 ≤ x ∧ x ≤ 1000000000) (hsl : ∀ v u, getB s v = some u → u.length ≤ 1000000000 ∧ u ≠ [])
    (h : Kd.bind.C 107 w A s) (ht : Kd.cell.S 47 w tv t) (htl : t.length ≤ 4000000) (htV : ∀ x ∈ vars t, x ∈ V) (hR : Rch s t v) :
    Calls Tryz.prog 76 #[.slice A s.length c, .int .i64 v, tv] w fun e w' => e = .returned (.tuple #[.slice none 0 0, .bool false]) ∧ Below w.heap.size w w' := by
  have HH := Lib.hid (fun W hb hs => holds_c V s v w.heap.size A c hl hnd hV hVl hVr hsl (unseen V [] + 1) t tv W [] (Kd.C_ext (w' := W) hb h) (Kd.S_ext hb ht) (by omega) htV hs (by simp) (fun x hx => by simp at hx) (by simp) (by omega))
  have HR := Lib.hid hR
  have hmm := @run_makeMap Tryz.prog
  clear h ht htV hV hVr hsl hnd hR
  go_enter Tryz.func76, Tryz.ntmps76
  go_wp2_with (go_at_call 105; (with_reducible refine (HH.out _ ((Below.refl _ w).alloc (Nat.le_refl _) _) (Seen.made w)).mono ?_); rintro e w1 ⟨hg, r, rfl, hy, hn⟩; have HG := Lib.hid hg; have HN := Lib.hid hn; clear hg hy hn)
  · go_ret2
    exact ⟨rfl, ((Below.refl _ w).alloc (Nat.le_refl _) _).trans (grown_below HG.out (Nat.le_refl _) (by simp))⟩
  · have hr : r = false := by assumption
    obtain ⟨S', k1, k2, k3⟩ := HN.out hr
    exact absurd HR.out (k2.done k3)
theorem bindI_yes (V : List Int) (b : Nat) (s : Binds) (v : Int) (sv : Value) (t : Trm) (tv : Value) (w : World) (hl : s.length ≤ 4000000) (hnd : (s.map (·.1)).Nodup) (hV : VarsIn s V) (hVl : V.length ≤ 4000000) (hVr : ∀ x ∈ V, 0 ≤ x ∧ x ≤ 1000000000) (hsl : ∀ v u, getB s v = some u → u.length ≤ 1000000000 ∧ u ≠ [])
    (hs : Kd.bind.F 107 w b sv s) (ht : Kd.cell.S 47 w tv t) (htl : t.length ≤ 4000000) (htV : ∀ x ∈ vars t, x ∈ V) (hb : b ≤ w.heap.size) (hR : ¬ Rch s t v) :
    Calls Tryz.prog 76 #[sv, .int .i64 v, tv] w fun e w' => ∃ rv, e = .returned (.tuple #[rv, .bool true]) ∧ Kd.bind.O 107 w' b rv (s ++ [(v, t)]) ∧ Wrote b 107 w w' := by
  obtain ⟨A, c, rfl, c1, c2, h⟩ := Kd.F_read hs
  have HH := Lib.hid (fun W hb hs => holds_c V s v w.heap.size A c (by omega) hnd hV hVl hVr hsl (unseen V [] + 1) t tv W [] (Kd.C_ext (w' := W) hb h) (Kd.S_ext hb ht) (by omega) htV hs (by simp) (fun x hx => by simp at hx) (by simp) (by omega))
  have HR := Lib.hid hR
  have HS := Lib.hid hs
  have Hb := Lib.hid hb
  have HT := Lib.hid ht
  have hmm := @run_makeMap Tryz.prog
  clear h htV hV hVr hsl hnd hR hs hb
  obtain ⟨B, cB, rfl, b1, b2, -⟩ := ht
  have HCl := Lib.hid (fun W (hs : Kd.cell.S 47 W (.slice B t.length cB) t) => cloneS_c t B cB W hs (by omega))
  go_enter Tryz.func76, Tryz.ntmps76
  go_wp2_with (first | (go_at_call 105; (with_reducible refine (HH.out _ ((Below.refl _ w).alloc (Nat.le_refl _) _) (Seen.made w)).mono ?_); rintro e w1 ⟨hg, r, rfl, hy, hn⟩; have HB1 := Lib.hid (((Below.refl _ w).alloc (Nat.le_refl _) _).trans (grown_below hg (Nat.le_refl _) (by simp))); have HY := Lib.hid hy; clear hg hy hn)
                     | (go_at_call 46; (with_reducible refine (HCl.out _ (Kd.S_ext HB1.out HT.out)).mono ?_); rintro e w2 ⟨cv, rfl, ho, hb2⟩; have HB2 := Lib.hid (bel_trans HB1.out hb2); have HO2 := Lib.hid (Kd.F_ext (bel_trans HB1.out hb2) HS.out); obtain ⟨VB, cV, rfl, q1, q2, hVC⟩ := Kd.O_read ho; have HVC := Lib.hid hVC; clear ho hb2 hVC)
                     | (at_builtin; refine wp_app_F AppI.bindings rfl rfl (Kd.F_ext (bel_alloc (Below.refl _ _) _) HO2.out) rfl (Kd.S_lit Kd.bind _ (x := (v, t)) (cs := [.int .i64 v, .slice VB t.length cV]) ⟨[.int .i64 v], [.slice VB t.length cV], rfl, rfl, _, rfl, VB, cV, rfl, q1, q2, HVC.out⟩ rfl) rfl (by simp) ?c3 ?c4 ?_; (case c3 => simp; omega); (case c4 => simp; have h2 := HB2.out.size; have h3 := Hb.out; omega); intro v2 w3 ho3 hg3; have HG3 := Lib.hid hg3; have HO3 := Lib.hid ho3; clear hg3 ho3))
  · have hr : r = true := by assumption
    exact absurd (HY.out hr) HR.out
  · go_ret2
    refine ⟨_, rfl, HO3.out, ?_⟩
    have h2 := HB2.out.size
    have h3 := Hb.out
    exact (Wrote.of_below h3 (bel_alloc HB2.out _)).trans HG3.out
end Go.Proofs.YtjglbadkbhopoaaGreatDoor
namespace Go.Proofs.YtjglbadkbhopoaaGreatDoor
open Go.RowKit
set_option maxRecDepth 100000
set_option maxHeartbeats 4000000
set_option linter.unusedVariables false
def UniPostI (b : Nat) (w : World) (r : Option Binds) (e : Ending) (w' : World) : Prop :=
  ∃ rv, (match r with
    | none => e = .returned (.tuple #[rv, .bool false])
    | some s' => e = .returned (.tuple #[rv, .bool true]) ∧ Kd.bind.F 107 w' b rv s') ∧ Wrote b 107 w w'
theorem UniPostI.no {b : Nat} {w w' : World} {rv : Value} {r : Option Binds} (hr : r = none) (h : Wrote b 107 w w') : UniPostI b w r (.returned (.tuple #[rv, .bool false])) w' := by subst hr; exact ⟨rv, rfl, h⟩
theorem UniPostI.yes {b : Nat} {w w' : World} {rv : Value} {r : Option Binds} {s' : Binds} (hr : r = some s') (ho : Kd.bind.F 107 w' b rv s') (h : Wrote b 107 w w') : UniPostI b w r (.returned (.tuple #[rv, .bool true])) w' := by subst hr; exact ⟨rv, ⟨rfl, ho⟩, h⟩
theorem unifyI_c (V : List Int) (b : Nat) (hVl : V.length ≤ 4000000) (hVr : ∀ x ∈ V, 0 ≤ x ∧ x ≤ 1000000000) (N : Nat) : ∀ (n : Nat) (s : Binds) (sv av bv : Value) (t1 t2 : Trm) (r : Option Binds) (w : World), n < N → U n s [(t1, t2)] = some r → Binv V s → Pok V (t1, t2) →
    Kd.bind.F 107 w b sv s → Kd.cell.S 47 w av t1 → Kd.cell.S 47 w bv t2 → b ≤ w.heap.size →
    Calls Tryz.prog 40 #[sv, av, bv] w (UniPostI b w r) := by
  induction N with
  | zero => intro n _ _ _ _ _ _ _ _ h; omega
  | succ N ih =>
    intro n s sv av bv t1 t2 r w hn hU hB hP hs h1 h2 hb
    obtain ⟨k, rfl⟩ : ∃ k, n = k + 1 := by
      cases n with
      | zero => simp [U] at hU
      | succ k => exact ⟨k, rfl⟩
    have hI : Uinv V s [(t1, t2)] := .start hB hP.1 hP.2.1 hP.2.2.1 hP.2.2.2
    obtain ⟨x, xs, y, ys, wx, wy, okx, oky, vx, vy, fx, fy, hst⟩ := U_step hU hI
    have IH := Lib.hid ih
    have HST := Lib.hid hst
    have HBi := Lib.hid hB
    have hslen := Nat.le_trans hB.len hVl
    have hne : ∀ v t, getB s v = some t → t ≠ [] := fun v t hg e => by have := hB.trm v t hg; rw [e] at this; simp [trmOk] at this
    obtain ⟨SB, sc, rfl, s1, s2, hSC⟩ := Kd.F_read hs
    have HWx := Lib.hid (walkI_c k s SB sc t1 (x :: xs) av w hSC (by omega) hB.nod h1 wx hne)
    have HWy := Lib.hid (fun W hb => walkI_c k s SB sc t2 (y :: ys) bv W (Kd.C_ext (w' := W) hb hSC) (by omega) hB.nod (Kd.S_ext hb h2) wy hne)
    have HB40 := Lib.hid (trmOk_iff.1 okx)
    have HB41 := Lib.hid (trmOk_iff.1 oky)
    have HVv := Lib.hid (And.intro vx vy)
    have HOk := Lib.hid (And.intro okx oky)
    have HS := Lib.hid hs
    have Hb := Lib.hid hb
    have HVr := Lib.hid hVr
    have Hn := Lib.hid hn
    have hsl : ∀ v u, getB s v = some u → u.length ≤ 1000000000 ∧ u ≠ [] := fun v u hg => ⟨by have := (trmOk_iff.1 (hB.trm v u hg)).2.1; omega, hne v u hg⟩
    have hxl : (x :: xs).length ≤ 40 := HB40.out.2.1
    have hyl : (y :: ys).length ≤ 40 := HB41.out.2.1
    have HBnL := Lib.hid (fun W (hs : Kd.bind.C 107 W SB s) yv hy => bindI_no V s x.n SB sc (y :: ys) yv W (by omega) hB.nod hB.vin hVl hVr hsl hs hy (by omega) vy)
    have HByL := Lib.hid (fun W hs yv hy hb => bindI_yes V b s x.n (.slice SB s.length sc) (y :: ys) yv W hslen hB.nod hB.vin hVl hVr hsl hs hy (by omega) vy hb)
    have HBnR := Lib.hid (fun W (hs : Kd.bind.C 107 W SB s) xv hx => bindI_no V s y.n SB sc (x :: xs) xv W (by omega) hB.nod hB.vin hVl hVr hsl hs hx (by omega) vx)
    have HByR := Lib.hid (fun W hs xv hx hb => bindI_yes V b s y.n (.slice SB s.length sc) (x :: xs) xv W hslen hB.nod hB.vin hVl hVr hsl hs hx (by omega) vx hb)
    clear ih hst hB hP hs h1 h2 hb hI hU wx wy okx oky vx vy fx fy hsl hVr hn hne
    go_enter Tryz.func40, Tryz.ntmps40
    go_upto_region 2 with (first | (go_at_call 75; (with_reducible refine HWx.out.mono ?_); rintro e w1 ⟨xv, rfl, hX, hb⟩; obtain ⟨xa, nx, kx, rfl, hnx, hnx2, hnx3, hnx4⟩ := S_open hX; have HX := Lib.hid hX; have HB1 := Lib.hid hb; clear hX hb)
                                 | (go_at_call 75; (with_reducible refine (HWy.out _ HB1.out).mono ?_); rintro e w2 ⟨yv, rfl, hY, hb⟩; obtain ⟨ya, ny, ky, rfl, hny, hny2, hny3, hny4⟩ := S_open hY; have HY := Lib.hid hY; have HB2 := Lib.hid hb; clear hY hb))
    have HX2 := Lib.hid (Kd.S_ext HB2.out HX.out)
    obtain ⟨cx1, cx2, cx3⟩ := S_cells HX2.out
    obtain ⟨cy1, cy2, cy3⟩ := S_cells HY.out
    have HB := Lib.hid (bel_trans HB1.out HB2.out)
    have HS2 := Lib.hid (Kd.F_ext HB.out HS.out)
    have HSC2 := Lib.hid (Kd.C_ext HB.out hSC)
    have HW2 := Lib.hid (Wrote.of_below (e := 107) Hb.out HB.out)
    have hw2 := Lib.hid (Nat.le_trans Hb.out HB.out.size)
    have HwD := Lib.hid (fun n => (show b ≤ (w2.drewN n).heap.size from hw2.out))
    clear HX HB1 HWx HWy hSC
    rcases HST.out with ⟨k1, rfl, hU1, hI1⟩ | ⟨k1, hne, hR, hr⟩ | ⟨k1, hne, hR, hU1, hI1⟩ | ⟨k1, k2, hR, hr⟩ | ⟨k1, k2, hR, hU1, hI1⟩ | ⟨k1, k2, hne, hr⟩ | ⟨k1, k2, rfl, hU1, hI1⟩
    · have e1 : (x.k == 1) = true := beq_iff_eq.2 k1
      have hr := Lib.hid (U_nil hU1)
      clear k1 hU1 hI1
      go_quiet (fail)
      go_wp2
      go_ret2
      exact .yes hr.out (Kd.F_ext (bel_drewN (Below.refl _ _) _) HS2.out) (HW2.out.call Hb.out (bel_drewN (Below.refl _ _) _))
    · have e1 : (x.k == 1) = true := beq_iff_eq.2 k1
      have HRr := Lib.hid hR
      have hr := Lib.hid hr
      have hcc := cell_neb hne
      clear k1 hne hR
      rcases hcc with e2 | ⟨e2, e3⟩ | ⟨e2, e3, e4⟩
      all_goals
        go_quiet (fail)
        go_wp2_with (go_at_call 76; (with_reducible refine (HBnL.out _ (Kd.C_ext (bel_drewN (Below.refl _ _) _) HSC2.out) _ (Kd.S_ext (bel_drewN (Below.refl _ _) _) HY.out) HRr.out).mono ?_); rintro e w3 ⟨rfl, hb3⟩; have HB3 := Lib.hid hb3; clear hb3)
        go_ret2
        exact .no hr.out ((HW2.out.call Hb.out (bel_drewN (Below.refl _ _) _)).call Hb.out HB3.out)
    · have e1 : (x.k == 1) = true := beq_iff_eq.2 k1
      have HRr := Lib.hid hR
      have hr := Lib.hid (U_nil hU1)
      have hcc := cell_neb hne
      clear k1 hne hR hU1 hI1
      rcases hcc with e2 | ⟨e2, e3⟩ | ⟨e2, e3, e4⟩
      all_goals
        go_quiet (fail)
        go_wp2_with (go_at_call 76; (with_reducible refine (HByL.out _ (Kd.F_ext (bel_drewN (Below.refl _ _) _) HS2.out) _ (Kd.S_ext (bel_drewN (Below.refl _ _) _) HY.out) (HwD.out _) HRr.out).mono ?_); rintro e w3 ⟨rv, rfl, ho3, hw3⟩; have HO3 := Lib.hid ho3; have HW3 := Lib.hid hw3; clear ho3 hw3)
        go_ret2
        exact .yes hr.out (.inl HO3.out) ((HW2.out.call Hb.out (bel_drewN (Below.refl _ _) _)).trans HW3.out)
    · have e1 : (x.k == 1) = false := beq_eq_false_iff_ne.2 k1
      have e2 : (y.k == 1) = true := beq_iff_eq.2 k2
      have HRr := Lib.hid hR
      have hr := Lib.hid hr
      clear k1 k2 hR
      go_quiet (fail)
      go_wp2_with (go_at_call 76; (with_reducible refine (HBnR.out _ (Kd.C_ext (bel_drewN (Below.refl _ _) _) HSC2.out) _ (Kd.S_ext (bel_drewN (Below.refl _ _) _) HX2.out) HRr.out).mono ?_); rintro e w3 ⟨rfl, hb3⟩; have HB3 := Lib.hid hb3; clear hb3)
      go_ret2
      exact .no hr.out ((HW2.out.call Hb.out (bel_drewN (Below.refl _ _) _)).call Hb.out HB3.out)
    · have e1 : (x.k == 1) = false := beq_eq_false_iff_ne.2 k1
      have e2 : (y.k == 1) = true := beq_iff_eq.2 k2
      have HRr := Lib.hid hR
      have hr := Lib.hid (U_nil hU1)
      clear k1 k2 hR hU1 hI1
      go_quiet (fail)
      go_wp2_with (go_at_call 76; (with_reducible refine (HByR.out _ (Kd.F_ext (bel_drewN (Below.refl _ _) _) HS2.out) _ (Kd.S_ext (bel_drewN (Below.refl _ _) _) HX2.out) (HwD.out _) HRr.out).mono ?_); rintro e w3 ⟨rv, rfl, ho3, hw3⟩; have HO3 := Lib.hid ho3; have HW3 := Lib.hid hw3; clear ho3 hw3)
      go_ret2
      exact .yes hr.out (.inl HO3.out) ((HW2.out.call Hb.out (bel_drewN (Below.refl _ _) _)).trans HW3.out)
    · have e1 : (x.k == 1) = false := beq_eq_false_iff_ne.2 k1
      have e0 : (y.k == 1) = false := beq_eq_false_iff_ne.2 k2
      have hr := Lib.hid hr
      have hcc := cell_neb hne
      clear k1 k2 hne
      rcases hcc with e2 | ⟨e2, e3⟩ | ⟨e2, e3, e4⟩
      all_goals
        go_quiet (fail)
        go_upto_region 8 with (fail)
        go_quiet (fail)
        go_wp2
        go_ret2
        exact .no hr.out (HW2.out.call Hb.out (by first | exact bel_drewN (Below.refl _ _) _ | exact bel_drewN (bel_drewN (Below.refl _ _) _) _))
    · have e1 : (x.k == 1) = false := beq_eq_false_iff_ne.2 k1
      have HU1 := Lib.hid hU1
      have HPs := Lib.hid hI1.p
      clear HBnL HByL HBnR HByR hU1 hI1 k1 k2
      have HAx := Lib.hid (fun W hS => argsI_c x xs (.slice (some xa) nx kx) W hS HOk.out.1)
      have HAy := Lib.hid (fun W hS => argsI_c x ys (.slice (some ya) ny ky) W hS HOk.out.2)
      obtain ⟨aX, haX⟩ : ∃ l, argsOf (ar x).toNat xs = l := ⟨_, rfl⟩
      obtain ⟨aY, haY⟩ : ∃ l, argsOf (ar x).toNat ys = l := ⟨_, rfl⟩
      have hll := Lib.hid (show aX.length = aY.length by rw [← haX, ← haY, argsOf_len, argsOf_len])
      have hl3 : aX.length ≤ 3 := by
        have := ar_of_ok (List.all_eq_true.1 HB40.out.2.2 x List.mem_cons_self)
        rw [← haX, argsOf_len]; omega
      rw [haX] at HAx HU1 HPs
      rw [haY] at HAy HU1 HPs
      rw [List.append_nil] at HU1 HPs
      clear haX haY
      go_quiet (fail)
      go_upto_region 8 with (fail)
      go_quiet (fail)
      go_wp2_with (first | (go_at_call 63; (with_reducible refine (HAy.out _ (Kd.S_ext (bel_drewN (Below.refl _ _) _) HY.out)).mono ?_); rintro e w3 ⟨yv, rfl, hoy, hb3⟩; have HOy := Lib.hid hoy; have HB3 := Lib.hid (bel_trans (bel_drewN (Below.refl _ _) _) hb3); obtain ⟨YB, cY, rfl, y1, y2, -⟩ := Kd.O_read hoy; clear hoy hb3)
                         | (go_at_call 63; (with_reducible refine (HAx.out _ (Kd.S_ext HB3.out HX2.out)).mono ?_); rintro e w4 ⟨xv, rfl, hox, hb4⟩; have HOx := Lib.hid hox; have HB4 := Lib.hid hb4; obtain ⟨XB, cX, rfl, x1, x2, -⟩ := Kd.O_read hox; clear hox hb4))
      clear cx1 cx2 cx3 cy1 cy2 cy3
      have HOy4 := Lib.hid (Kd.O_ext HB4.out HOy.out)
      have HB24 := Lib.hid (bel_trans HB3.out HB4.out)
      have HS4 := Lib.hid (Kd.F_ext HB24.out HS2.out)
      have Hb4 := Lib.hid (Nat.le_trans hw2.out HB24.out.size)
      go_loopw [0, 78] (fun v0 v78 wr => ∃ (i m : Nat) (s' : Binds), v78 = .int .i64 i ∧ i ≤ aX.length ∧ Hid (m ≤ k) ∧ Hid (U m s' ((aX.zip aY).drop i) = some r) ∧ Hid (Binv V s') ∧ Hid (Kd.bind.F 107 wr b v0 s') ∧ Hid (Wrote b 107 w4 wr)) (fun _ v78 _ => aX.length - (intOf v78).toNat)
      case atStart => exact ⟨0, k, s, rfl, Nat.zero_le _, Lib.hid (Nat.le_refl _), HU1, HBi, HS4, Lib.hid (Wrote.refl _ _ _ Hb4.out)⟩
      case round =>
        obtain ⟨i, m, s', rfl, hi, Hm, HUm, HBm, HSm, HWm⟩ := hrel
        obtain ⟨S'B, s'c, rfl, s'1, s'2, -⟩ := Kd.F_read HSm.out
        by_cases hlt : i < aX.length
        · obtain ⟨p, hp⟩ : ∃ p, aX[i]? = some p := ⟨_, List.getElem?_eq_getElem hlt⟩
          obtain ⟨q, hq⟩ : ∃ q, aY[i]? = some q := ⟨_, List.getElem?_eq_getElem (by rw [← hll.out]; exact hlt)⟩
          obtain ⟨A1, k1, ev1, _, _, hCx⟩ := Kd.O_read (HWm.out.O HOx.out trmE)
          obtain ⟨A2, k2, ev2, _, _, hCy⟩ := Kd.O_read (HWm.out.O HOy4.out trmE)
          injection ev1 with u1 u2 u3
          injection ev2 with u4 u5 u6
          obtain ⟨ax, pv, hax, cax, hSx⟩ := trm_at hCx hp
          obtain ⟨ay, qv, hay, cay, hSy⟩ := trm_at hCy hq
          have had1 := u1.trans hax
          have had2 := u4.trans hay
          have hzip : (aX.zip aY).drop i = (p, q) :: (aX.zip aY).drop (i + 1) := by
            have hz : (aX.zip aY)[i]? = some (p, q) := by rw [List.getElem?_zip_eq_some]; exact ⟨hp, hq⟩
            obtain ⟨hl, e⟩ := List.getElem?_eq_some_iff.1 hz
            rw [List.drop_eq_getElem_cons hl, e]
          have hpok : Pok V (p, q) := HPs.out _ (List.mem_of_getElem? (i := i) (by rw [List.getElem?_zip_eq_some]; exact ⟨hp, hq⟩))
          have HSx := Lib.hid hSx
          have HSy := Lib.hid hSy
          have hut := U_then (ps := [(p, q)]) (qs := (aX.zip aY).drop (i + 1)) (by rw [List.singleton_append, ← hzip]; exact HUm.out)
          have hiy : i < aY.length := by rw [← hll.out]; exact hlt
          have hbw := Lib.hid (Nat.le_trans Hb4.out HWm.out.bel.size)
          have hmN := Lib.hid (show m < N by have h1 := Hm.out; have h2 := Hn.out; omega)
          clear u1 u2 u3 u4 u5 u6 hax hay hCx hCy hSx hSy hp hq hzip
          subst had1
          subst had2
          rcases hut with ⟨hno, hrn⟩ | ⟨s2, m2, hyes, hm2, hU2⟩
          · have HIH := Lib.hid (IH.out m s' (.slice S'B s'.length s'c) pv qv p q none wr hmN.out hno HBm.out hpok HSm.out HSx.out HSy.out hbw.out)
            have hr := Lib.hid hrn
            clear hno hpok hrn
            go_wp2_with (go_at_call 40; (with_reducible refine HIH.out.mono ?_); rintro e w5 ⟨rv, rfl, hw5⟩; have HW5 := Lib.hid hw5; clear hw5)
            go_ret2
            exact .no hr.out (((HW2.out.call Hb.out HB24.out).trans HWm.out).trans HW5.out)
          · have HB2 := Lib.hid (U_binv (.start HBm.out hpok.1 hpok.2.1 hpok.2.2.1 hpok.2.2.2) hyes)
            have HIH := Lib.hid (IH.out m s' (.slice S'B s'.length s'c) pv qv p q (some s2) wr hmN.out hyes HBm.out hpok HSm.out HSx.out HSy.out hbw.out)
            have HU2 := Lib.hid hU2
            have Hm2 := Lib.hid (Nat.le_trans hm2 Hm.out)
            clear hyes hpok hU2 hm2
            go_wp2_with (go_at_call 40; (with_reducible refine HIH.out.mono ?_); rintro e w5 ⟨rv, ⟨rfl, hf5⟩, hw5⟩; have HW5 := Lib.hid hw5; have HF5 := Lib.hid hf5; clear hw5 hf5)
            exact ⟨⟨i + 1, m2, s2, by go_num, by omega, Hm2, HU2, HB2, HF5, Lib.hid (HWm.out.trans HW5.out)⟩, by simp [intOf]; omega⟩
        · have hr := Lib.hid (show r = some s' by
            have := HUm.out
            rw [List.drop_of_length_le (by rw [List.length_zip]; omega)] at this
            exact U_nil this)
          go_wp2
          go_ret2
          exact .yes hr.out HSm.out ((HW2.out.call Hb.out HB24.out).trans HWm.out)
end Go.Proofs.YtjglbadkbhopoaaGreatDoor
namespace Go.Proofs.YtjglbadkbhopoaaGreatDoor
set_option linter.unusedVariables false
def SubOk' (s : Binds) : Prop := (∀ b ∈ s, 0 ≤ b.1 ∧ b.1 ≤ 99999 ∧ trmOk b.2 = true ∧ ¬ Rch s b.2 b.1) ∧ (s.map (·.1)).Nodup
def V0 : List Int := (List.range 100000).map (fun n : Nat => (n : Int))
theorem V0_len : V0.length = 100000 := by unfold V0; rw [List.length_map, List.length_range]
theorem mem_V0 {x : Int} : x ∈ V0 ↔ 0 ≤ x ∧ x ≤ 99999 := by
  unfold V0
  rw [List.mem_map]
  constructor
  · rintro ⟨n, hn, rfl⟩
    have := List.mem_range.1 hn
    omega
  · rintro ⟨h0, h1⟩
    exact ⟨x.toNat, List.mem_range.2 (by omega), by omega⟩
theorem getB_in {s : Binds} {v : Int} {t : Trm} (h : getB s v = some t) : (v, t) ∈ s := by
  unfold getB at h
  obtain ⟨b, hb, rfl⟩ := Option.map_eq_some_iff.1 h
  have h1 := List.mem_of_find?_eq_some hb
  have h2 := List.find?_some hb
  have : b.1 = v := by simpa using h2
  subst this
  exact h1
open Classical in
noncomputable def rankOf (s : Binds) (v : Int) : Nat := match getB s v with
  | none => 0
  | some t => (V0.filter (fun y => decide (Rch s t y))).length
theorem sub_rank {s : Binds} (h : SubOk' s) : ∀ v t, getB s v = some t → ∀ x ∈ vars t, rankOf s x < rankOf s v := by
  classical
  intro v t hg x hx
  have hall : ∀ v t, getB s v = some t → trmOk t = true := fun v t hg => (h.1 _ (getB_in hg)).2.2.1
  have hxV : x ∈ V0 := mem_V0.2 (vars_ok (hall v t hg) x hx)
  have hv : rankOf s v = (V0.filter (fun y => decide (Rch s t y))).length := by unfold rankOf; rw [hg]
  rw [hv]
  cases hgx : getB s x with
  | none =>
    have : rankOf s x = 0 := by unfold rankOf; rw [hgx]
    rw [this]
    exact List.length_pos_of_mem (List.mem_filter.2 ⟨hxV, decide_eq_true (.here hx)⟩)
  | some u =>
    have hu : rankOf s x = (V0.filter (fun y => decide (Rch s u y))).length := by unfold rankOf; rw [hgx]
    rw [hu]
    refine filter_lt (p := fun y => decide (Rch s t y)) (q := fun y => decide (Rch s u y)) (v := x) (fun y hy => decide_eq_true (.on hx hgx (of_decide_eq_true hy))) (decide_eq_true (.here hx)) (decide_eq_false ?_) hxV
    exact (h.1 _ (getB_in hgx)).2.2.2
theorem sub_binv {s : Binds} (h : SubOk' s) : Binv V0 s where
  bok := ⟨fun v t hg => Tk_ok (h.1 _ (getB_in hg)).2.2.1, rankOf s, sub_rank h⟩
  trm := fun v t hg => (h.1 _ (getB_in hg)).2.2.1
  vin := fun v t hg x hx => mem_V0.2 (vars_ok (h.1 _ (getB_in hg)).2.2.1 x hx)
  nod := h.2
  key := fun v hv => by
    obtain ⟨b, hb, rfl⟩ := List.mem_map.1 hv
    exact mem_V0.2 ⟨(h.1 b hb).1, (h.1 b hb).2.1⟩
end Go.Proofs.YtjglbadkbhopoaaGreatDoor
namespace Go.Proofs.YtjglbadkbhopoaaGreatDoor
set_option linter.unusedVariables false
noncomputable def meet (s : Binds) (a b : Trm) : Option Binds × Int :=
  if (flat s a).length ≤ 40 ∧ (flat s b).length ≤ 40 then
    match uni s [(a, b)] with
    | none => (none, 2)
    | some s' => if (flat s' a).length ≤ 40 then (some s', 1) else (none, 3)
  else (none, 3)
theorem meet_big {s : Binds} {a b : Trm} (h : ¬ ((flat s a).length ≤ 40 ∧ (flat s b).length ≤ 40)) : meet s a b = (none, 3) := by unfold meet; rw [if_neg h]
theorem meet_apart {s : Binds} {a b : Trm} (h : (flat s a).length ≤ 40 ∧ (flat s b).length ≤ 40) (hu : uni s [(a, b)] = none) : meet s a b = (none, 2) := by unfold meet; rw [if_pos h, hu]
theorem meet_wide {s s' : Binds} {a b : Trm} (h : (flat s a).length ≤ 40 ∧ (flat s b).length ≤ 40) (hu : uni s [(a, b)] = some s') (hf : ¬ (flat s' a).length ≤ 40) : meet s a b = (none, 3) := by
  unfold meet; rw [if_pos h, hu]; exact if_neg hf
theorem meet_some {s s' : Binds} {a b : Trm} (h : (flat s a).length ≤ 40 ∧ (flat s b).length ≤ 40) (hu : uni s [(a, b)] = some s') (hf : (flat s' a).length ≤ 40) : meet s a b = (some s', 1) := by
  unfold meet; rw [if_pos h, hu]; exact if_pos hf
end Go.Proofs.YtjglbadkbhopoaaGreatDoor
namespace Go.Proofs.YtjglbadkbhopoaaGreatDoor
open Go.RowKit
set_option maxRecDepth 100000
set_option maxHeartbeats 2000000
set_option linter.unusedVariables false
theorem bound_len {V : List Int} {s : Binds} (h : Binv V s) : ∀ v u, getB s v = some u → 0 < u.length ∧ u.length ≤ 40 := fun v u hg => ⟨h.pos v u hg, (trmOk_iff.1 (h.trm v u hg)).2.1⟩
theorem cellSB : ∀ q ∈ 47 :: Kd.cell.E, q ≠ 107 := fun q hq => by
  have : q = 47 := by simpa [Kd.cell] using hq
  rw [this]; decide
theorem fullS_b {V : List Int} {s : Binds} {t : Trm} {q : Bool} (hB : Binv V s) (hV : V.length ≤ 4000000) (ht : trmOk t = true) (hq : decide ((flat s t).length ≤ 40) = q) (sv tv : Value) (w : World) (hs : Kd.bind.S 107 w sv s) (hS : Kd.cell.S 47 w tv t) :
    Calls Tryz.prog 124 #[sv, tv] w fun e w' => ∃ v, e = .returned (.tuple #[v, .bool q]) ∧ Below w.heap.size w w' := by
  obtain ⟨k, f⟩ := flat_fl hB.bok t
  refine (fullS_c s t _ k sv tv w f hs hS (by have := hB.len; omega) (trmOk_iff.1 ht).2.1 (bound_len hB)).mono ?_
  rintro e w' ⟨v, rfl, _, hb⟩
  exact ⟨v, by rw [hq], hb⟩
def MeetPost (b0 : Nat) (w : World) (m : Option Binds × Int) (e : Ending) (w' : World) : Prop := ∃ v, e = .returned (.tuple #[v, .int .i64 m.2]) ∧ Kd.bind.O 107 w' b0 v (m.1.getD []) ∧ Wrote b0 107 w w'
theorem MeetPost.mk' {b0 : Nat} {w w' : World} {m : Option Binds × Int} {o : Option Binds} {k : Int} {v : Value} (hm : m = (o, k)) (hO : Kd.bind.O 107 w' b0 v (o.getD [])) (hw : Wrote b0 107 w w') : MeetPost b0 w m (.returned (.tuple #[v, .int .i64 k])) w' := by subst hm; exact ⟨v, rfl, hO, hw⟩
theorem meetS_c (V : List Int) (b0 : Nat) (s : Binds) (sv av bv : Value) (a b : Trm) (w : World) (hB : Binv V s) (hP : Pok V (a, b)) (hV : V.length ≤ 4000000) (hs : Kd.bind.O 107 w b0 sv s) (h1 : Kd.cell.S 47 w av a) (h2 : Kd.cell.S 47 w bv b) (hb0 : b0 ≤ w.heap.size) :
    Calls Tryz.prog 143 #[sv, av, bv] w (MeetPost b0 w (meet s a b)) := by
  have hI : Uinv V s [(a, b)] := .start hB hP.1 hP.2.1 hP.2.2.1 hP.2.2.2
  obtain ⟨n, hU⟩ := uni_U hI
  have HS := Lib.hid hs
  have H1 := Lib.hid h1
  have H2 := Lib.hid h2
  have Hb0 := Lib.hid hb0
  obtain ⟨qa, hqa⟩ : ∃ qa, decide ((flat s a).length ≤ 40) = qa := ⟨_, rfl⟩
  obtain ⟨qb, hqb⟩ : ∃ qb, decide ((flat s b).length ≤ 40) = qb := ⟨_, rfl⟩
  have HFa := Lib.hid (fun w' hs ha => fullS_b hB hV hP.1 hqa sv av w' hs ha)
  have HFb := Lib.hid (fun w' hs ha => fullS_b hB hV hP.2.1 hqb sv bv w' hs ha)
  obtain ⟨r, hr⟩ : ∃ r, uni s [(a, b)] = r := ⟨_, rfl⟩
  rw [hr] at hU
  have HUn := Lib.hid (fun w' hs ha hb' hl => unify_c V n b0 s sv av bv a b r w' hU hI hV hs ha hb' hl)
  have HBn := Lib.hid (fun s' (h : r = some s') => U_binv hI (h ▸ hU))
  have HFx := Lib.hid (fun s' (h : r = some s') q hq sv' w' hs ha => fullS_b (q := q) (U_binv hI (h ▸ hU)) hV hP.1 hq sv' av w' hs ha)
  obtain ⟨SB, cS, rfl, s1, s2, -⟩ := Kd.O_read hs
  obtain ⟨TA, ca, rfl, ta1, ta2, -⟩ := h1
  obtain ⟨TB, cb, rfl, tb1, tb2, -⟩ := h2
  clear hs hb0 hI hU hB hP
  by_cases hq : qa = true ∧ qb = true
  · obtain ⟨rfl, rfl⟩ := hq
    have hfit := Lib.hid (And.intro (of_decide_eq_true hqa) (of_decide_eq_true hqb))
    clear hqa hqb
    cases r with
    | none =>
      have HM := Lib.hid (meet_apart hfit.out hr)
      clear hr
      go_enter Tryz.func143, Tryz.ntmps143
      go_wp2_with (first | (go_at_call 124; (with_reducible refine (HFa.out w (Kd.O_read HS.out) H1.out).mono ?_); rintro e w1 ⟨va, rfl, hb1⟩; have HB1 := Lib.hid hb1; clear hb1)
                         | (go_at_call 124; (with_reducible refine (HFb.out w1 (Kd.O_read (Kd.O_ext HB1.out HS.out)) (Kd.S_ext HB1.out H2.out)).mono ?_); rintro e w2 ⟨vb, rfl, hb2⟩; have HB2 := Lib.hid (bel_trans HB1.out hb2); clear hb2)
                         | (go_at_call 24; (with_reducible refine (HUn.out w2 (Kd.O_ext HB2.out HS.out) (Kd.S_ext HB2.out H1.out) (Kd.S_ext HB2.out H2.out) (Nat.le_trans Hb0.out HB2.out.size)).mono ?_); rintro e w3 ⟨rv, rfl, hw3⟩; have HW3 := Lib.hid hw3; clear hw3))
      go_ret2
      exact .mk' HM.out (Kd.O_empty Kd.bind _ w3 (Nat.le_trans Hb0.out (Nat.le_trans HB2.out.size HW3.out.bel.size))) ((Wrote.of_below Hb0.out HB2.out).trans HW3.out |>.alloc Hb0.out _)
    | some s' =>
      obtain ⟨qx, hqx⟩ : ∃ qx, decide ((flat s' a).length ≤ 40) = qx := ⟨_, rfl⟩
      have HFy := Lib.hid (fun sv' w' hs ha => HFx.out s' rfl qx hqx sv' w' hs ha)
      cases qx with
      | true =>
        have HM := Lib.hid (meet_some hfit.out hr (of_decide_eq_true hqx))
        clear hr hqx
        go_enter Tryz.func143, Tryz.ntmps143
        go_wp2_with (first | (go_at_call 124; (with_reducible refine (HFa.out w (Kd.O_read HS.out) H1.out).mono ?_); rintro e w1 ⟨va, rfl, hb1⟩; have HB1 := Lib.hid hb1; clear hb1)
                           | (go_at_call 124; (with_reducible refine (HFb.out w1 (Kd.O_read (Kd.O_ext HB1.out HS.out)) (Kd.S_ext HB1.out H2.out)).mono ?_); rintro e w2 ⟨vb, rfl, hb2⟩; have HB2 := Lib.hid (bel_trans HB1.out hb2); clear hb2)
                           | (go_at_call 24; (with_reducible refine (HUn.out w2 (Kd.O_ext HB2.out HS.out) (Kd.S_ext HB2.out H1.out) (Kd.S_ext HB2.out H2.out) (Nat.le_trans Hb0.out HB2.out.size)).mono ?_); rintro e w3 ⟨rv, ⟨rfl, ho3⟩, hw3⟩; have HW3 := Lib.hid hw3; have HO3 := Lib.hid ho3; clear hw3 ho3)
                           | (go_at_call 124; (with_reducible refine (HFy.out _ w3 (Kd.O_read HO3.out) (HW3.out.S (Kd.S_ext HB2.out H1.out) cellSB)).mono ?_); rintro e w4 ⟨vc, rfl, hb4⟩; have HB4 := Lib.hid hb4; clear hb4))
        go_ret2
        exact .mk' HM.out (Kd.O_ext HB4.out HO3.out) (((Wrote.of_below Hb0.out HB2.out).trans HW3.out).call Hb0.out HB4.out)
      | false =>
        have HM := Lib.hid (meet_wide hfit.out hr (of_decide_eq_false hqx))
        clear hr hqx
        go_enter Tryz.func143, Tryz.ntmps143
        go_wp2_with (first | (go_at_call 124; (with_reducible refine (HFa.out w (Kd.O_read HS.out) H1.out).mono ?_); rintro e w1 ⟨va, rfl, hb1⟩; have HB1 := Lib.hid hb1; clear hb1)
                           | (go_at_call 124; (with_reducible refine (HFb.out w1 (Kd.O_read (Kd.O_ext HB1.out HS.out)) (Kd.S_ext HB1.out H2.out)).mono ?_); rintro e w2 ⟨vb, rfl, hb2⟩; have HB2 := Lib.hid (bel_trans HB1.out hb2); clear hb2)
                           | (go_at_call 24; (with_reducible refine (HUn.out w2 (Kd.O_ext HB2.out HS.out) (Kd.S_ext HB2.out H1.out) (Kd.S_ext HB2.out H2.out) (Nat.le_trans Hb0.out HB2.out.size)).mono ?_); rintro e w3 ⟨rv, ⟨rfl, ho3⟩, hw3⟩; have HW3 := Lib.hid hw3; have HO3 := Lib.hid ho3; clear hw3 ho3)
                           | (go_at_call 124; (with_reducible refine (HFy.out _ w3 (Kd.O_read HO3.out) (HW3.out.S (Kd.S_ext HB2.out H1.out) cellSB)).mono ?_); rintro e w4 ⟨vc, rfl, hb4⟩; have HB4 := Lib.hid hb4; clear hb4))
        go_ret2
        exact .mk' HM.out (Kd.O_empty Kd.bind _ w4 (Nat.le_trans Hb0.out (Nat.le_trans HB2.out.size (Nat.le_trans HW3.out.bel.size HB4.out.size)))) ((((Wrote.of_below Hb0.out HB2.out).trans HW3.out).call Hb0.out HB4.out).alloc Hb0.out _)
  · have HM := Lib.hid (meet_big (s := s) (a := a) (b := b) (fun h => hq ⟨hqa ▸ decide_eq_true h.1, hqb ▸ decide_eq_true h.2⟩))
    clear hqa hqb hr
    have hqq : (qa = false) ∨ (qa = true ∧ qb = false) := by cases qa <;> cases qb <;> simp_all
    rcases hqq with rfl | ⟨rfl, rfl⟩
    · cases qb
      all_goals
        go_enter Tryz.func143, Tryz.ntmps143
        go_wp2_with (first | (go_at_call 124; (with_reducible refine (HFa.out w (Kd.O_read HS.out) H1.out).mono ?_); rintro e w1 ⟨va, rfl, hb1⟩; have HB1 := Lib.hid hb1; clear hb1)
                           | (go_at_call 124; (with_reducible refine (HFb.out w1 (Kd.O_read (Kd.O_ext HB1.out HS.out)) (Kd.S_ext HB1.out H2.out)).mono ?_); rintro e w2 ⟨vb, rfl, hb2⟩; have HB2 := Lib.hid (bel_trans HB1.out hb2); clear hb2))
        go_ret2
        exact .mk' HM.out (Kd.O_empty Kd.bind _ w2 (Nat.le_trans Hb0.out HB2.out.size)) ((Wrote.of_below Hb0.out HB2.out).alloc Hb0.out _)
    · go_enter Tryz.func143, Tryz.ntmps143
      go_wp2_with (first | (go_at_call 124; (with_reducible refine (HFa.out w (Kd.O_read HS.out) H1.out).mono ?_); rintro e w1 ⟨va, rfl, hb1⟩; have HB1 := Lib.hid hb1; clear hb1)
                         | (go_at_call 124; (with_reducible refine (HFb.out w1 (Kd.O_read (Kd.O_ext HB1.out HS.out)) (Kd.S_ext HB1.out H2.out)).mono ?_); rintro e w2 ⟨vb, rfl, hb2⟩; have HB2 := Lib.hid (bel_trans HB1.out hb2); clear hb2))
      go_ret2
      exact .mk' HM.out (Kd.O_empty Kd.bind _ w2 (Nat.le_trans Hb0.out HB2.out.size)) ((Wrote.of_below Hb0.out HB2.out).alloc Hb0.out _)
end Go.Proofs.YtjglbadkbhopoaaGreatDoor
