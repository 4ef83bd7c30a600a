/- Slices that may be appended to: rows of the call's own, and whatever is full. -/
import Derived.Test.YtjnangiggnmkoaaGreatDoorBase2
import Derived.ArgAppend
import Derived.BigQuiet
namespace Go.Proofs.YtjnangiggnmkoaaGreatDoor
open Go.RowKit
set_option linter.unusedVariables false
theorem Kd.O_base {α : Type} {d : Kd α} {e base base' : Nat} {w : World} {v : Value} {xs : List α} (h : d.O e w base v xs) (hb : base' ≤ base) : d.O e w base' v xs := by
  obtain ⟨cs, ⟨h0, h1⟩, h2⟩ := h
  refine ⟨cs, ⟨h0, ?_⟩, h2⟩
  rcases h1 with h1 | ⟨g, cap, cur, rfl, r1, r2⟩
  · exact .inl h1
  · exact .inr ⟨g, cap, cur, rfl, Nat.le_trans hb r1, r2⟩
/-- Who appends to it writes nothing old. -/
def Kd.F {α : Type} (d : Kd α) (e : Nat) (w : World) (b : Nat) (v : Value) (xs : List α) : Prop := d.O e w b v xs ∨ (d.S e w v xs ∧ ∃ A, v = .slice A xs.length xs.length)
section
variable {α : Type} {d : Kd α} {e b : Nat} {w w' : World} {v : Value} {xs : List α}
theorem Kd.F_read (h : d.F e w b v xs) : d.S e w v xs := h.elim Kd.O_read (·.1)
theorem Kd.F_ext (hb : Below w.heap.size w w') (h : d.F e w b v xs) : d.F e w' b v xs := h.imp (Kd.O_ext hb) (fun h => ⟨Kd.S_ext hb h.1, h.2⟩)
theorem KeepBut.F {e1 : Nat} (h : KeepBut e1 w w') (hs : d.F e w b v xs) (hE : ∀ q ∈ e :: d.E, q ≠ e1) : d.F e w' b v xs := hs.imp (fun hs => h.O hs hE) (fun hs => ⟨h.S hs.1 hE, hs.2⟩)
theorem Kd.F_base {b' : Nat} (h : d.F e w b v xs) (hb : b' ≤ b) : d.F e w b' v xs := h.imp (fun h => Kd.O_base h hb) id
theorem Kd.F_nil (d : Kd α) (e : Nat) (w : World) (b : Nat) : d.F e w b (.slice none 0 0) [] := .inl (Kd.O_nil d e w b)
theorem wp_app_F {P : Program} {t : TypeId} {w : World} {d : Kd α} {e : TypeId} {xs : List α} {v : Value} (I : AppI P t e d) {ops : Array Oper} {rest : List Oper} {o : Oper} {a : Act} {Q : Exit → Act → World → Prop} (hgd : o.guard = none) {s x : Operand}
    (ho : o.op = .call { callee := .builtin .append, args := #[s, x], argTypes := #[t, t] })
    (hf : d.F e w b v xs) (hs : a.eval s = v) {xv : Value} {ys : List α} (hy : d.S e w xv ys) (hx : a.eval x = xv) (hne : ys ≠ [])
    (hlen : xs.length + ys.length ≤ 1000000000) (hb : b ≤ w.heap.size)
    (h : ∀ v' w', d.O e w' b v' (xs ++ ys) → Wrote b e w w' → wpList P ops Q rest (a.put o.dst v') w') : wpList P ops Q (o :: rest) a w := by
  rcases hf with hf | ⟨hS, A, rfl⟩
  · exact wp_app I hgd ho hf hs hy hx hlen hb (fun v' w' hg => h v' w' hg.own (.grew hg hf hb))
  · cases A with
    | none =>
      obtain ⟨A', c', ev, _, _, hC⟩ := hS
      injection ev with e1 _ _
      subst e1
      obtain rfl : xs = [] := by
        cases xs with
        | nil => rfl
        | cons y ys => obtain ⟨_, _, _, _, ea, _⟩ := hC 0 y rfl; cases ea
      have hf : d.O e w b (.slice none 0 0) ([] : List α) := Kd.O_nil _ _ _ _
      exact wp_app I hgd ho hf hs hy hx hlen hb (fun v' w' hg => h v' w' hg.own (.grew hg hf hb))
    | some ad =>
      obtain ⟨z, bytes, hi, hz, hby⟩ := I.info
      obtain ⟨i, hi, hz1, hs1, hb1⟩ := info_parts hi
      obtain ⟨A', c', ev, _, _, hC⟩ := hS
      injection ev with e1 _ _
      subst e1
      obtain ⟨Y, cy, rfl, hy1, hy2, hCY⟩ := hy
      cases Y with
      | none =>
        exfalso
        cases ys with
        | nil => exact hne rfl
        | cons y ys => obtain ⟨_, _, _, _, ea, _⟩ := hCY 0 y rfl; cases ea
      | some ay =>
        obtain ⟨olds, o1, o2, o3, o4⟩ := Kd.C_cells w hC
        obtain ⟨news, n1, n2, n3, n4⟩ := Kd.C_cells w hCY
        have hpos : 0 < ys.length := List.length_pos_iff.2 hne
        obtain ⟨v', w', hrun, hown, hgr⟩ := run_append_arg_grows (P := P) w t o.type e i z d.sz bytes I.und hi hz1 hs1 hb1 hz I.pos ad xs.length xs.length olds o1 o2 ay ys.length cy news n1 n2 (by omega) (by unfold maxLen; omega) (Nat.le_trans (Nat.mul_le_mul hlen hby) (by decide))
        have hB : Below w.heap.size w w' := ⟨hgr.os, hgr.tape, hgr.output, hgr.size, fun k hk => hgr.block k hk (by simp)⟩
        refine wpList_plain hgd fun K hK => ?_
        unfold Oper.wp execOp
        simp only [ho, resolve, invoke, builtin, Sem.run_bind, Sem.run_pure, Result.andThen_ok, List.map_toArray, List.map_cons, List.map_nil, hs, hx, hrun]
        refine hK _ _ (h v' w' (Kd.O_base ⟨olds ++ news, by rw [List.length_append]; exact hown, fun i x hx => d.mov (Keep.of_below hB) (Reps.snoc o1 o4 n4 i x hx)⟩ hb) (.of_below hb hB))
end
/-- A region that draws its order, in whatever worlds of a class. -/
theorem wp_region_class {P : Program} {C : World → Prop} {id : Nat} {Q : Exit → Act → World → Prop} {a : Act} {w : World} {l : List Oper} (hm : P.follows .mixedOrders = true) (hB : Region.lexB .any l.toArray = true) (hC : C w.drew)
    (h : wpQuiet P l.toArray C (fun a' => ∀ w', C w' → Q .normal a' w') l a) : (Code.region id l.toArray true).wp P Q a w := wp_region_quiet (C := C) hm hB hC (by simpa using h)
theorem quiet_load {P : Program} {C : World → Prop} {K : Act → Prop} {a : Act} {o : Oper} {t : TypeId} {x : Operand} {ad : Addr} {v : Value} (ho : o.op = .load t x) (hx : a.eval x = .pointer (some ad))
    (h1 : ∀ W, C W → (Instr.loadAt t (.pointer (some ad))).run P W = .ok v W) (hk : K (a.put o.dst v)) : o.quiet P a C K :=
  ⟨v, fun W hW => by
    unfold Oper.quietAt execOp
    simp only [ho, hx, Sem.run_bind, Sem.run_pure, h1 W hW, Result.andThen_ok]
    exact ⟨rfl, rfl⟩, hk⟩
theorem quiet_cell {P : Program} {C : World → Prop} {K : Act → Prop} {a : Act} {o : Oper} {t : TypeId} {x : Operand} {ad : Addr} {v : Value} (ho : o.op = .load t x) (hx : a.eval x = .pointer (some ad))
    (h1 : ∀ W v, W.cell? ad = some v → (Instr.loadAt t (.pointer (some ad))).run P W = .ok v W) (h2 : ∀ W, C W → W.cell? ad = some v) (hk : K (a.put o.dst v)) : o.quiet P a C K := quiet_load ho hx (fun W hW => h1 W v (h2 W hW)) hk
/-- A cell of an owned row's element, written. -/
theorem Kd.O_put {α : Type} {d : Kd α} {e base : Nat} {w : World} {v : Value} {xs : List α} (h : d.O e w base v xs) (hE : ∀ q ∈ d.E, q ≠ e) {i : Nat} {x : α} (hi : xs[i]? = some x) :
    ∃ ad cap, v = .slice (some ad) xs.length cap ∧ base ≤ ad.block ∧ (∀ j, j < d.sz → w.frozen? ⟨(ad.add (i * d.sz)).block, (ad.add (i * d.sz)).off + j, none⟩ = false) ∧
      ∀ j, j < d.sz → ∀ u x', u.oneCell' = true → (∀ cs, d.K w x cs → d.K w x' (cs.set j u)) → d.O e (w.setCell ⟨(ad.add (i * d.sz)).block, (ad.add (i * d.sz)).off + j, none⟩ u) base v (xs.set i x') ∧ KeepBut e w (w.setCell ⟨(ad.add (i * d.sz)).block, (ad.add (i * d.sz)).off + j, none⟩ u) := by
  obtain ⟨cs, ⟨h0, h1⟩, h2⟩ := h
  have hil := (List.getElem?_eq_some_iff.1 hi).1
  rcases h1 with ⟨_, hn⟩ | ⟨g, cap, cur, rfl, r1, r2, r3, r4, r5, r6⟩
  · omega
  · have ea : ∀ j, (⟨((⟨g, 0, none⟩ : Addr).add (i * d.sz)).block, ((⟨g, 0, none⟩ : Addr).add (i * d.sz)).off + j, none⟩ : Addr) = ⟨g, i * d.sz + j, none⟩ := fun j => by unfold Addr.add; split <;> simp_all
    refine ⟨⟨g, 0, none⟩, cap, rfl, r1, fun j _ => by rw [ea]; exact frozen_of_row w g _ cur e r2, fun j hj u x' hu hK => ?_⟩
    rw [ea]
    have hblk := heap_setCell_same w g (i * d.sz + j) cur e u r2
    have hkb : KeepBut e w (w.setCell ⟨g, i * d.sz + j, none⟩ u) := fun k c q f hk hq => by
      refine heap_setCell_other w _ k u (fun he => ?_)
      rw [show k = g from he, r2] at hk
      injection hk with hk
      injection hk with _ ht
      exact hq ht.symm
    have hlt : i * d.sz + j < cs.length := by
      rw [h0]
      have : i * d.sz + d.sz ≤ xs.length * d.sz := by rw [← Nat.succ_mul]; exact Nat.mul_le_mul_right _ hil
      omega
    refine ⟨⟨cs.set (i * d.sz + j) u, ⟨by rw [List.length_set, List.length_set]; exact h0, .inr ⟨g, cap, cur.setIfInBounds (i * d.sz + j) u, by rw [List.length_set], r1, hblk, by rw [List.length_set]; exact r3, r4, by rw [Array.size_setIfInBounds]; exact r5, ?_⟩⟩, fun k y hy => ?_⟩, hkb⟩
    · rw [List.length_set, Array.toList_setIfInBounds, ← r6]
      rw [List.take_set]
    · by_cases hki : k = i
      · subst hki
        rw [List.getElem?_set_self hil] at hy
        obtain rfl := Option.some.inj hy
        have hseg : (((cs.set (k * d.sz + j) u).drop (k * d.sz)).take d.sz) = ((cs.drop (k * d.sz)).take d.sz).set j u := by
          rw [List.drop_set, if_neg (by omega), Nat.add_sub_cancel_left, List.take_set]
        rw [hseg]
        exact d.mov (hkb.keep hE) (hK _ (h2 k x hi))
      · rw [List.getElem?_set_ne (Ne.symm hki)] at hy
        have hseg : (((cs.set (i * d.sz + j) u).drop (k * d.sz)).take d.sz) = (cs.drop (k * d.sz)).take d.sz := by
          rcases Nat.lt_or_ge k i with hlt' | hge
          · have : k * d.sz + d.sz ≤ i * d.sz := by rw [← Nat.succ_mul]; exact Nat.mul_le_mul_right _ hlt'
            rw [List.drop_set, if_neg (by omega), List.take_set]
            rw [List.set_eq_of_length_le]
            rw [List.length_take]; omega
          · have : i * d.sz + d.sz ≤ k * d.sz := by rw [← Nat.succ_mul]; exact Nat.mul_le_mul_right _ (by omega)
            rw [List.drop_set, if_pos (by omega)]
        rw [hseg]
        exact d.mov (hkb.keep hE) (h2 k y hy)
theorem KeepBut.below_put {b e : Nat} {w : World} {a : Addr} {u : Value} (h : KeepBut e w (w.setCell a u)) (ha : b ≤ a.block) (hb : b ≤ w.heap.size) : Wrote b e w (w.setCell a u) := ⟨(Below.refl _ _).setCell ha _, h⟩
end Go.Proofs.YtjnangiggnmkoaaGreatDoor
