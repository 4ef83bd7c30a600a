/- Words for memory, continued: append in short, literals of one element, structs of an int and a slice. -/
import Derived.Test.YtjnangiggnmkoaaGreatDoorBase
namespace Go.Proofs.YtjnangiggnmkoaaGreatDoor
open Go.RowKit
set_option linter.unusedVariables false
/-- What append must know of a slice's type. -/
structure AppI {α : Type} (P : Program) (t e : TypeId) (d : Kd α) : Prop where
  und : P.underlying t = some (.slice e)
  info : ∃ z bytes, (P.info? e).map (fun i => (i.zero, i.size, i.bytes)) = some (some z, d.sz, bytes) ∧ z.cells.size = d.sz ∧ bytes ≤ 100000
  pos : 0 < d.sz
  sep : ∀ q, q ∈ d.E → q ≠ e
/-- What is known behind an append. -/
structure Grew {α : Type} (d : Kd α) (e : TypeId) (base : Nat) (v : Value) (xs : List α) (w : World) (v' : Value) (w' : World) : Prop where
  own : d.O e w' base v' xs
  grown : w.grownBy w' v.ownBlock
  at' : v'.ownBlock = v.ownBlock ∨ v'.ownBlock = some w.heap.size
theorem wp_app {α : Type} {P : Program} {w : World} {d : Kd α} {t e : TypeId} (I : AppI P t e d) {ops : Array Oper} {rest : List Oper} {o : Oper} {a : Act} {Q : Exit → Act → World → Prop} (hgd : o.guard = none) {s x : Operand}
    (ho : o.op = .call { callee := .builtin .append, args := #[s, x], argTypes := #[t, t] })
    {base : Nat} {v : Value} {xs : List α} (hown : d.O e w base v xs) (hs : a.eval s = v) {xv : Value} {ys : List α} (hy : d.S e w xv ys) (hx : a.eval x = xv)
    (hlen : xs.length + ys.length ≤ 1000000000) (hbase : base ≤ w.heap.size)
    (h : ∀ v' w', Grew d e base v (xs ++ ys) w v' w' → wpList P ops Q rest (a.put o.dst v') w') : wpList P ops Q (o :: rest) a w := by
  obtain ⟨z, bytes, hi, hz, hb⟩ := I.info
  obtain ⟨A, c, rfl, h1, h2, hC⟩ := hy
  refine wp_append (d := d) w hgd s x t ho base e z bytes I.und hi hz I.pos v xs hs hown A ys ys.length c hx rfl hC ?_ ?_ hbase I.sep (fun v' w' a1 a2 a3 => h v' w' ⟨a1, a2, a3⟩)
  · unfold maxLen; omega
  · exact Nat.le_trans (Nat.mul_le_mul hlen hb) (by decide)
namespace Kd
variable {α β : Type}
theorem S_lit (d : Kd α) (e : Nat) {w : World} {x : α} {cs : List Value} (h : d.K w x cs) {g : Nat} (hg : g = w.heap.size) : d.S e (w.alloc (.cells cs.toArray e)) (.slice (some ⟨g, 0, none⟩) 1 1) [x] := by
  subst hg
  exact ⟨_, 1, rfl, Nat.le_refl _, by unfold maxLen; omega, C_lit d e h⟩
theorem O_lit (d : Kd α) (e : Nat) {w : World} {x : α} {cs : List Value} (h : d.K w x cs) {g base : Nat} (hg : g = w.heap.size) (hb : base ≤ g) : d.O e (w.alloc (.cells cs.toArray e)) base (.slice (some ⟨g, 0, none⟩) 1 1) [x] := by
  subst hg
  have hl := d.len h
  refine ⟨cs, ⟨by rw [hl]; simp, .inr ⟨w.heap.size, 1, cs.toArray, rfl, hb, heap_alloc_new w _, by simp, by unfold maxLen; omega, by simp [hl], by simp [hl, List.take_of_length_le]⟩⟩, fun i y hy => ?_⟩
  obtain ⟨rfl, rfl⟩ : i = 0 ∧ x = y := by
    cases i with
    | zero => simpa using hy
    | succ i => simp at hy
  rw [Nat.zero_mul, List.drop_zero, List.take_of_length_le (by rw [hl]; exact Nat.le_refl _)]
  exact d.mov (Keep.of_below ((Below.refl _ _).alloc (Nat.le_refl _) _)) h
theorem S_alloc {d : Kd α} {e : Nat} {w : World} {v : Value} {xs : List α} (o : Obj) (h : d.S e w v xs) : d.S e (w.alloc o) v xs := S_ext ((Below.refl _ _).alloc (Nat.le_refl _) o) h
theorem K_ext {d : Kd α} {w w' : World} {x : α} {cs : List Value} (hb : Below w.heap.size w w') (h : d.K w x cs) : d.K w' x cs := d.mov (Keep.of_below hb) h
end Kd
/-- The blocks whose elements are of another type are as they were. -/
def KeepBut (e : Nat) (w w' : World) : Prop := ∀ (k : Nat) (cells : Array Value) (q : Nat) (fz : Nat × Nat), w.heap[k]? = some (.cells cells q fz) → q ≠ e → w'.heap[k]? = w.heap[k]?
theorem KeepBut.keep {e : Nat} {w w' : World} (h : KeepBut e w w') {E : List Nat} (hE : ∀ q ∈ E, q ≠ e) : Keep E w w' := fun k c q f hk hq => h k c q f hk (hE q hq)
theorem KeepBut.of_below {e : Nat} {w w' : World} (h : Below w.heap.size w w') : KeepBut e w w' := fun k _ _ _ hk _ => h.block k (Array.getElem?_eq_some_iff.1 hk).1
theorem KeepBut.refl (e : Nat) (w : World) : KeepBut e w w := fun k _ _ _ _ _ => rfl
theorem KeepBut.trans {e : Nat} {w w1 w2 : World} (h : KeepBut e w w1) (k : KeepBut e w1 w2) : KeepBut e w w2 := fun i c q f hi hq => (k i c q f ((h i c q f hi hq).trans hi) hq).trans (h i c q f hi hq)
theorem Keep.trans' {E : List Nat} {w w1 w2 : World} (h : Keep E w w1) (k : Keep E w1 w2) : Keep E w w2 := fun i c q f hi hq => (k i c q f ((h i c q f hi hq).trans hi) hq).trans (h i c q f hi hq)
theorem KeepBut.grown {α : Type} {d : Kd α} {e base : Nat} {w w' : World} {v : Value} {xs : List α} (h : d.O e w base v xs) (hg : w.grownBy w' v.ownBlock) : KeepBut e w w' := fun k cells q fz hk hq => by
  refine hg.block k (Array.getElem?_eq_some_iff.1 hk).1 (fun he => ?_)
  obtain ⟨cells', hc⟩ := Kd.O_typed h k he.symm
  rw [hk] at hc
  injection hc with hc
  injection hc with _ ht
  exact hq ht
/-- Below a block the world is as it was; and so, above, are the rows of all types but one. -/
structure Wrote (b e : Nat) (w w' : World) : Prop where
  bel : Below b w w'
  but : KeepBut e w w'
theorem Wrote.of_below {b e : Nat} {w w' : World} (hb : b ≤ w.heap.size) (h : Below w.heap.size w w') : Wrote b e w w' := ⟨h.mono hb, .of_below h⟩
theorem Wrote.trans {b e : Nat} {w w1 w2 : World} (h : Wrote b e w w1) (k : Wrote b e w1 w2) : Wrote b e w w2 := ⟨h.bel.trans k.bel, h.but.trans k.but⟩
theorem Wrote.refl (b e : Nat) (w : World) (hb : b ≤ w.heap.size) : Wrote b e w w := .of_below hb (Below.refl _ _)
theorem Wrote.grew {α : Type} {d : Kd α} {e base : Nat} {w w' : World} {v v' : Value} {xs ys : List α} (h : Grew d e base v ys w v' w') (ho : d.O e w base v xs) (hb : base ≤ w.heap.size) : Wrote base e w w' :=
  ⟨(Below.refl _ _).grown h.grown hb (fun k hk => (Kd.O_lt ho k hk).1), .grown ho h.grown⟩
theorem Wrote.S {α : Type} {b e : Nat} {w w' : World} (h : Wrote b e w w') {d : Kd α} {e2 : Nat} {v : Value} {xs : List α} (hs : d.S e2 w v xs) (hE : ∀ q ∈ e2 :: d.E, q ≠ e) : d.S e2 w' v xs := Kd.S_mov (h.but.keep hE) hs
theorem Wrote.O {α : Type} {b e : Nat} {w w' : World} (h : Wrote b e w w') {d : Kd α} {e2 b2 : Nat} {v : Value} {xs : List α} (hs : d.O e2 w b2 v xs) (hE : ∀ q ∈ e2 :: d.E, q ≠ e) : d.O e2 w' b2 v xs :=
  Kd.O_mov (h.but.keep (fun q hq => hE q (List.mem_cons_of_mem _ hq))) (fun k hk => by obtain ⟨c, hc⟩ := Kd.O_typed hs k hk; exact h.but k c e2 _ hc (hE e2 List.mem_cons_self)) hs
theorem KeepBut.S {α : Type} {e : Nat} {w w' : World} (h : KeepBut e w w') {d : Kd α} {e2 : Nat} {v : Value} {xs : List α} (hs : d.S e2 w v xs) (hE : ∀ q ∈ e2 :: d.E, q ≠ e) : d.S e2 w' v xs := Kd.S_mov (h.keep hE) hs
theorem KeepBut.O {α : Type} {e : Nat} {w w' : World} (h : KeepBut e w w') {d : Kd α} {e2 b2 : Nat} {v : Value} {xs : List α} (hs : d.O e2 w b2 v xs) (hE : ∀ q ∈ e2 :: d.E, q ≠ e) : d.O e2 w' b2 v xs :=
  Kd.O_mov (h.keep (fun q hq => hE q (List.mem_cons_of_mem _ hq))) (fun k hk => by obtain ⟨c, hc⟩ := Kd.O_typed hs k hk; exact h k c e2 _ hc (hE e2 List.mem_cons_self)) hs
theorem Grew.but {α : Type} {d : Kd α} {e : Nat} {w w' : World} {base : Nat} {v v' : Value} {xs ys : List α} (h : Grew d e base v ys w v' w') (ho : d.O e w base v xs) : KeepBut e w w' := KeepBut.grown ho h.grown
/-- Rows of the call's own turned: what was written before stands. -/
theorem Wrote.above {α : Type} {b e e2 : Nat} {w wr wr' : World} (h : Wrote b e w wr) {d : Kd α} {v v' : Value} {xs ys : List α} (hg : Grew d e2 w.heap.size v ys wr v' wr') (ho : d.O e2 wr w.heap.size v xs) (hb : b ≤ w.heap.size) : Wrote b e w wr' := by
  have hB : Below w.heap.size wr wr' := (Below.refl _ _).grown hg.grown h.bel.size (fun k hk => (Kd.O_lt ho k hk).1)
  exact ⟨h.bel.trans (hB.mono hb), fun k c q f hk hq => (hB.block k (Array.getElem?_eq_some_iff.1 hk).1).trans (h.but k c q f hk hq)⟩
theorem Wrote.alloc {b e : Nat} {w wr : World} (h : Wrote b e w wr) (hb : b ≤ w.heap.size) (o : Obj) : Wrote b e w (wr.alloc o) := h.trans (.of_below (Nat.le_trans hb h.bel.size) (bel_alloc (Below.refl _ _) o))
theorem Wrote.call {b e : Nat} {w wr w' : World} (h : Wrote b e w wr) (hb : b ≤ w.heap.size) (k : Below wr.heap.size wr w') : Wrote b e w w' := h.trans (.of_below (Nat.le_trans hb h.bel.size) k)
theorem add_zero'0 (ad : Addr) : ad.add 0 = ad := by unfold Addr.add; rw [if_pos rfl]
theorem Grew.below {α : Type} {d : Kd α} {e : Nat} {w0 w w' : World} {v v' : Value} {xs ys : List α} (h : Grew d e w0.heap.size v ys w v' w') (hb : Below w0.heap.size w0 w) (ho : d.O e w w0.heap.size v xs) : Below w0.heap.size w0 w' := bel_grown hb ho h.grown
/-- What lies in another block stays. -/
theorem Grew.O_far {α β : Type} {d : Kd α} {e : Nat} {w w' : World} {base : Nat} {v v' : Value} {ys : List α} (h : Grew d e base v ys w v' w') {d2 : Kd β} {e2 b2 : Nat} {u : Value} {zs : List β} (ho : d2.O e2 w b2 u zs) (hne : ∀ k, u.ownBlock = some k → v.ownBlock ≠ some k) (hE : d2.E = []) : d2.O e2 w' b2 u zs :=
  Kd.O_mov (fun k c q f _ hq => by rw [hE] at hq; cases hq) (fun k hk => h.grown.block k (Kd.O_lt ho k hk).2 (fun e => hne k hk e.symm)) ho
/-- What lies in another block stays, if it leads to no row of this type. -/
theorem Grew.O_far' {α β : Type} {d : Kd α} {e : Nat} {w w' : World} {base : Nat} {v v' : Value} {xs ys : List α} (h : Grew d e base v ys w v' w') (hv : d.O e w base v xs) {d2 : Kd β} {e2 b2 : Nat} {u : Value} {zs : List β} (ho : d2.O e2 w b2 u zs) (hne : ∀ k, u.ownBlock = some k → v.ownBlock ≠ some k) (hE : ∀ q ∈ d2.E, q ≠ e) : d2.O e2 w' b2 u zs :=
  Kd.O_mov (Keep.grown hv h.grown hE) (fun k hk => h.grown.block k (Kd.O_lt ho k hk).2 (fun e => hne k hk e.symm)) ho
/-- Where an append's row goes no other owned row lies. -/
theorem Grew.apart {α β : Type} {d : Kd α} {e : Nat} {w w' : World} {base : Nat} {v v' : Value} {ys : List α} (h : Grew d e base v ys w v' w') {d2 : Kd β} {e2 b2 : Nat} {u : Value} {zs : List β} (ho : d2.O e2 w b2 u zs) (hne : ∀ k, u.ownBlock = some k → v.ownBlock ≠ some k) : ∀ k, u.ownBlock = some k → v'.ownBlock ≠ some k := fun k hk e => by
  rcases h.at' with h | h
  · rw [h] at e; exact hne k hk e
  · rw [h] at e
    have := (Kd.O_lt ho k hk).2
    have := Option.some.inj e
    omega
/-- Where nothing but an owned row turned, data that leads to no such row stays. -/
theorem Grew.keep {α : Type} {d : Kd α} {e : Nat} {w w' : World} {base : Nat} {v v' : Value} {xs ys : List α} (h : Grew d e base v ys w v' w') (ho : d.O e w base v xs) {E : List Nat} (hE : ∀ q ∈ E, q ≠ e) : Keep E w w' := Keep.grown ho h.grown hE
section
variable {α : Type} {P : Program} {w : World} {d : Kd α} {t e : TypeId} {ops : Array Oper} {rest : List Oper} {o : Oper} {a : Act} {Q : Exit → Act → World → Prop}
theorem AppI.elem (I : AppI P t e d) : P.elem t = e := by simp [Program.elem, I.und]
theorem AppI.size (I : AppI P t e d) (W : World) : (sizeOf (P.elem t)).run P W = .ok d.sz W := by
  obtain ⟨z, bytes, hi, -, -⟩ := I.info
  obtain ⟨i, hi, hz, hs, hby⟩ := info_parts hi
  rw [I.elem]
  simp [sizeOf, typeInfo, hi, hs]
theorem Kd.C_sub {A : Option Addr} {xs : List α} (h : d.C e w A xs) (l k : Nat) (h1 : l + k ≤ xs.length) : d.C e w (A.map (·.add (l * d.sz))) ((xs.drop l).take k) := fun i x hx => by
  rw [List.getElem?_take] at hx
  split at hx
  · rename_i hik
    rw [List.getElem?_drop] at hx
    obtain ⟨ad, cs, cells, fz, rfl, hh, hK, hc⟩ := h _ x hx
    refine ⟨_, cs, cells, fz, rfl, by rw [add_block]; exact hh, hK, fun j u hu => ?_⟩
    have := hc j u hu
    rwa [Nat.add_mul, Nat.add_assoc, ← add_add'] at this
  · cases hx
theorem Kd.S_sliced {A : Option Addr} {c : Nat} {xs : List α} (h : d.S e w (.slice A xs.length c) xs) {l k : Nat} (_ : l ≤ k) (h2 : k ≤ xs.length) : d.S e w (sliced A l k c d.sz) ((xs.drop l).take (k - l)) := by
  obtain ⟨A', c', ev, hc, hm, hC⟩ := h
  injection ev with e1 e2 e3
  subst e1; subst e3
  have hlen : ((xs.drop l).take (k - l)).length = k - l := by rw [List.length_take, List.length_drop]; omega
  unfold sliced
  by_cases hcl : c = l
  · rw [if_pos hcl]
    refine ⟨_, _, by rw [hlen], by omega, by omega, fun i x hx => ?_⟩
    have := (List.getElem?_eq_some_iff.1 hx).1
    omega
  · rw [if_neg hcl]
    exact ⟨_, _, by rw [hlen], by omega, by omega, Kd.C_sub hC l (k - l) (by omega)⟩
theorem wp_sub_lh (I : AppI P t e d) (hgd : o.guard = none) {x lo hi : Operand} (ho : o.op = .slice t x (some lo) (some hi) none)
    {xv : Value} {xs : List α} (hy : d.S e w xv xs) (hx : a.eval x = xv) {l k : Int} (hl : a.eval lo = .int .i64 l) (hk : a.eval hi = .int .i64 k) (h0 : 0 ≤ l) (h1 : l ≤ k) (h2 : k ≤ xs.length)
    (h : ∀ v', d.S e w v' ((xs.drop l.toNat).take (k.toNat - l.toNat)) → wpList P ops Q rest (a.put o.dst v') w) : wpList P ops Q (o :: rest) a w :=
  wpList_plain hgd fun K hK => by
    obtain ⟨A, c, rfl, hc, hm, hC⟩ := hy
    have ht : P.underlying t = some (.slice (P.elem t)) := by rw [I.elem]; exact I.und
    have hr := run_slice_lh (w := w) t A xs.length c ht .i64 .i64 l k h0 h1 (by omega)
    rw [I.size] at hr
    unfold Oper.wp execOp
    simp only [ho, Option.map_some, Option.map_none, hl, hk, hx, Sem.run_bind, Sem.run_pure, run_sliceAt_slice (h := ht), hr, Result.andThen_ok]
    exact hK _ _ (h _ (Kd.S_sliced ⟨A, c, rfl, hc, hm, hC⟩ (by omega) (by omega)))
theorem wp_sub_h (I : AppI P t e d) (hgd : o.guard = none) {x hi : Operand} (ho : o.op = .slice t x none (some hi) none)
    {xv : Value} {xs : List α} (hy : d.S e w xv xs) (hx : a.eval x = xv) {k : Int} (hk : a.eval hi = .int .i64 k) (h1 : 0 ≤ k) (h2 : k ≤ xs.length)
    (h : ∀ v', d.S e w v' (xs.take k.toNat) → wpList P ops Q rest (a.put o.dst v') w) : wpList P ops Q (o :: rest) a w :=
  wpList_plain hgd fun K hK => by
    obtain ⟨A, c, rfl, hc, hm, hC⟩ := hy
    have ht : P.underlying t = some (.slice (P.elem t)) := by rw [I.elem]; exact I.und
    have hr := run_slice_h (w := w) t A xs.length c ht .i64 k h1 (by omega)
    rw [I.size] at hr
    unfold Oper.wp execOp
    simp only [ho, Option.map_some, Option.map_none, hk, hx, Sem.run_bind, Sem.run_pure, run_sliceAt_slice (h := ht), hr, Result.andThen_ok]
    exact hK _ _ (h _ (by have := Kd.S_sliced ⟨A, c, rfl, hc, hm, hC⟩ (Nat.zero_le k.toNat) (show k.toNat ≤ xs.length by omega); rwa [List.drop_zero, Nat.sub_zero] at this))
theorem wp_sub_l (I : AppI P t e d) (hgd : o.guard = none) {x lo : Operand} (ho : o.op = .slice t x (some lo) none none)
    {xv : Value} {xs : List α} (hy : d.S e w xv xs) (hx : a.eval x = xv) {l : Int} (hl : a.eval lo = .int .i64 l) (h0 : 0 ≤ l) (h2 : l ≤ xs.length)
    (h : ∀ v', d.S e w v' (xs.drop l.toNat) → wpList P ops Q rest (a.put o.dst v') w) : wpList P ops Q (o :: rest) a w :=
  wpList_plain hgd fun K hK => by
    obtain ⟨A, c, rfl, hc, hm, hC⟩ := hy
    have ht : P.underlying t = some (.slice (P.elem t)) := by rw [I.elem]; exact I.und
    have hr := run_slice_l (w := w) t A xs.length c ht .i64 l h0 h2
    rw [I.size] at hr
    unfold Oper.wp execOp
    simp only [ho, Option.map_some, Option.map_none, hl, hx, Sem.run_bind, Sem.run_pure, run_sliceAt_slice (h := ht), hr, Result.andThen_ok]
    exact hK _ _ (h _ (by have := Kd.S_sliced ⟨A, c, rfl, hc, hm, hC⟩ (show l.toNat ≤ xs.length by omega) (Nat.le_refl _); rwa [List.take_of_length_le (by rw [List.length_drop]; exact Nat.le_refl _)] at this))
theorem Kd.O_take {base : Nat} {v : Value} {xs : List α} (h : d.O e w base v xs) {A : Option Addr} {c : Nat} (hv : v = .slice A xs.length c) (k : Nat) (hk : k ≤ xs.length) : d.O e w base (sliced A 0 k c d.sz) (xs.take k) := by
  obtain ⟨cs, ⟨h0, h1⟩, h2⟩ := h
  refine ⟨cs.take (k * d.sz), ⟨by rw [List.length_take, List.length_take, h0, Nat.min_eq_left hk, Nat.min_eq_left (Nat.mul_le_mul_right _ hk)], ?_⟩, fun i x hx => ?_⟩
  · rw [List.length_take, Nat.min_eq_left hk]
    rcases h1 with ⟨rfl, hn⟩ | ⟨g, cap, cur, rfl, r1, r2, r3, r4, r5, r6⟩
    · injection hv with e1 e2 e3
      subst e1; subst e3
      refine .inl ⟨?_, by omega⟩
      unfold sliced; simp; omega
    · injection hv with e1 e2 e3
      subst e1; subst e3
      refine .inr ⟨g, cap, cur, ?_, r1, r2, by omega, r4, r5, ?_⟩
      · unfold sliced
        split
        · simp
        · simp [add_zero'0]
      · rw [← r6, List.take_take, Nat.min_eq_left (Nat.mul_le_mul_right _ hk)]
  · rw [List.getElem?_take] at hx
    split at hx
    · rename_i hik
      have := h2 i x hx
      have hb : i * d.sz + d.sz ≤ k * d.sz := by rw [← Nat.succ_mul]; exact Nat.mul_le_mul_right _ hik
      rwa [List.drop_take, List.take_take, Nat.min_eq_left (by omega)]
    · cases hx
theorem sliced_block {A : Option Addr} {k c s : Nat} : (sliced A 0 k c s).ownBlock = (Value.slice A k c).ownBlock := by
  unfold sliced
  cases A with
  | none => split <;> rfl
  | some ad =>
    split
    · rfl
    · simp [Value.ownBlock, add_zero'0]
theorem wp_sub_own (I : AppI P t e d) (hgd : o.guard = none) {x hi : Operand} (ho : o.op = .slice t x none (some hi) none)
    {base : Nat} {xv : Value} {xs : List α} (hy : d.O e w base xv xs) (hx : a.eval x = xv) {k : Int} (hk : a.eval hi = .int .i64 k) (h1 : 0 ≤ k) (h2 : k ≤ xs.length)
    (h : ∀ v', d.O e w base v' (xs.take k.toNat) → v'.ownBlock = xv.ownBlock → wpList P ops Q rest (a.put o.dst v') w) : wpList P ops Q (o :: rest) a w :=
  wpList_plain hgd fun K hK => by
    obtain ⟨A, c, ev, hc, hm, hC⟩ := Kd.O_read hy
    have ht : P.underlying t = some (.slice (P.elem t)) := by rw [I.elem]; exact I.und
    have hr := run_slice_h (w := w) t A xs.length c ht .i64 k h1 (by omega)
    rw [I.size] at hr
    have hz := Kd.O_take hy ev k.toNat (by omega)
    have hb : (sliced A 0 k.toNat c d.sz).ownBlock = xv.ownBlock := by rw [sliced_block, ev]; cases A <;> rfl
    unfold Oper.wp execOp
    simp only [ho, Option.map_some, Option.map_none, hk, hx, ev, Sem.run_bind, Sem.run_pure, run_sliceAt_slice (h := ht), hr, Result.andThen_ok]
    exact hK _ _ (h _ hz hb)
end
end Go.Proofs.YtjnangiggnmkoaaGreatDoor
