/- Lemmas and contracts for FnExactWldOk, part 0. -/
import Derived.WalkKit
import Derived.WalkSpells
import Derived.WalkLawsBesides
import Derived.KernelRfl
import Derived.RowKit3
import Derived.OwnWalk
import Derived.Below
import Derived.Deep.Draws
import Derived.Laws.OwnMore
import Derived.Maps.AppendAt
import Derived.Deep.QuietTactic
import Derived.BigQuiet
import Derived.Lib.Hide
import Derived.WalkSmall
import Derived.Laws.ResultCell
import Derived.Laws.Rows
import Derived.Test.YtdoggcfdfkkedaaGreatDoorProg
import Derived.Outline
import Derived.Deep.RegionWith
import Derived.Deep.DeepCutAuto
import Derived.Deep.CutBlock
import Derived.Lib.Split
import Derived.Lib.AtoiTie
import Derived.Lib.ItoaMem
namespace Go.Proofs.YtdoggcfdfkkedaaGreatDoor
set_option linter.unusedVariables false
open Go.RowKit
theorem ret_int {k : IntKind} {a b : Int} (h : a = b) : Ending.returned (.int k a) = .returned (.int k b) := by rw [h]
theorem ret_bool {a b : Bool} (h : a = b) : Ending.returned (.bool a) = .returned (.bool b) := by rw [h]
theorem cell_keep {w w' : World} (h : Below w.heap.size w w') {a : Addr} {v : Value} (hc : w.cell? a = some v) : w'.cell? a = some v :=
  (h.cell (World.block_lt_of_cell? w a hc)).trans hc
theorem bel_trans {w w1 w2 : World} (h : Below w.heap.size w w1) (k : Below w1.heap.size w1 w2) : Below w.heap.size w w2 :=
  h.trans ⟨k.os, k.tape, k.output, k.size, fun i hi => k.block i (Nat.lt_of_lt_of_le hi h.size)⟩
theorem bel_alloc {w w1 : World} (h : Below w.heap.size w w1) (o : Obj) : Below w.heap.size w (w1.alloc o) := h.alloc h.size o
theorem bel_drew {B : Nat} {w w1 : World} (h : Below B w w1) : Below B w w1.drew := ⟨h.os, h.tape, h.output, h.size, h.block⟩
theorem bel_drewN {B : Nat} {w w1 : World} (h : Below B w w1) (n : Nat) : Below B w (w1.drewN n) := ⟨h.os, h.tape, h.output, h.size, h.block⟩
theorem add_block (a : Addr) (n : Nat) : (a.add n).block = a.block := by unfold Addr.add; split <;> rfl
theorem add_add' (a : Addr) (i j : Nat) : (a.add i).add j = a.add (i + j) := by
  unfold Addr.add
  by_cases hi : i = 0 <;> by_cases hj : j = 0 <;> simp [hi, hj, Nat.add_assoc]

theorem box_cell (w : World) (cs : Array Value) (e : Nat) (i : Nat) : (w.alloc (.cells cs e)).cell? ⟨w.heap.size, i, none⟩ = cs[i]? := cell_of_row _ _ i cs e (0, 0) (heap_alloc_new w _)
theorem box_keep {w w' : World} {g : Nat} {cs : Array Value} {e : Nat} {fz : Nat × Nat} (hb : w.heap[g]? = some (.cells cs e fz)) (h : Below w.heap.size w w') : w'.heap[g]? = some (.cells cs e fz) := (h.block g (Array.getElem?_eq_some_iff.1 hb).1).trans hb
def Keep (E : List Nat) (w w' : World) : Prop := ∀ (k : Nat) (cells : Array Value) (q : Nat) (fz : Nat × Nat), w.heap[k]? = some (.cells cells q fz) → q ∈ E → w'.heap[k]? = w.heap[k]?
theorem Keep.of_below {E : List Nat} {w w' : World} (h : Below w.heap.size w w') : Keep E w w' := fun k _ _ _ hk _ => h.block k (Array.getElem?_eq_some_iff.1 hk).1
theorem Keep.sub {E E' : List Nat} {w w' : World} (h : Keep E w w') (hs : ∀ q, q ∈ E' → q ∈ E) : Keep E' w w' := fun k c q f hk hq => h k c q f hk (hs q hq)

structure Kd (α : Type) where
  sz : Nat
  E : List Nat
  K : World → α → List Value → Prop
  len : ∀ {w x cs}, K w x cs → cs.length = sz
  one : ∀ {w x cs}, K w x cs → ∀ u ∈ cs, u.oneCell' = true
  mov : ∀ {w w' : World} {x cs}, Keep E w w' → K w x cs → K w' x cs
namespace Kd
variable {α β : Type}
def C (d : Kd α) (e : Nat) (w : World) (A : Option Addr) (xs : List α) : Prop :=
  ∀ i x, xs[i]? = some x → ∃ ad cs cells fz, A = some ad ∧ w.heap[ad.block]? = some (.cells cells e fz) ∧ d.K w x cs ∧ ∀ j u, cs[j]? = some u → w.cell? (ad.add (i * d.sz + j)) = some u
def S (d : Kd α) (e : Nat) (w : World) (v : Value) (xs : List α) : Prop := ∃ A c, v = .slice A xs.length c ∧ xs.length ≤ c ∧ c ≤ maxLen ∧ d.C e w A xs
def O (d : Kd α) (e : Nat) (w : World) (base : Nat) (v : Value) (xs : List α) : Prop :=
  ∃ cs : List Value, w.ownsRow base e d.sz v xs.length cs ∧ ∀ i x, xs[i]? = some x → d.K w x ((cs.drop (i * d.sz)).take d.sz)
section
variable {d : Kd α} {e : Nat} {w w' : World} {A : Option Addr} {v : Value} {xs : List α} {base : Nat}
theorem ext (d : Kd α) {x : α} {cs : List Value} (hb : Below w.heap.size w w') (h : d.K w x cs) : d.K w' x cs := d.mov (Keep.of_below hb) h
theorem C_mov (hk : Keep (e :: d.E) w w') (h : d.C e w A xs) : d.C e w' A xs := fun i x hx => by
  obtain ⟨ad, cs, cells, fz, ea, hh, hK, hc⟩ := h i x hx
  have hb := hk _ _ _ _ hh List.mem_cons_self
  exact ⟨ad, cs, cells, fz, ea, hb.trans hh, d.mov (hk.sub fun q hq => List.mem_cons_of_mem _ hq) hK, fun j u hu => (World.cell?_of_block (by rw [add_block]; exact hb)).trans (hc j u hu)⟩
theorem C_ext (hb : Below w.heap.size w w') (h : d.C e w A xs) : d.C e w' A xs := C_mov (Keep.of_below hb) h
theorem S_mov (hk : Keep (e :: d.E) w w') (h : d.S e w v xs) : d.S e w' v xs := by
  obtain ⟨A, c, ev, h1, h2, h3⟩ := h
  exact ⟨A, c, ev, h1, h2, C_mov hk h3⟩
theorem S_ext (hb : Below w.heap.size w w') (h : d.S e w v xs) : d.S e w' v xs := S_mov (Keep.of_below hb) h
theorem C_nil (d : Kd α) (e : Nat) (w : World) (A : Option Addr) : d.C e w A [] := fun i x hx => by simp at hx
theorem S_nil (d : Kd α) (e : Nat) (w : World) : d.S e w (.slice none 0 0) [] := ⟨none, 0, rfl, Nat.le_refl _, Nat.zero_le _, C_nil d e w _⟩
theorem O_nil (d : Kd α) (e : Nat) (w : World) (base : Nat) : d.O e w base (.slice none 0 0) [] := ⟨[], World.ownsRow_nil w base e d.sz, fun i x hx => by simp at hx⟩
theorem O_mov (hk : Keep d.E w w') (hg : ∀ k, v.ownBlock = some k → w'.heap[k]? = w.heap[k]?) (h : d.O e w base v xs) : d.O e w' base v xs := by
  obtain ⟨cs, ⟨h0, h1⟩, h2⟩ := h
  refine ⟨cs, ⟨h0, ?_⟩, fun i x hx => d.mov hk (h2 i x hx)⟩
  rcases h1 with h1 | ⟨g, cap, cur, rfl, r1, r2, r3⟩
  · exact .inl h1
  · exact .inr ⟨g, cap, cur, rfl, r1, (hg g (by simp [Value.ownBlock])).trans r2, r3⟩
theorem O_lt (h : d.O e w base v xs) : ∀ k, v.ownBlock = some k → base ≤ k ∧ k < w.heap.size := by
  obtain ⟨cs, h0, _⟩ := h
  exact h0.lt
theorem O_typed (h : d.O e w base v xs) (k : Nat) (hk : v.ownBlock = some k) : ∃ cells, w.heap[k]? = some (.cells cells e (0, 0)) := by
  obtain ⟨cs, ⟨_, h1⟩, _⟩ := h
  rcases h1 with ⟨rfl, _⟩ | ⟨g, cap, cur, rfl, _, r2, _⟩
  · simp [Value.ownBlock] at hk
  · obtain rfl : g = k := by simpa [Value.ownBlock] using hk
    exact ⟨cur, r2⟩
theorem O_ext (hb : Below w.heap.size w w') (h : d.O e w base v xs) : d.O e w' base v xs :=
  O_mov (Keep.of_below hb) (fun k hk => hb.block k (O_lt h k hk).2) h
theorem O_alloc (o : Obj) (h : d.O e w base v xs) : d.O e (w.alloc o) base v xs := O_ext ((Below.refl _ _).alloc (Nat.le_refl _) o) h
theorem O_read (h : d.O e w base v xs) : d.S e w v xs := by
  obtain ⟨cs, ⟨h0, h1⟩, h2⟩ := h
  rcases h1 with ⟨rfl, hn⟩ | ⟨g, cap, cur, rfl, r1, r2, r3, r4, r5, r6⟩
  · obtain rfl : xs = [] := List.eq_nil_of_length_eq_zero hn
    exact S_nil d e w
  · refine ⟨some ⟨g, 0, none⟩, cap, rfl, r3, r4, fun i x hx => ?_⟩
    have hi := (List.getElem?_eq_some_iff.1 hx).1
    have hK := h2 i x hx
    refine ⟨⟨g, 0, none⟩, _, cur, (0, 0), rfl, r2, hK, fun j u hu => ?_⟩
    have hj : j < d.sz := by have := (List.getElem?_eq_some_iff.1 hu).1; rw [d.len hK] at this; exact this
    rw [List.getElem?_take, if_pos hj, List.getElem?_drop] at hu
    exact World.ownsRow.cells (base := base) (e := e) (size := d.sz) (v := .slice (some ⟨g, 0, none⟩) xs.length cap) (n := xs.length) ⟨h0, .inr ⟨g, cap, cur, rfl, r1, r2, r3, r4, r5, r6⟩⟩ (g := g) rfl _ _ hu
end
def int (k : IntKind) : Kd Int where
  sz := 1
  E := []
  K := fun _ x cs => cs = [.int k x]
  len := by rintro w x cs rfl; rfl
  one := by rintro w x cs rfl u hu; rw [List.mem_singleton.1 hu]; rfl
  mov := fun _ h => h
def slice (e : Nat) (d : Kd α) : Kd (List α) where
  sz := 1
  E := e :: d.E
  K := fun w x cs => ∃ v, cs = [v] ∧ d.S e w v x
  len := by rintro w x cs ⟨v, rfl, _⟩; rfl
  one := by rintro w x cs ⟨v, rfl, A, c, rfl, _⟩ u hu; rw [List.mem_singleton.1 hu]; rfl
  mov := by rintro w w' x cs hk ⟨v, rfl, h⟩; exact ⟨v, rfl, S_mov hk h⟩
def pair (a : Kd α) (b : Kd β) : Kd (α × β) where
  sz := a.sz + b.sz
  E := a.E ++ b.E
  K := fun w x cs => ∃ c0 c1, cs = c0 ++ c1 ∧ a.K w x.1 c0 ∧ b.K w x.2 c1
  len := by rintro w x cs ⟨c0, c1, rfl, h0, h1⟩; rw [List.length_append, a.len h0, b.len h1]
  one := by
    rintro w x cs ⟨c0, c1, rfl, h0, h1⟩ u hu
    rcases List.mem_append.1 hu with hu | hu
    · exact a.one h0 u hu
    · exact b.one h1 u hu
  mov := by rintro w w' x cs hk ⟨c0, c1, rfl, h0, h1⟩; exact ⟨c0, c1, rfl, a.mov (hk.sub fun q hq => List.mem_append_left _ hq) h0, b.mov (hk.sub fun q hq => List.mem_append_right _ hq) h1⟩
theorem O_empty (d : Kd α) (e : Nat) (w : World) {base : Nat} (hb : base ≤ w.heap.size) : d.O e (w.alloc (.cells #[] e)) base (.slice (some ⟨w.heap.size, 0, none⟩) 0 0) [] :=
  ⟨[], World.ownsRow_made w #[] 0 hb (Nat.zero_le _) (by simp), fun i x hx => by simp at hx⟩
theorem C_lit (d : Kd α) (e : Nat) {w : World} {x : α} {cs : List Value} (h : d.K w x cs) : d.C e (w.alloc (.cells cs.toArray e)) (some ⟨w.heap.size, 0, none⟩) [x] := fun i y hy => by
  obtain ⟨rfl, rfl⟩ : i = 0 ∧ x = y := by
    cases i with
    | zero => simpa using hy
    | succ i => simp at hy
  refine ⟨_, cs, cs.toArray, (0, 0), rfl, heap_alloc_new w _, d.ext ((Below.refl _ _).alloc (Nat.le_refl _) _) h, fun j u hu => ?_⟩
  have ha : (⟨w.heap.size, 0, none⟩ : Addr).add (0 * d.sz + j) = ⟨w.heap.size, j, none⟩ := by unfold Addr.add; split <;> simp_all
  rw [ha, cell_of_row (w.alloc (.cells cs.toArray e)) w.heap.size j cs.toArray e (0, 0) (heap_alloc_new w _)]
  simpa using hu
end Kd
theorem Keep.grown {α : Type} {d : Kd α} {e base : Nat} {w w' : World} {v : Value} {xs : List α} {E : List Nat} (h : d.O e w base v xs) (hg : w.grownBy w' v.ownBlock) (hE : ∀ q, q ∈ E → q ≠ e) : Keep E w w' := fun k cells q fz hk hq => by
  refine hg.block k (Array.getElem?_eq_some_iff.1 hk).1 (fun he => ?_)
  obtain ⟨cells', hc⟩ := Kd.O_typed h k he.symm
  rw [hk] at hc
  injection hc with hc
  injection hc with _ ht
  exact hE q hq ht
theorem bel_grown {α : Type} {d : Kd α} {e : Nat} {w0 w w' : World} {v : Value} {xs : List α} (hb : Below w0.heap.size w0 w) (h : d.O e w w0.heap.size v xs) (hg : w.grownBy w' v.ownBlock) : Below w0.heap.size w0 w' :=
  hb.grown hg hb.size (fun k hk => (Kd.O_lt h k hk).1)

section
variable {α : Type} {P : Program} (w : World)
theorem run_append_none (base : Nat) (t ty e : TypeId) (i : TypeInfo) (size : Nat) (ht : P.underlying t = some (.slice e)) (hi : P.info? e = some i)
    (v : Value) (n : Nat) (xs : List Value) (hown : w.ownsRow base e size v n xs) (c : Nat) : (Builtin.append_ #[t, t] ty #[v, .slice none 0 c]).run P w = .ok v w := by
  rcases hown.2 with ⟨rfl, rfl⟩ | ⟨g, cap, cur, rfl, _, _, hnc, _⟩
  · simp [Builtin.append_, run_underlying ht, sizeOf, typeInfo, hi, Builtin.lenOf, Builtin.firstCells]
  · simp [Builtin.append_, run_underlying ht, sizeOf, typeInfo, hi, Builtin.lenOf, Builtin.firstCells, hnc, storeCells]

theorem Reps.snoc {d : Kd α} {w : World} {xs ys : List α} {cs news : List Value} (h0 : cs.length = xs.length * d.sz) (h : ∀ i x, xs[i]? = some x → d.K w x ((cs.drop (i * d.sz)).take d.sz))
    (k : ∀ i x, ys[i]? = some x → d.K w x ((news.drop (i * d.sz)).take d.sz)) : ∀ i x, (xs ++ ys)[i]? = some x → d.K w x (((cs ++ news).drop (i * d.sz)).take d.sz) := fun i x hx => by
  rcases Nat.lt_or_ge i xs.length with hi | hi
  · rw [List.getElem?_append_left hi] at hx
    have h1 : i * d.sz + d.sz ≤ cs.length := by rw [h0, ← Nat.succ_mul]; exact Nat.mul_le_mul_right _ hi
    rw [List.drop_append_of_le_length (by omega), List.take_append_of_le_length (by rw [List.length_drop]; omega)]
    exact h i x hx
  · rw [List.getElem?_append_right hi] at hx
    have := k _ x hx
    rw [List.drop_append, List.drop_eq_nil_of_le (by rw [h0]; exact Nat.mul_le_mul_right _ hi), List.nil_append, h0, ← Nat.sub_mul]
    exact this

theorem Kd.C_cells {d : Kd α} {e : Nat} {ad : Addr} {xs : List α} (h : d.C e w (some ad) xs) : ∃ news : List Value, news.length = xs.length * d.sz ∧ (∀ j u, news[j]? = some u → w.cell? (ad.add j) = some u) ∧ (∀ u ∈ news, u.oneCell' = true) ∧ ∀ i x, xs[i]? = some x → d.K w x ((news.drop (i * d.sz)).take d.sz) := by
  suffices hn : ∀ n, n ≤ xs.length → ∃ news : List Value, news.length = (xs.take n).length * d.sz ∧ (∀ j u, news[j]? = some u → w.cell? (ad.add j) = some u) ∧ (∀ u ∈ news, u.oneCell' = true) ∧ ∀ i x, (xs.take n)[i]? = some x → d.K w x ((news.drop (i * d.sz)).take d.sz) by
    simpa using hn xs.length (Nat.le_refl _)
  intro n
  induction n with
  | zero => exact fun _ => ⟨[], by simp, fun j u hu => by simp at hu, fun u hu => by simp at hu, fun i x hx => by simp at hx⟩
  | succ n ih =>
    intro hl
    obtain ⟨news, h1, h2, h3, h4⟩ := ih (by omega)
    have hln : (xs.take n).length = n := List.length_take_of_le (by omega)
    obtain ⟨ad', cs, cells, fz, ea, _, hK, hc⟩ := h n xs[n] (List.getElem?_eq_getElem (by omega))
    injection ea with ea
    subst ea
    rw [List.take_succ_eq_append_getElem (by omega)]
    rw [hln] at h1
    refine ⟨news ++ cs, by rw [List.length_append, h1, d.len hK, List.length_append, Nat.add_mul, hln]; simp, fun j u hu => ?_, fun u hu => ?_, ?_⟩
    · rcases Nat.lt_or_ge j news.length with hj | hj
      · rw [List.getElem?_append_left hj] at hu
        exact h2 j u hu
      · rw [List.getElem?_append_right hj] at hu
        have := hc _ u hu
        rwa [← h1, Nat.add_sub_cancel' hj] at this
    · rcases List.mem_append.1 hu with hu | hu
      · exact h3 u hu
      · exact d.one hK u hu
    · refine Reps.snoc (by rw [hln]; exact h1) h4 (fun i x hx => ?_)
      obtain ⟨rfl, rfl⟩ : i = 0 ∧ xs[n] = x := by
        cases i with
        | zero => simpa using hx
        | succ i => simp at hx
      rw [Nat.zero_mul, List.drop_zero, List.take_of_length_le (by rw [d.len hK]; exact Nat.le_refl _)]
      exact hK

theorem run_append {d : Kd α} (base : Nat) (t ty e : TypeId) (z : Value) (bytes : Nat) (ht : P.underlying t = some (.slice e)) (hinfo : (P.info? e).map (fun i => (i.zero, i.size, i.bytes)) = some (some z, d.sz, bytes))
    (hzs : z.cells.size = d.sz) (hsz : 0 < d.sz) (v : Value) (xs : List α) (hown : d.O e w base v xs) (A : Option Addr) (ys : List α) (c : Nat) (hy : d.C e w A ys)
    (h63 : xs.length + ys.length ≤ maxLen) (hbytes : (xs.length + ys.length) * bytes ≤ 140737488355328) (hbase : base ≤ w.heap.size) (hE : ∀ q, q ∈ d.E → q ≠ e) :
    ∃ v' w', (Builtin.append_ #[t, t] ty #[v, .slice A ys.length c]).run P w = .ok v' w' ∧ d.O e w' base v' (xs ++ ys) ∧ w.grownBy w' v.ownBlock ∧ (v'.ownBlock = v.ownBlock ∨ v'.ownBlock = some w.heap.size) := by
  obtain ⟨i, hi, hz, hs, hby⟩ := info_parts hinfo
  obtain ⟨cs, ho, hr⟩ := hown
  rcases A with _ | ad
  · obtain rfl : ys = [] := by
      cases ys with
      | nil => rfl
      | cons y ys => obtain ⟨_, _, _, _, ea, _⟩ := hy 0 y rfl; cases ea
    exact ⟨v, w, run_append_none w base t ty e i d.sz ht hi v _ _ ho c, by rw [List.append_nil]; exact ⟨cs, ho, hr⟩, World.grownBy.refl w _, .inl rfl⟩
  · obtain ⟨news, h1, h2, h3, h4⟩ := Kd.C_cells w hy
    obtain ⟨v', w', hrun, k1, k2, _, k3⟩ := run_append_own_at (P := P) w base t ty e i z d.sz bytes ht hi hz hs hby hzs hsz v _ cs ho ad ys.length c news h1 h2 h3 h63 hbytes hbase
    have hk : Keep d.E w w' := Keep.grown (d := d) ⟨cs, ho, hr⟩ k2 hE
    refine ⟨v', w', hrun, ⟨cs ++ news, by rw [List.length_append]; exact k1, fun i x hx => d.mov hk (Reps.snoc ho.1 hr h4 i x hx)⟩, k2, k3⟩

theorem wp_append {d : Kd α} {ops : Array Oper} {rest : List Oper} {o : Oper} {a : Act} {Q : Exit → Act → World → Prop} (hgd : o.guard = none) (s x : Operand) (t : TypeId)
    (ho : o.op = .call { callee := .builtin .append, args := #[s, x], argTypes := #[t, t] })
    (base : Nat) (e : TypeId) (z : Value) (bytes : Nat) (ht : P.underlying t = some (.slice e)) (hinfo : (P.info? e).map (fun i => (i.zero, i.size, i.bytes)) = some (some z, d.sz, bytes))
    (hzs : z.cells.size = d.sz) (hsz : 0 < d.sz) (v : Value) (xs : List α) (hs : a.eval s = v) (hown : d.O e w base v xs) (A : Option Addr) (ys : List α) (n c : Nat) (hx : a.eval x = .slice A n c) (hn : n = ys.length) (hy : d.C e w A ys)
    (h63 : xs.length + ys.length ≤ maxLen) (hbytes : (xs.length + ys.length) * bytes ≤ 140737488355328) (hbase : base ≤ w.heap.size) (hE : ∀ q, q ∈ d.E → q ≠ e)
    (h : ∀ v' w', d.O e w' base v' (xs ++ ys) → w.grownBy w' v.ownBlock → (v'.ownBlock = v.ownBlock ∨ v'.ownBlock = some w.heap.size) → wpList P ops Q rest (a.put o.dst v') w') : wpList P ops Q (o :: rest) a w :=
  wpList_plain hgd fun K hK => by
    subst hn
    obtain ⟨v', w', hrun, h2, h3, h4⟩ := run_append (P := P) w base t o.type e z bytes ht hinfo hzs hsz v xs hown A ys c hy h63 hbytes hbase hE
    unfold Oper.wp execOp
    simp only [ho, resolve, invoke, builtin, Sem.run_bind, Sem.run_pure, Result.andThen_ok, List.map_toArray, List.map_cons, List.map_nil, hs, hx, hrun]
    exact hK _ _ (h v' w' h2 h3 h4)
end
end Go.Proofs.YtdoggcfdfkkedaaGreatDoor
namespace Go.Proofs.YtdoggcfdfkkedaaGreatDoor
open Go.RowKit
set_option linter.unusedVariables false
structure AppI {α : Type} (P : Program) (t e : TypeId) (d : Kd α) : Prop where
  und : P.underlying t = some (.slice e)
  info : ∃ z bytes, (P.info? e).map (fun i => (i.zero, i.size, i.bytes)) = some (some z, d.sz, bytes) ∧ z.cells.size = d.sz ∧ bytes ≤ 100000
  pos : 0 < d.sz
  sep : ∀ q, q ∈ d.E → q ≠ e
structure Grew {α : Type} (d : Kd α) (e : TypeId) (base : Nat) (v : Value) (xs : List α) (w : World) (v' : Value) (w' : World) : Prop where
  own : d.O e w' base v' xs
  grown : w.grownBy w' v.ownBlock
  at' : v'.ownBlock = v.ownBlock ∨ v'.ownBlock = some w.heap.size
theorem wp_app {α : Type} {P : Program} {w : World} {d : Kd α} {t e : TypeId} (I : AppI P t e d) {ops : Array Oper} {rest : List Oper} {o : Oper} {a : Act} {Q : Exit → Act → World → Prop} (hgd : o.guard = none) {s x : Operand}
    (ho : o.op = .call { callee := .builtin .append, args := #[s, x], argTypes := #[t, t] })
    {base : Nat} {v : Value} {xs : List α} (hown : d.O e w base v xs) (hs : a.eval s = v) {xv : Value} {ys : List α} (hy : d.S e w xv ys) (hx : a.eval x = xv)
    (hlen : xs.length + ys.length ≤ 1000000000) (hbase : base ≤ w.heap.size)
    (h : ∀ v' w', Grew d e base v (xs ++ ys) w v' w' → wpList P ops Q rest (a.put o.dst v') w') : wpList P ops Q (o :: rest) a w := by
  obtain ⟨z, bytes, hi, hz, hb⟩ := I.info
  obtain ⟨A, c, rfl, h1, h2, hC⟩ := hy
  refine wp_append (d := d) w hgd s x t ho base e z bytes I.und hi hz I.pos v xs hs hown A ys ys.length c hx rfl hC ?_ ?_ hbase I.sep (fun v' w' a1 a2 a3 => h v' w' ⟨a1, a2, a3⟩)
  · unfold maxLen; omega
  · exact Nat.le_trans (Nat.mul_le_mul hlen hb) (by decide)
namespace Kd
variable {α β : Type}
theorem S_lit (d : Kd α) (e : Nat) {w : World} {x : α} {cs : List Value} (h : d.K w x cs) {g : Nat} (hg : g = w.heap.size) : d.S e (w.alloc (.cells cs.toArray e)) (.slice (some ⟨g, 0, none⟩) 1 1) [x] := by
  subst hg
  exact ⟨_, 1, rfl, Nat.le_refl _, by unfold maxLen; omega, C_lit d e h⟩
theorem O_lit (d : Kd α) (e : Nat) {w : World} {x : α} {cs : List Value} (h : d.K w x cs) {g base : Nat} (hg : g = w.heap.size) (hb : base ≤ g) : d.O e (w.alloc (.cells cs.toArray e)) base (.slice (some ⟨g, 0, none⟩) 1 1) [x] := by
  subst hg
  have hl := d.len h
  refine ⟨cs, ⟨by rw [hl]; simp, .inr ⟨w.heap.size, 1, cs.toArray, rfl, hb, heap_alloc_new w _, by simp, by unfold maxLen; omega, by simp [hl], by simp [hl, List.take_of_length_le]⟩⟩, fun i y hy => ?_⟩
  obtain ⟨rfl, rfl⟩ : i = 0 ∧ x = y := by
    cases i with
    | zero => simpa using hy
    | succ i => simp at hy
  rw [Nat.zero_mul, List.drop_zero, List.take_of_length_le (by rw [hl]; exact Nat.le_refl _)]
  exact d.mov (Keep.of_below ((Below.refl _ _).alloc (Nat.le_refl _) _)) h
theorem S_alloc {d : Kd α} {e : Nat} {w : World} {v : Value} {xs : List α} (o : Obj) (h : d.S e w v xs) : d.S e (w.alloc o) v xs := S_ext ((Below.refl _ _).alloc (Nat.le_refl _) o) h
end Kd
def KeepBut (e : Nat) (w w' : World) : Prop := ∀ (k : Nat) (cells : Array Value) (q : Nat) (fz : Nat × Nat), w.heap[k]? = some (.cells cells q fz) → q ≠ e → w'.heap[k]? = w.heap[k]?
theorem KeepBut.keep {e : Nat} {w w' : World} (h : KeepBut e w w') {E : List Nat} (hE : ∀ q ∈ E, q ≠ e) : Keep E w w' := fun k c q f hk hq => h k c q f hk (hE q hq)
theorem KeepBut.of_below {e : Nat} {w w' : World} (h : Below w.heap.size w w') : KeepBut e w w' := fun k _ _ _ hk _ => h.block k (Array.getElem?_eq_some_iff.1 hk).1
theorem KeepBut.trans {e : Nat} {w w1 w2 : World} (h : KeepBut e w w1) (k : KeepBut e w1 w2) : KeepBut e w w2 := fun i c q f hi hq => (k i c q f ((h i c q f hi hq).trans hi) hq).trans (h i c q f hi hq)
theorem KeepBut.grown {α : Type} {d : Kd α} {e base : Nat} {w w' : World} {v : Value} {xs : List α} (h : d.O e w base v xs) (hg : w.grownBy w' v.ownBlock) : KeepBut e w w' := fun k cells q fz hk hq => by
  refine hg.block k (Array.getElem?_eq_some_iff.1 hk).1 (fun he => ?_)
  obtain ⟨cells', hc⟩ := Kd.O_typed h k he.symm
  rw [hk] at hc
  injection hc with hc
  injection hc with _ ht
  exact hq ht
structure Wrote (b e : Nat) (w w' : World) : Prop where
  bel : Below b w w'
  but : KeepBut e w w'
theorem Wrote.of_below {b e : Nat} {w w' : World} (hb : b ≤ w.heap.size) (h : Below w.heap.size w w') : Wrote b e w w' := ⟨h.mono hb, .of_below h⟩
theorem Wrote.trans {b e : Nat} {w w1 w2 : World} (h : Wrote b e w w1) (k : Wrote b e w1 w2) : Wrote b e w w2 := ⟨h.bel.trans k.bel, h.but.trans k.but⟩
theorem Wrote.refl (b e : Nat) (w : World) (hb : b ≤ w.heap.size) : Wrote b e w w := .of_below hb (Below.refl _ _)
theorem Wrote.grew {α : Type} {d : Kd α} {e base : Nat} {w w' : World} {v v' : Value} {xs ys : List α} (h : Grew d e base v ys w v' w') (ho : d.O e w base v xs) (hb : base ≤ w.heap.size) : Wrote base e w w' :=
  ⟨(Below.refl _ _).grown h.grown hb (fun k hk => (Kd.O_lt ho k hk).1), .grown ho h.grown⟩
theorem Wrote.S {α : Type} {b e : Nat} {w w' : World} (h : Wrote b e w w') {d : Kd α} {e2 : Nat} {v : Value} {xs : List α} (hs : d.S e2 w v xs) (hE : ∀ q ∈ e2 :: d.E, q ≠ e) : d.S e2 w' v xs := Kd.S_mov (h.but.keep hE) hs
theorem Wrote.O {α : Type} {b e : Nat} {w w' : World} (h : Wrote b e w w') {d : Kd α} {e2 b2 : Nat} {v : Value} {xs : List α} (hs : d.O e2 w b2 v xs) (hE : ∀ q ∈ e2 :: d.E, q ≠ e) : d.O e2 w' b2 v xs :=
  Kd.O_mov (h.but.keep (fun q hq => hE q (List.mem_cons_of_mem _ hq))) (fun k hk => by obtain ⟨c, hc⟩ := Kd.O_typed hs k hk; exact h.but k c e2 _ hc (hE e2 List.mem_cons_self)) hs
theorem KeepBut.S {α : Type} {e : Nat} {w w' : World} (h : KeepBut e w w') {d : Kd α} {e2 : Nat} {v : Value} {xs : List α} (hs : d.S e2 w v xs) (hE : ∀ q ∈ e2 :: d.E, q ≠ e) : d.S e2 w' v xs := Kd.S_mov (h.keep hE) hs
theorem KeepBut.O {α : Type} {e : Nat} {w w' : World} (h : KeepBut e w w') {d : Kd α} {e2 b2 : Nat} {v : Value} {xs : List α} (hs : d.O e2 w b2 v xs) (hE : ∀ q ∈ e2 :: d.E, q ≠ e) : d.O e2 w' b2 v xs :=
  Kd.O_mov (h.keep (fun q hq => hE q (List.mem_cons_of_mem _ hq))) (fun k hk => by obtain ⟨c, hc⟩ := Kd.O_typed hs k hk; exact h k c e2 _ hc (hE e2 List.mem_cons_self)) hs
theorem Grew.but {α : Type} {d : Kd α} {e : Nat} {w w' : World} {base : Nat} {v v' : Value} {xs ys : List α} (h : Grew d e base v ys w v' w') (ho : d.O e w base v xs) : KeepBut e w w' := KeepBut.grown ho h.grown
theorem Wrote.above {α : Type} {b e e2 : Nat} {w wr wr' : World} (h : Wrote b e w wr) {d : Kd α} {v v' : Value} {xs ys : List α} (hg : Grew d e2 w.heap.size v ys wr v' wr') (ho : d.O e2 wr w.heap.size v xs) (hb : b ≤ w.heap.size) : Wrote b e w wr' := by
  have hB : Below w.heap.size wr wr' := (Below.refl _ _).grown hg.grown h.bel.size (fun k hk => (Kd.O_lt ho k hk).1)
  exact ⟨h.bel.trans (hB.mono hb), fun k c q f hk hq => (hB.block k (Array.getElem?_eq_some_iff.1 hk).1).trans (h.but k c q f hk hq)⟩
theorem Wrote.alloc {b e : Nat} {w wr : World} (h : Wrote b e w wr) (hb : b ≤ w.heap.size) (o : Obj) : Wrote b e w (wr.alloc o) := h.trans (.of_below (Nat.le_trans hb h.bel.size) (bel_alloc (Below.refl _ _) o))
theorem Wrote.call {b e : Nat} {w wr w' : World} (h : Wrote b e w wr) (hb : b ≤ w.heap.size) (k : Below wr.heap.size wr w') : Wrote b e w w' := h.trans (.of_below (Nat.le_trans hb h.bel.size) k)
theorem add_zero'0 (ad : Addr) : ad.add 0 = ad := by unfold Addr.add; rw [if_pos rfl]
theorem Grew.below {α : Type} {d : Kd α} {e : Nat} {w0 w w' : World} {v v' : Value} {xs ys : List α} (h : Grew d e w0.heap.size v ys w v' w') (hb : Below w0.heap.size w0 w) (ho : d.O e w w0.heap.size v xs) : Below w0.heap.size w0 w' := bel_grown hb ho h.grown
theorem Grew.O_far {α β : Type} {d : Kd α} {e : Nat} {w w' : World} {base : Nat} {v v' : Value} {ys : List α} (h : Grew d e base v ys w v' w') {d2 : Kd β} {e2 b2 : Nat} {u : Value} {zs : List β} (ho : d2.O e2 w b2 u zs) (hne : ∀ k, u.ownBlock = some k → v.ownBlock ≠ some k) (hE : d2.E = []) : d2.O e2 w' b2 u zs :=
  Kd.O_mov (fun k c q f _ hq => by rw [hE] at hq; cases hq) (fun k hk => h.grown.block k (Kd.O_lt ho k hk).2 (fun e => hne k hk e.symm)) ho
theorem Grew.O_far' {α β : Type} {d : Kd α} {e : Nat} {w w' : World} {base : Nat} {v v' : Value} {xs ys : List α} (h : Grew d e base v ys w v' w') (hv : d.O e w base v xs) {d2 : Kd β} {e2 b2 : Nat} {u : Value} {zs : List β} (ho : d2.O e2 w b2 u zs) (hne : ∀ k, u.ownBlock = some k → v.ownBlock ≠ some k) (hE : ∀ q ∈ d2.E, q ≠ e) : d2.O e2 w' b2 u zs :=
  Kd.O_mov (Keep.grown hv h.grown hE) (fun k hk => h.grown.block k (Kd.O_lt ho k hk).2 (fun e => hne k hk e.symm)) ho
theorem Grew.apart {α β : Type} {d : Kd α} {e : Nat} {w w' : World} {base : Nat} {v v' : Value} {ys : List α} (h : Grew d e base v ys w v' w') {d2 : Kd β} {e2 b2 : Nat} {u : Value} {zs : List β} (ho : d2.O e2 w b2 u zs) (hne : ∀ k, u.ownBlock = some k → v.ownBlock ≠ some k) : ∀ k, u.ownBlock = some k → v'.ownBlock ≠ some k := fun k hk e => by
  rcases h.at' with h | h
  · rw [h] at e; exact hne k hk e
  · rw [h] at e
    have := (Kd.O_lt ho k hk).2
    have := Option.some.inj e
    omega
section
variable {α : Type} {P : Program} {w : World} {d : Kd α} {t e : TypeId} {ops : Array Oper} {rest : List Oper} {o : Oper} {a : Act} {Q : Exit → Act → World → Prop}
theorem AppI.elem (I : AppI P t e d) : P.elem t = e := by simp [Program.elem, I.und]
theorem AppI.size (I : AppI P t e d) (W : World) : (sizeOf (P.elem t)).run P W = .ok d.sz W := by
  obtain ⟨z, bytes, hi, -, -⟩ := I.info
  obtain ⟨i, hi, hz, hs, hby⟩ := info_parts hi
  rw [I.elem]
  simp [sizeOf, typeInfo, hi, hs]
theorem Kd.C_sub {A : Option Addr} {xs : List α} (h : d.C e w A xs) (l k : Nat) (h1 : l + k ≤ xs.length) : d.C e w (A.map (·.add (l * d.sz))) ((xs.drop l).take k) := fun i x hx => by
  rw [List.getElem?_take] at hx
  split at hx
  · rename_i hik
    rw [List.getElem?_drop] at hx
    obtain ⟨ad, cs, cells, fz, rfl, hh, hK, hc⟩ := h _ x hx
    refine ⟨_, cs, cells, fz, rfl, by rw [add_block]; exact hh, hK, fun j u hu => ?_⟩
    have := hc j u hu
    rwa [Nat.add_mul, Nat.add_assoc, ← add_add'] at this
  · cases hx
theorem Kd.S_sliced {A : Option Addr} {c : Nat} {xs : List α} (h : d.S e w (.slice A xs.length c) xs) {l k : Nat} (_ : l ≤ k) (h2 : k ≤ xs.length) : d.S e w (sliced A l k c d.sz) ((xs.drop l).take (k - l)) := by
  obtain ⟨A', c', ev, hc, hm, hC⟩ := h
  injection ev with e1 e2 e3
  subst e1; subst e3
  have hlen : ((xs.drop l).take (k - l)).length = k - l := by rw [List.length_take, List.length_drop]; omega
  unfold sliced
  by_cases hcl : c = l
  · rw [if_pos hcl]
    refine ⟨_, _, by rw [hlen], by omega, by omega, fun i x hx => ?_⟩
    have := (List.getElem?_eq_some_iff.1 hx).1
    omega
  · rw [if_neg hcl]
    exact ⟨_, _, by rw [hlen], by omega, by omega, Kd.C_sub hC l (k - l) (by omega)⟩
theorem wp_sub_lh (I : AppI P t e d) (hgd : o.guard = none) {x lo hi : Operand} (ho : o.op = .slice t x (some lo) (some hi) none)
    {xv : Value} {xs : List α} (hy : d.S e w xv xs) (hx : a.eval x = xv) {l k : Int} (hl : a.eval lo = .int .i64 l) (hk : a.eval hi = .int .i64 k) (h0 : 0 ≤ l) (h1 : l ≤ k) (h2 : k ≤ xs.length)
    (h : ∀ v', d.S e w v' ((xs.drop l.toNat).take (k.toNat - l.toNat)) → wpList P ops Q rest (a.put o.dst v') w) : wpList P ops Q (o :: rest) a w :=
  wpList_plain hgd fun K hK => by
    obtain ⟨A, c, rfl, hc, hm, hC⟩ := hy
    have ht : P.underlying t = some (.slice (P.elem t)) := by rw [I.elem]; exact I.und
    have hr := run_slice_lh (w := w) t A xs.length c ht .i64 .i64 l k h0 h1 (by omega)
    rw [I.size] at hr
    unfold Oper.wp execOp
    simp only [ho, Option.map_some, Option.map_none, hl, hk, hx, Sem.run_bind, Sem.run_pure, run_sliceAt_slice (h := ht), hr, Result.andThen_ok]
    exact hK _ _ (h _ (Kd.S_sliced ⟨A, c, rfl, hc, hm, hC⟩ (by omega) (by omega)))
theorem wp_sub_h (I : AppI P t e d) (hgd : o.guard = none) {x hi : Operand} (ho : o.op = .slice t x none (some hi) none)
    {xv : Value} {xs : List α} (hy : d.S e w xv xs) (hx : a.eval x = xv) {k : Int} (hk : a.eval hi = .int .i64 k) (h1 : 0 ≤ k) (h2 : k ≤ xs.length)
    (h : ∀ v', d.S e w v' (xs.take k.toNat) → wpList P ops Q rest (a.put o.dst v') w) : wpList P ops Q (o :: rest) a w :=
  wpList_plain hgd fun K hK => by
    obtain ⟨A, c, rfl, hc, hm, hC⟩ := hy
    have ht : P.underlying t = some (.slice (P.elem t)) := by rw [I.elem]; exact I.und
    have hr := run_slice_h (w := w) t A xs.length c ht .i64 k h1 (by omega)
    rw [I.size] at hr
    unfold Oper.wp execOp
    simp only [ho, Option.map_some, Option.map_none, hk, hx, Sem.run_bind, Sem.run_pure, run_sliceAt_slice (h := ht), hr, Result.andThen_ok]
    exact hK _ _ (h _ (by have := Kd.S_sliced ⟨A, c, rfl, hc, hm, hC⟩ (Nat.zero_le k.toNat) (show k.toNat ≤ xs.length by omega); rwa [List.drop_zero, Nat.sub_zero] at this))
theorem wp_sub_l (I : AppI P t e d) (hgd : o.guard = none) {x lo : Operand} (ho : o.op = .slice t x (some lo) none none)
    {xv : Value} {xs : List α} (hy : d.S e w xv xs) (hx : a.eval x = xv) {l : Int} (hl : a.eval lo = .int .i64 l) (h0 : 0 ≤ l) (h2 : l ≤ xs.length)
    (h : ∀ v', d.S e w v' (xs.drop l.toNat) → wpList P ops Q rest (a.put o.dst v') w) : wpList P ops Q (o :: rest) a w :=
  wpList_plain hgd fun K hK => by
    obtain ⟨A, c, rfl, hc, hm, hC⟩ := hy
    have ht : P.underlying t = some (.slice (P.elem t)) := by rw [I.elem]; exact I.und
    have hr := run_slice_l (w := w) t A xs.length c ht .i64 l h0 h2
    rw [I.size] at hr
    unfold Oper.wp execOp
    simp only [ho, Option.map_some, Option.map_none, hl, hx, Sem.run_bind, Sem.run_pure, run_sliceAt_slice (h := ht), hr, Result.andThen_ok]
    exact hK _ _ (h _ (by have := Kd.S_sliced ⟨A, c, rfl, hc, hm, hC⟩ (show l.toNat ≤ xs.length by omega) (Nat.le_refl _); rwa [List.take_of_length_le (by rw [List.length_drop]; exact Nat.le_refl _)] at this))
theorem Kd.O_take {base : Nat} {v : Value} {xs : List α} (h : d.O e w base v xs) {A : Option Addr} {c : Nat} (hv : v = .slice A xs.length c) (k : Nat) (hk : k ≤ xs.length) : d.O e w base (sliced A 0 k c d.sz) (xs.take k) := by
  obtain ⟨cs, ⟨h0, h1⟩, h2⟩ := h
  refine ⟨cs.take (k * d.sz), ⟨by rw [List.length_take, List.length_take, h0, Nat.min_eq_left hk, Nat.min_eq_left (Nat.mul_le_mul_right _ hk)], ?_⟩, fun i x hx => ?_⟩
  · rw [List.length_take, Nat.min_eq_left hk]
    rcases h1 with ⟨rfl, hn⟩ | ⟨g, cap, cur, rfl, r1, r2, r3, r4, r5, r6⟩
    · injection hv with e1 e2 e3
      subst e1; subst e3
      refine .inl ⟨?_, by omega⟩
      unfold sliced; simp; omega
    · injection hv with e1 e2 e3
      subst e1; subst e3
      refine .inr ⟨g, cap, cur, ?_, r1, r2, by omega, r4, r5, ?_⟩
      · unfold sliced
        split
        · simp
        · simp [add_zero'0]
      · rw [← r6, List.take_take, Nat.min_eq_left (Nat.mul_le_mul_right _ hk)]
  · rw [List.getElem?_take] at hx
    split at hx
    · rename_i hik
      have := h2 i x hx
      have hb : i * d.sz + d.sz ≤ k * d.sz := by rw [← Nat.succ_mul]; exact Nat.mul_le_mul_right _ hik
      rwa [List.drop_take, List.take_take, Nat.min_eq_left (by omega)]
    · cases hx
theorem sliced_block {A : Option Addr} {k c s : Nat} : (sliced A 0 k c s).ownBlock = (Value.slice A k c).ownBlock := by
  unfold sliced
  cases A with
  | none => split <;> rfl
  | some ad =>
    split
    · rfl
    · simp [Value.ownBlock, add_zero'0]
theorem wp_sub_own (I : AppI P t e d) (hgd : o.guard = none) {x hi : Operand} (ho : o.op = .slice t x none (some hi) none)
    {base : Nat} {xv : Value} {xs : List α} (hy : d.O e w base xv xs) (hx : a.eval x = xv) {k : Int} (hk : a.eval hi = .int .i64 k) (h1 : 0 ≤ k) (h2 : k ≤ xs.length)
    (h : ∀ v', d.O e w base v' (xs.take k.toNat) → v'.ownBlock = xv.ownBlock → wpList P ops Q rest (a.put o.dst v') w) : wpList P ops Q (o :: rest) a w :=
  wpList_plain hgd fun K hK => by
    obtain ⟨A, c, ev, hc, hm, hC⟩ := Kd.O_read hy
    have ht : P.underlying t = some (.slice (P.elem t)) := by rw [I.elem]; exact I.und
    have hr := run_slice_h (w := w) t A xs.length c ht .i64 k h1 (by omega)
    rw [I.size] at hr
    have hz := Kd.O_take hy ev k.toNat (by omega)
    have hb : (sliced A 0 k.toNat c d.sz).ownBlock = xv.ownBlock := by rw [sliced_block, ev]; cases A <;> rfl
    unfold Oper.wp execOp
    simp only [ho, Option.map_some, Option.map_none, hk, hx, ev, Sem.run_bind, Sem.run_pure, run_sliceAt_slice (h := ht), hr, Result.andThen_ok]
    exact hK _ _ (h _ hz hb)
end
end Go.Proofs.YtdoggcfdfkkedaaGreatDoor
namespace Go.Proofs.YtdoggcfdfkkedaaGreatDoor
open Go.RowKit
set_option linter.unusedVariables false
structure KI (α : Type) where
  sz : Nat
  K : World → α → List Value → Prop
  ext : ∀ {w w' : World} {x : α} {cs : List Value}, Below w.heap.size w w' → K w x cs → K w' x cs
namespace KI
variable {α : Type} {d : KI α} {w w' : World} {A : Option Addr} {v : Value} {xs : List α}
def C (d : KI α) (w : World) (A : Option Addr) (xs : List α) : Prop := ∀ i x, xs[i]? = some x → ∃ ad cs, A = some ad ∧ d.K w x cs ∧ ∀ j u, cs[j]? = some u → w.cell? (ad.add (i * d.sz + j)) = some u
def S (d : KI α) (w : World) (v : Value) (xs : List α) : Prop := ∃ A c, v = .slice A xs.length c ∧ xs.length ≤ c ∧ c ≤ maxLen ∧ d.C w A xs
theorem C_ext (hb : Below w.heap.size w w') (h : d.C w A xs) : d.C w' A xs := fun i x hx => by
  obtain ⟨ad, cs, e, hk, hc⟩ := h i x hx
  exact ⟨ad, cs, e, d.ext hb hk, fun j u hu => cell_keep hb (hc j u hu)⟩
theorem S_ext (hb : Below w.heap.size w w') (h : d.S w v xs) : d.S w' v xs := by
  obtain ⟨A, c, e, h1, h2, h3⟩ := h
  exact ⟨A, c, e, h1, h2, C_ext hb h3⟩
theorem C_at (h : d.C w A xs) {i : Nat} {x : α} (hi : xs[i]? = some x) :
    ∃ ad cs, A = some ad ∧ d.K w x cs ∧ (∀ u, cs[0]? = some u → w.cell? (ad.add (i * d.sz)) = some u) ∧ ∀ j u, cs[j + 1]? = some u → w.cell? ⟨(ad.add (i * d.sz)).block, (ad.add (i * d.sz)).off + (j + 1), none⟩ = some u := by
  obtain ⟨ad, cs, ea, hk, hc⟩ := h i x hi
  refine ⟨ad, cs, ea, hk, fun u hu => ?_, fun j u hu => ?_⟩
  · have := hc 0 u hu; rwa [Nat.add_zero] at this
  · have := hc (j + 1) u hu; rw [← add_add'] at this; exact this
theorem S_nil (d : KI α) (w : World) : d.S w (.slice none 0 0) [] := ⟨none, 0, rfl, Nat.le_refl _, Nat.zero_le _, fun i x hx => by simp at hx⟩
end KI
theorem K_at {α : Type} {d : Kd α} {e : Nat} {w : World} {A : Option Addr} {xs : List α} (h : d.C e w A xs) {i : Nat} {x : α} (hi : xs[i]? = some x) :
    ∃ ad cs, A = some ad ∧ d.K w x cs ∧ (∀ u, cs[0]? = some u → w.cell? (ad.add (i * d.sz)) = some u) ∧ ∀ j u, cs[j + 1]? = some u → w.cell? ⟨(ad.add (i * d.sz)).block, (ad.add (i * d.sz)).off + (j + 1), none⟩ = some u := by
  obtain ⟨ad, cs, _, _, ea, _, hk, hc⟩ := h i x hi
  refine ⟨ad, cs, ea, hk, fun u hu => ?_, fun j u hu => ?_⟩
  · have := hc 0 u hu; rwa [Nat.add_zero] at this
  · have := hc (j + 1) u hu; rw [← add_add'] at this; exact this
def szL {α : Type} (m : α → Nat) (xs : List α) : Nat := xs.length + (xs.map m).sum
def szD {α : Type} (m : α → Nat) (xs : List α) (k : Nat) : Nat := xs.length + ((xs.take k).map m).sum
theorem szD_zero {α : Type} (m : α → Nat) (xs : List α) : szD m xs 0 = xs.length := by simp [szD]
theorem szD_end {α : Type} (m : α → Nat) (xs : List α) {k : Nat} (h : xs.length ≤ k) : szD m xs k = szL m xs := by unfold szD szL; rw [List.take_of_length_le h]
theorem szD_succ {α : Type} (m : α → Nat) {xs : List α} {k : Nat} {x : α} (h : xs[k]? = some x) : szD m xs (k + 1) = szD m xs k + m x := by
  obtain ⟨hl, hx⟩ := List.getElem?_eq_some_iff.1 h
  unfold szD
  rw [List.take_succ_eq_append_getElem hl, hx, List.map_append, List.sum_append]
  simp; omega
theorem szL_len {α : Type} {m : α → Nat} {xs : List α} : xs.length ≤ szL m xs := Nat.le_add_right _ _
theorem szL_mem {α : Type} {m : α → Nat} : ∀ {xs : List α} {x : α}, x ∈ xs → m x ≤ szL m xs
  | y :: ys, x, h => by
    unfold szL
    simp only [List.length_cons, List.map_cons, List.sum_cons]
    rcases List.mem_cons.1 h with rfl | h
    · omega
    · have := szL_mem (m := m) h
      unfold szL at this
      omega
abbrev Left (r l : Int) (m : Nat) : Prop := -1 ≤ r ∧ r ≤ l ∧ (0 ≤ r → r + (m : Int) ≤ l)
structure Fill {α : Type} (d : Kd α) (e g : Nat) (W : World) (xs : List α) (k : Nat) : Prop where
  row : ∃ cur, W.heap[g]? = some (.cells cur e (0, 0)) ∧ cur.size = xs.length * d.sz ∧ ∀ i x, i < k → xs[i]? = some x → ∃ cs, d.K W x cs ∧ ∀ j u, cs[j]? = some u → cur[i * d.sz + j]? = some u
theorem Fill.made {α : Type} {d : Kd α} {e : Nat} {w : World} {base n : Nat} {xs : List α} {cs : List Value} (h : w.ownsRow base e d.sz (.slice (some ⟨base, 0, none⟩) n n) n cs) (hn : n = xs.length) : Fill d e base w xs 0 := by
  obtain ⟨h0, h1⟩ := h
  rcases h1 with ⟨hv, _⟩ | ⟨g, cap, cur, hv, _, r2, _, _, r5, _⟩
  · cases hv
  · injection hv with e1 e2 e3
    injection e1 with e1
    injection e1 with e1
    subst e1
    subst e3
    exact ⟨cur, r2, by rw [r5, hn], fun i x hi => by omega⟩
theorem Fill.below {α : Type} {d : Kd α} {e g : Nat} {W W' : World} {xs : List α} {k : Nat} (h : Fill d e g W xs k) (hb : Below W.heap.size W W') : Fill d e g W' xs k := by
  obtain ⟨cur, h1, h2, h3⟩ := h.row
  exact ⟨cur, box_keep h1 hb, h2, fun i x hi hx => by obtain ⟨cs, hk, hc⟩ := h3 i x hi hx; exact ⟨cs, d.ext hb hk, hc⟩⟩
theorem Fill.S {α : Type} {d : Kd α} {e g : Nat} {W : World} {xs : List α} (h : Fill d e g W xs xs.length) (hm : xs.length ≤ maxLen) : d.S e W (.slice (some ⟨g, 0, none⟩) xs.length xs.length) xs := by
  obtain ⟨cur, h1, h2, h3⟩ := h.row
  refine ⟨_, _, rfl, Nat.le_refl _, hm, fun i x hx => ?_⟩
  obtain ⟨cs, hk, hc⟩ := h3 i x (List.getElem?_eq_some_iff.1 hx).1 hx
  refine ⟨⟨g, 0, none⟩, cs, cur, (0, 0), rfl, h1, hk, fun j u hu => ?_⟩
  have e1 : (⟨g, 0, none⟩ : Addr).add (i * d.sz + j) = ⟨g, i * d.sz + j, none⟩ := by unfold Addr.add; split <;> simp_all
  rw [e1]
  have h4 := Lib.cell_of_heap h1 (i * d.sz + j)
  rw [h4, hc j u hu]
def puts (g : Nat) : World → Nat → List Value → World
  | W, _, [] => W
  | W, o, u :: us => puts g (W.setCell ⟨g, o, none⟩ u) (o + 1) us
theorem puts_heap {g e : Nat} : ∀ {us : List Value} {W : World} {o : Nat} {cur : Array Value}, W.heap[g]? = some (.cells cur e (0, 0)) → ∃ cur', (puts g W o us).heap[g]? = some (.cells cur' e (0, 0)) ∧ cur'.size = cur.size ∧
    (∀ i, i < o ∨ o + us.length ≤ i → cur'[i]? = cur[i]?) ∧ (o + us.length ≤ cur.size → ∀ j u, us[j]? = some u → cur'[o + j]? = some u)
  | [], W, o, cur, h => ⟨cur, h, rfl, fun _ _ => rfl, fun _ j u hu => by simp at hu⟩
  | u :: us, W, o, cur, h => by
    obtain ⟨cur', h1, h2, h3, h4⟩ := puts_heap (us := us) (o := o + 1) (heap_setCell_same W g o _ e u h)
    refine ⟨cur', h1, by rw [h2, Array.size_setIfInBounds], fun i hi => ?_, fun hle j v hj => ?_⟩
    · rw [h3 i (by simp only [List.length_cons] at hi; omega), Array.getElem?_setIfInBounds, if_neg (by simp only [List.length_cons] at hi; omega)]
    · simp only [List.length_cons] at hle
      cases j with
      | zero =>
        obtain rfl : u = v := by simpa using hj
        show cur'[o]? = some u
        rw [h3 o (by omega), Array.getElem?_setIfInBounds, if_pos rfl, if_pos (by omega)]
      | succ j =>
        rw [List.getElem?_cons_succ] at hj
        have := h4 (by rw [Array.size_setIfInBounds]; omega) j v hj
        rwa [show o + (j + 1) = o + 1 + j by omega]
theorem puts_other {g k : Nat} (hk : k ≠ g) : ∀ {us : List Value} {W : World} {o : Nat}, (puts g W o us).heap[k]? = W.heap[k]?
  | [], W, o => rfl
  | u :: us, W, o => (puts_other hk (us := us) (o := o + 1)).trans (heap_setCell_other W _ k u hk)
theorem Fill.step {α : Type} {d : Kd α} {e g : Nat} {W : World} {xs : List α} {k : Nat} (h : Fill d e g W xs k) (hE : ∀ q ∈ d.E, q ≠ e) {x : α} (hx : xs[k]? = some x) {us : List Value} (hK : d.K W x us) : Fill d e g (puts g W (k * d.sz) us) xs (k + 1) := by
  obtain ⟨cur, h1, h2, h3⟩ := h.row
  have hk := (List.getElem?_eq_some_iff.1 hx).1
  have hus := d.len hK
  have hle : (k + 1) * d.sz ≤ xs.length * d.sz := Nat.mul_le_mul_right _ hk
  rw [Nat.succ_mul] at hle
  obtain ⟨cur', q1, q2, q3, q4⟩ := puts_heap (us := us) (o := k * d.sz) h1
  have hkeep : Keep d.E W (puts g W (k * d.sz) us) := fun i c q f hi hq => puts_other (fun he => by subst he; rw [h1] at hi; injection hi with hi; injection hi with _ ht; exact hE q hq ht.symm)
  refine ⟨cur', q1, by rw [q2, h2], fun i y hi hy => ?_⟩
  by_cases hik : i = k
  · subst hik
    obtain rfl : x = y := Option.some.inj (hx.symm.trans hy)
    exact ⟨us, d.mov hkeep hK, fun j u hu => q4 (by rw [hus, h2]; exact hle) j u hu⟩
  · obtain ⟨cs, hk2, hc⟩ := h3 i y (by omega) hy
    refine ⟨cs, d.mov hkeep hk2, fun j u hu => ?_⟩
    have hj : j < d.sz := by have := (List.getElem?_eq_some_iff.1 hu).1; rwa [d.len hk2] at this
    have hi2 : (i + 1) * d.sz ≤ k * d.sz := Nat.mul_le_mul_right _ (by omega)
    rw [Nat.succ_mul] at hi2
    rw [q3 _ (.inl (by omega))]
    exact hc j u hu
theorem Fill.at' {α : Type} {d : Kd α} {e g : Nat} {W : World} {xs : List α} {k : Nat} (h : Fill d e g W xs k) (hk : k < xs.length) (us : List Value) (hj : us.length < d.sz) (o : Nat) (ho : o = k * d.sz + us.length) : (∃ c, (puts g W (k * d.sz) us).cell? ⟨g, o, none⟩ = some c) ∧ (puts g W (k * d.sz) us).frozen? ⟨g, o, none⟩ = false := by
  subst ho
  obtain ⟨cur, h1, h2, _⟩ := h.row
  obtain ⟨cur', q1, q2, _, _⟩ := puts_heap (us := us) (o := k * d.sz) h1
  have hle : (k + 1) * d.sz ≤ xs.length * d.sz := Nat.mul_le_mul_right _ hk
  rw [Nat.succ_mul] at hle
  refine ⟨?_, frozen_of_row _ _ _ _ _ q1⟩
  rw [Lib.cell_of_heap q1]
  exact ⟨_, Array.getElem?_eq_getElem (by rw [q2, h2]; omega)⟩
def Bx (W : World) (g t : Nat) (cs : Array Value) : Prop := W.heap[g]? = some (.cells cs t (0, 0))
theorem Bx.below {W W' : World} {g t : Nat} {cs : Array Value} (h : Bx W g t cs) (hb : Below W.heap.size W W') : Bx W' g t cs := box_keep h hb
theorem Bx.put {W : World} {g t : Nat} {cs : Array Value} (h : Bx W g t cs) (j : Nat) (u : Value) : Bx (W.setCell ⟨g, j, none⟩ u) g t (cs.setIfInBounds j u) := heap_setCell_same W g j _ t u h
theorem Bx.far {W : World} {g t : Nat} {cs : Array Value} (h : Bx W g t cs) {g' : Nat} (hne : g ≠ g') (j : Nat) (u : Value) : Bx (W.setCell ⟨g', j, none⟩ u) g t cs := (heap_setCell_other W _ g u hne).trans h
theorem Bx.cell {W : World} {g t : Nat} {cs : Array Value} (h : Bx W g t cs) (j : Nat) : W.cell? ⟨g, j, none⟩ = cs[j]? := Lib.cell_of_heap h j
theorem Bx.free {W : World} {g t : Nat} {cs : Array Value} (h : Bx W g t cs) (j : Nat) : W.frozen? ⟨g, j, none⟩ = false := frozen_of_row _ _ _ _ _ h
theorem Bx.at' {W : World} {g t : Nat} {cs : Array Value} (h : Bx W g t cs) (j : Nat) (v : Value) (hv : cs[j]? = some v) : W.cell? ⟨g, j, none⟩ = some v := (Bx.cell h j).trans hv
theorem Bx.new (w : World) (t : Nat) (cs : Array Value) : Bx (w.alloc (.cells cs t)) w.heap.size t cs := heap_alloc_new w _
theorem size_alloc (w : World) (o : Obj) : (w.alloc o).heap.size = w.heap.size + 1 := by show (w.heap.push o).size = _; exact Array.size_push _
theorem Bx.alloc {W : World} {g t : Nat} {cs : Array Value} (h : Bx W g t cs) (o : Obj) : Bx (W.alloc o) g t cs := h.below (bel_alloc (Below.refl _ _) o)
end Go.Proofs.YtdoggcfdfkkedaaGreatDoor
namespace Go.Proofs.YtdoggcfdfkkedaaGreatDoor
set_option linter.unusedVariables false
structure Cell where
  k : Int
  n : Int
  s : ByteArray
deriving DecidableEq
instance : Inhabited Cell := ⟨⟨0, 0, ByteArray.empty⟩⟩
abbrev Trm := List Cell

def lower (b : UInt8) : Bool := decide (97 ≤ b.toNat) && decide (b.toNat ≤ 122)
def nameOk (s : ByteArray) : Bool := decide (1 ≤ s.size) && decide (s.size ≤ 8) && s.data.toList.all lower && !(s.data.toList == [97, 110, 100])
def cellOk (c : Cell) : Bool :=
  if c.k = 1 then decide (0 ≤ c.n) && decide (c.n ≤ 99999) && c.s.data.toList.isEmpty
  else if c.k = 2 then decide (-9999 ≤ c.n) && decide (c.n ≤ 9999) && c.s.data.toList.isEmpty
  else if c.k = 3 then decide (0 ≤ c.n) && decide (c.n ≤ 3) && nameOk c.s
  else false
def ar (c : Cell) : Int := if c.k = 3 then c.n else 0
def skip : Nat → Trm → Option Nat
  | 0, _ => some 0
  | _ + 1, [] => none
  | m + 1, c :: t => (skip (m + (ar c).toNat) t).map (· + 1)
def sizeOf' (t : Trm) : Nat := (skip 1 t).getD (t.length + 1)
def trmOk (t : Trm) : Bool := decide (1 ≤ t.length) && decide (t.length ≤ 40) && t.all cellOk && decide (skip 1 t = some t.length)

theorem ar_of_ok {c : Cell} (h : cellOk c = true) : 0 ≤ ar c ∧ ar c ≤ 3 := by
  unfold cellOk at h; unfold ar
  split at h
  · rw [if_neg (by omega)]; omega
  · split at h
    · rw [if_neg (by omega)]; omega
    · split at h
      · rename_i h3; rw [if_pos h3]; simp at h; omega
      · simp at h
end Go.Proofs.YtdoggcfdfkkedaaGreatDoor
namespace Go.Proofs.YtdoggcfdfkkedaaGreatDoor
open Go.RowKit
set_option maxRecDepth 100000
set_option maxHeartbeats 4000000
set_option linter.unusedVariables false
def Kd.cell : Kd Cell where
  sz := 3
  E := []
  K := fun _ c cs => cs = [.int .i64 c.k, .int .i64 c.n, .string c.s]
  len := by rintro w x cs rfl; rfl
  one := by
    rintro w x cs rfl u hu
    simp only [List.mem_cons, List.mem_nil_iff, or_false] at hu
    rcases hu with rfl | rfl | rfl <;> rfl
  mov := fun _ h => h
theorem cell_at {e : Nat} {w : World} {A : Option Addr} {t : Trm} (h : Kd.cell.C e w A t) {i : Nat} {c : Cell} (hi : t[i]? = some c) :
    ∃ ad, A = some ad ∧ w.cell? (ad.add (i * 3)) = some (.int .i64 c.k) ∧ w.cell? ⟨(ad.add (i * 3)).block, (ad.add (i * 3)).off + 1, none⟩ = some (.int .i64 c.n) ∧ w.cell? ⟨(ad.add (i * 3)).block, (ad.add (i * 3)).off + 2, none⟩ = some (.string c.s) := by
  obtain ⟨ad, cs, _, _, ea, _, hk, hc⟩ := h i c hi
  obtain rfl : cs = [.int .i64 c.k, .int .i64 c.n, .string c.s] := hk
  refine ⟨ad, ea, ?_, ?_, ?_⟩
  · have := hc 0 _ rfl; rwa [Nat.add_zero] at this
  · have := hc 1 _ rfl; rw [← add_add'] at this; exact this
  · have := hc 2 _ rfl; rw [← add_add'] at this; exact this
theorem arity_c (c : Cell) (w : World) : Calls Tryz.prog 170 #[.agg #[.int .i64 c.k, .int .i64 c.n, .string c.s]] w fun e w' => e = .returned (.int .i64 (ar c)) ∧ Below w.heap.size w w' := by
  by_cases h : c.k = 3
  · have e1 : (c.k == 3) = true := beq_iff_eq.2 h
    have ha := Lib.hid (show ar c = c.n by unfold ar; rw [if_pos h])
    clear h
    go_enter Tryz.func170, Tryz.ntmps170
    go_wp2
    go_ret
    exact ⟨ret_int ha.out.symm, bel_alloc (Below.refl _ _) _⟩
  · have e1 : (c.k == 3) = false := beq_eq_false_iff_ne.2 h
    have ha := Lib.hid (show ar c = 0 by unfold ar; rw [if_neg h])
    clear h
    go_enter Tryz.func170, Tryz.ntmps170
    go_wp2
    go_ret
    exact ⟨ret_int ha.out.symm, bel_alloc (Below.refl _ _) _⟩
theorem skip_round {t : Trm} {i need : Nat} {c : Cell} (h : skip 1 t = (skip (need - i) (t.drop i)).map (i + ·)) (hlt : i < need) (hc : t[i]? = some c) (ha : 0 ≤ ar c) :
    skip 1 t = (skip ((need + (ar c).toNat) - (i + 1)) (t.drop (i + 1))).map (i + 1 + ·) := by
  have hl := (List.getElem?_eq_some_iff.1 hc).1
  rw [h, List.drop_eq_getElem_cons hl, (List.getElem?_eq_some_iff.1 hc).2]
  obtain ⟨m, hm⟩ : ∃ m, need - i = m + 1 := ⟨need - i - 1, by omega⟩
  rw [hm, skip, Option.map_map]
  have : need + (ar c).toNat - (i + 1) = m + (ar c).toNat := by omega
  rw [this]; congr 1; funext x; simp; omega
theorem skip_out {t : Trm} {i need : Nat} (h : skip 1 t = (skip (need - i) (t.drop i)).map (i + ·)) (hlt : i < need) (hi : i = t.length) : sizeOf' t = t.length + 1 := by
  obtain ⟨m, hm⟩ : ∃ m, need - i = m + 1 := ⟨need - i - 1, by omega⟩
  unfold sizeOf'; rw [h, hm, hi, List.drop_length]; simp [skip]
theorem skip_end {t : Trm} {i need : Nat} (h : skip 1 t = (skip (need - i) (t.drop i)).map (i + ·)) (hi : i = need) : sizeOf' t = need := by
  unfold sizeOf'; rw [h, hi]; simp [skip]
theorem size_c (t : Trm) (A : Option Addr) (c : Nat) (w : World) (h : Kd.cell.C 112 w A t) (ht : t.all cellOk = true) (hl : t.length ≤ 40) :
    Calls Tryz.prog 141 #[.slice A t.length c] w fun e w' => e = .returned (.int .i64 (sizeOf' t)) ∧ Below w.heap.size w w' := by
  have H := Lib.hid h
  have HT := Lib.hid ht
  clear h ht
  go_enter Tryz.func141, Tryz.ntmps141
  go_wp2
  go_loopw [3, 4] (fun v3 v4 wr => ∃ i need : Nat, v4 = .int .i64 i ∧ v3 = .int .i64 need ∧ i ≤ t.length ∧ i ≤ need ∧ need ≤ 3 * i + 1 ∧ Hid (skip 1 t = (skip (need - i) (t.drop i)).map (i + ·)) ∧ Hid (Below w.heap.size w wr)) (fun _ i _ => t.length + 1 - (intOf i).toNat)
  case atStart => exact ⟨0, 1, rfl, rfl, Nat.zero_le _, by omega, by omega, Lib.hid (by simp), Lib.hid (Below.refl _ _)⟩
  case round =>
    obtain ⟨i, need, rfl, rfl, h1, h2, h3, HS, HB⟩ := hrel
    by_cases hlt : i < need
    · by_cases hi : i = t.length
      · have hz := skip_out HS.out hlt hi
        have e1 : ((i : Int) == (t.length : Int)) = true := beq_iff_eq.2 (by omega)
        have HZ := Lib.hid hz
        clear hz
        go_wp2
        go_ret
        exact ⟨ret_int (by rw [HZ.out]; rfl), HB.out⟩
      · have e1 : ((i : Int) == (t.length : Int)) = false := beq_eq_false_iff_ne.2 (by omega)
        have hil : i < t.length := by omega
        obtain ⟨cc, hc⟩ : ∃ cc, t[i]? = some cc := ⟨_, List.getElem?_eq_getElem hil⟩
        obtain ⟨ad, rfl, a1, a2, a3⟩ := cell_at (Kd.C_ext HB.out H.out) hc
        have hr := ar_of_ok (List.all_eq_true.1 HT.out cc (List.mem_of_getElem? hc))
        have HN := Lib.hid (skip_round HS.out hlt hc hr.1)
        have HA := Lib.hid (fun W => arity_c cc W)
        obtain ⟨a, ha⟩ := Int.eq_ofNat_of_zero_le hr.1
        rw [ha] at HN hr HA
        clear hc hi ha
        go_wp2_with (go_at_call 170; refine (HA.out _).mono ?_; rintro e w' ⟨rfl, hb⟩)
        exact ⟨⟨i + 1, need + a, by go_num, by go_num, by omega, by omega, by omega, HN, Lib.hid (bel_trans HB.out hb)⟩, by simp [intOf]; omega⟩
    · have HZ := Lib.hid (skip_end HS.out (by omega))
      go_wp2
      go_ret
      exact ⟨ret_int (by rw [HZ.out]), HB.out⟩
end Go.Proofs.YtdoggcfdfkkedaaGreatDoor
namespace Go.Proofs.YtdoggcfdfkkedaaGreatDoor
set_option linter.unusedVariables false
abbrev Bs := List UInt8
def L (s : ByteArray) : Bs := s.data.toList
def B (l : Bs) : ByteArray := ⟨l.toArray⟩
def pre (cur : Bs) : List Bs → List Bs
  | [] => [cur]
  | h :: t => (cur ++ h) :: t
def valF (n : Nat) (l : Bs) : Nat := l.foldl (fun n b => n * 10 + (b.toNat - 48)) n
def val (l : Bs) : Nat := valF 0 l
end Go.Proofs.YtdoggcfdfkkedaaGreatDoor
