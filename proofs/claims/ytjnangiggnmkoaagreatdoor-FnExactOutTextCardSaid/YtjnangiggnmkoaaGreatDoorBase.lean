/- Words for memory: what cells say of data, and that it stays so where nothing old is written. -/
import Derived.Test.YtjnangiggnmkoaaGreatDoorProg
import Derived.WalkKit
import Derived.WalkSpells
import Derived.WalkLawsBesides
import Derived.KernelRfl
import Derived.RowKit3
import Derived.OwnWalk
import Derived.Below
import Derived.Deep.Draws
import Derived.Laws.OwnMore
import Derived.Maps.AppendAt
import Derived.Deep.QuietTactic
import Derived.BigQuiet
import Derived.Lib.Hide
import Derived.WalkSmall
import Derived.Laws.ResultCell
import Derived.Laws.Rows
namespace Go.Proofs.YtjnangiggnmkoaaGreatDoor
open Go.RowKit
theorem ret_int {k : IntKind} {a b : Int} (h : a = b) : Ending.returned (.int k a) = .returned (.int k b) := by rw [h]
theorem ret_bool {a b : Bool} (h : a = b) : Ending.returned (.bool a) = .returned (.bool b) := by rw [h]
theorem ret_str {a b : ByteArray} (h : a = b) : Ending.returned (.string a) = .returned (.string b) := by rw [h]
theorem cell_keep {w w' : World} (h : Below w.heap.size w w') {a : Addr} {v : Value} (hc : w.cell? a = some v) : w'.cell? a = some v :=
  (h.cell (World.block_lt_of_cell? w a hc)).trans hc
theorem bel_trans {w w1 w2 : World} (h : Below w.heap.size w w1) (k : Below w1.heap.size w1 w2) : Below w.heap.size w w2 :=
  h.trans ⟨k.os, k.tape, k.output, k.size, fun i hi => k.block i (Nat.lt_of_lt_of_le hi h.size)⟩
theorem bel_alloc {w w1 : World} (h : Below w.heap.size w w1) (o : Obj) : Below w.heap.size w (w1.alloc o) := h.alloc h.size o
theorem bel_drew {B : Nat} {w w1 : World} (h : Below B w w1) : Below B w w1.drew := ⟨h.os, h.tape, h.output, h.size, h.block⟩
theorem bel_drewN {B : Nat} {w w1 : World} (h : Below B w w1) (n : Nat) : Below B w (w1.drewN n) := ⟨h.os, h.tape, h.output, h.size, h.block⟩
theorem add_field (a : Addr) (i j : Nat) (hj : j ≠ 0) : a.add (i + j) = ⟨(a.add i).block, (a.add i).off + j, none⟩ := by
  unfold Addr.add
  rw [if_neg (by omega)]
  by_cases hi : i = 0
  · subst hi; simp
  · rw [if_neg hi]; simp [Nat.add_assoc]
theorem add_block (a : Addr) (n : Nat) : (a.add n).block = a.block := by unfold Addr.add; split <;> rfl
theorem add_add' (a : Addr) (i j : Nat) : (a.add i).add j = a.add (i + j) := by
  unfold Addr.add
  by_cases hi : i = 0 <;> by_cases hj : j = 0 <;> simp [hi, hj, Nat.add_assoc]

theorem of_drew {w w' : World} (h : Below w.drew.heap.size w.drew w') : Below w.heap.size w w' := ⟨h.os, h.tape, h.output, h.size, h.block⟩
theorem box_cell (w : World) (cs : Array Value) (e : Nat) (i : Nat) : (w.alloc (.cells cs e)).cell? ⟨w.heap.size, i, none⟩ = cs[i]? := cell_of_row _ _ i cs e (0, 0) (heap_alloc_new w _)
/-- Four cells of a block, written. -/
theorem set4 {W : World} {g t : Nat} {a b c d : Value} (x0 x1 x2 x3 : Value) (h : W.heap[g]? = some (.cells #[a, b, c, d] t (0, 0))) :
    ((((W.setCell ⟨g, 0, none⟩ x0).setCell ⟨g, 1, none⟩ x1).setCell ⟨g, 2, none⟩ x2).setCell ⟨g, 3, none⟩ x3).heap[g]? = some (.cells #[x0, x1, x2, x3] t (0, 0)) := by
  have h0 := heap_setCell_same _ g 0 _ t x0 h
  have h1 := heap_setCell_same _ g 1 _ t x1 h0
  have h2 := heap_setCell_same _ g 2 _ t x2 h1
  have h3 := heap_setCell_same _ g 3 _ t x3 h2
  exact h3
theorem bel_set4 {B : Nat} {W0 W : World} {g : Nat} (x0 x1 x2 x3 : Value) (h : Below B W0 W) (hg : B ≤ g) :
    Below B W0 ((((W.setCell ⟨g, 0, none⟩ x0).setCell ⟨g, 1, none⟩ x1).setCell ⟨g, 2, none⟩ x2).setCell ⟨g, 3, none⟩ x3) :=
  (((h.setCell hg x0).setCell hg x1).setCell hg x2).setCell hg x3
/-- The end of a body that gives back a cell's struct and a temporary. -/
theorem ret_cell_tmp {P : Program} {fn : Func} {R : Ending → World → Prop} {a : Act} {w : World} {p u : Tmp} {ty g t : Nat} {cs : Array Value} {fr : Nat × Nat} {d : TypeDesc} (h : fn.results = #[.cell p ty, .tmp u])
    (hp : a.tmps.getD p undef = .pointer (some ⟨g, 0, none⟩)) (hg : w.heap[g]? = some (.cells cs t fr))
    (hu : P.underlying ty = some d) (hd : (match d with | .struct _ | .array _ _ => true | _ => false) = true) (hi : (P.info? ty).map (·.size) = some cs.size) (hdf : a.defers = [])
    (hR : R (.returned (.tuple #[.agg cs, a.tmps.getD u undef])) w) : bodyPost P fn R .ret a w :=
  bodyPost_ret (by
    rw [results_cell_tmp h, hp]
    simp only [asAddr, Sem.run_pure, Result.andThen_ok, run_loadVar_row w g t ty cs fr d hg hu hd hi]) hdf hR
theorem box_keep {w w' : World} {g : Nat} {cs : Array Value} {e : Nat} {fz : Nat × Nat} (hb : w.heap[g]? = some (.cells cs e fz)) (h : Below w.heap.size w w') : w'.heap[g]? = some (.cells cs e fz) := (h.block g (Array.getElem?_eq_some_iff.1 hb).1).trans hb
/-- The blocks whose elements are of these types are as they were. -/
def Keep (E : List Nat) (w w' : World) : Prop := ∀ (k : Nat) (cells : Array Value) (q : Nat) (fz : Nat × Nat), w.heap[k]? = some (.cells cells q fz) → q ∈ E → w'.heap[k]? = w.heap[k]?
theorem Keep.of_below {E : List Nat} {w w' : World} (h : Below w.heap.size w w') : Keep E w w' := fun k _ _ _ hk _ => h.block k (Array.getElem?_eq_some_iff.1 hk).1
theorem Keep.sub {E E' : List Nat} {w w' : World} (h : Keep E w w') (hs : ∀ q, q ∈ E' → q ∈ E) : Keep E' w w' := fun k c q f hk hq => h k c q f hk (hs q hq)

/-- A kind of data: how many cells, which types of blocks it leads to, what the cells say. -/
structure Kd (α : Type) where
  sz : Nat
  E : List Nat
  K : World → α → List Value → Prop
  len : ∀ {w x cs}, K w x cs → cs.length = sz
  one : ∀ {w x cs}, K w x cs → ∀ u ∈ cs, u.oneCell' = true
  mov : ∀ {w w' : World} {x cs}, Keep E w w' → K w x cs → K w' x cs
namespace Kd
variable {α β : Type}
/-- The row at an address reads as a list. -/
def C (d : Kd α) (e : Nat) (w : World) (A : Option Addr) (xs : List α) : Prop :=
  ∀ i x, xs[i]? = some x → ∃ ad cs cells fz, A = some ad ∧ w.heap[ad.block]? = some (.cells cells e fz) ∧ d.K w x cs ∧ ∀ j u, cs[j]? = some u → w.cell? (ad.add (i * d.sz + j)) = some u
/-- A slice's value reads as a list. -/
def S (d : Kd α) (e : Nat) (w : World) (v : Value) (xs : List α) : Prop := ∃ A c, v = .slice A xs.length c ∧ xs.length ≤ c ∧ c ≤ maxLen ∧ d.C e w A xs
/-- A slice's value owns its row; its elements read as a list. -/
def O (d : Kd α) (e : Nat) (w : World) (base : Nat) (v : Value) (xs : List α) : Prop :=
  ∃ cs : List Value, w.ownsRow base e d.sz v xs.length cs ∧ ∀ i x, xs[i]? = some x → d.K w x ((cs.drop (i * d.sz)).take d.sz)
section
variable {d : Kd α} {e : Nat} {w w' : World} {A : Option Addr} {v : Value} {xs : List α} {base : Nat}
theorem ext (d : Kd α) {x : α} {cs : List Value} (hb : Below w.heap.size w w') (h : d.K w x cs) : d.K w' x cs := d.mov (Keep.of_below hb) h
theorem C_mov (hk : Keep (e :: d.E) w w') (h : d.C e w A xs) : d.C e w' A xs := fun i x hx => by
  obtain ⟨ad, cs, cells, fz, ea, hh, hK, hc⟩ := h i x hx
  have hb := hk _ _ _ _ hh List.mem_cons_self
  exact ⟨ad, cs, cells, fz, ea, hb.trans hh, d.mov (hk.sub fun q hq => List.mem_cons_of_mem _ hq) hK, fun j u hu => (World.cell?_of_block (by rw [add_block]; exact hb)).trans (hc j u hu)⟩
theorem C_ext (hb : Below w.heap.size w w') (h : d.C e w A xs) : d.C e w' A xs := C_mov (Keep.of_below hb) h
theorem S_mov (hk : Keep (e :: d.E) w w') (h : d.S e w v xs) : d.S e w' v xs := by
  obtain ⟨A, c, ev, h1, h2, h3⟩ := h
  exact ⟨A, c, ev, h1, h2, C_mov hk h3⟩
theorem S_ext (hb : Below w.heap.size w w') (h : d.S e w v xs) : d.S e w' v xs := S_mov (Keep.of_below hb) h
theorem C_nil (d : Kd α) (e : Nat) (w : World) (A : Option Addr) : d.C e w A [] := fun i x hx => by simp at hx
theorem S_nil (d : Kd α) (e : Nat) (w : World) : d.S e w (.slice none 0 0) [] := ⟨none, 0, rfl, Nat.le_refl _, Nat.zero_le _, C_nil d e w _⟩
theorem O_nil (d : Kd α) (e : Nat) (w : World) (base : Nat) : d.O e w base (.slice none 0 0) [] := ⟨[], World.ownsRow_nil w base e d.sz, fun i x hx => by simp at hx⟩
theorem O_mov (hk : Keep d.E w w') (hg : ∀ k, v.ownBlock = some k → w'.heap[k]? = w.heap[k]?) (h : d.O e w base v xs) : d.O e w' base v xs := by
  obtain ⟨cs, ⟨h0, h1⟩, h2⟩ := h
  refine ⟨cs, ⟨h0, ?_⟩, fun i x hx => d.mov hk (h2 i x hx)⟩
  rcases h1 with h1 | ⟨g, cap, cur, rfl, r1, r2, r3⟩
  · exact .inl h1
  · exact .inr ⟨g, cap, cur, rfl, r1, (hg g (by simp [Value.ownBlock])).trans r2, r3⟩
theorem O_lt (h : d.O e w base v xs) : ∀ k, v.ownBlock = some k → base ≤ k ∧ k < w.heap.size := by
  obtain ⟨cs, h0, _⟩ := h
  exact h0.lt
theorem O_typed (h : d.O e w base v xs) (k : Nat) (hk : v.ownBlock = some k) : ∃ cells, w.heap[k]? = some (.cells cells e (0, 0)) := by
  obtain ⟨cs, ⟨_, h1⟩, _⟩ := h
  rcases h1 with ⟨rfl, _⟩ | ⟨g, cap, cur, rfl, _, r2, _⟩
  · simp [Value.ownBlock] at hk
  · obtain rfl : g = k := by simpa [Value.ownBlock] using hk
    exact ⟨cur, r2⟩
theorem O_ext (hb : Below w.heap.size w w') (h : d.O e w base v xs) : d.O e w' base v xs :=
  O_mov (Keep.of_below hb) (fun k hk => hb.block k (O_lt h k hk).2) h
theorem O_alloc (o : Obj) (h : d.O e w base v xs) : d.O e (w.alloc o) base v xs := O_ext ((Below.refl _ _).alloc (Nat.le_refl _) o) h
theorem O_read (h : d.O e w base v xs) : d.S e w v xs := by
  obtain ⟨cs, ⟨h0, h1⟩, h2⟩ := h
  rcases h1 with ⟨rfl, hn⟩ | ⟨g, cap, cur, rfl, r1, r2, r3, r4, r5, r6⟩
  · obtain rfl : xs = [] := List.eq_nil_of_length_eq_zero hn
    exact S_nil d e w
  · refine ⟨some ⟨g, 0, none⟩, cap, rfl, r3, r4, fun i x hx => ?_⟩
    have hi := (List.getElem?_eq_some_iff.1 hx).1
    have hK := h2 i x hx
    refine ⟨⟨g, 0, none⟩, _, cur, (0, 0), rfl, r2, hK, fun j u hu => ?_⟩
    have hj : j < d.sz := by have := (List.getElem?_eq_some_iff.1 hu).1; rw [d.len hK] at this; exact this
    rw [List.getElem?_take, if_pos hj, List.getElem?_drop] at hu
    exact World.ownsRow.cells (base := base) (e := e) (size := d.sz) (v := .slice (some ⟨g, 0, none⟩) xs.length cap) (n := xs.length) ⟨h0, .inr ⟨g, cap, cur, rfl, r1, r2, r3, r4, r5, r6⟩⟩ (g := g) rfl _ _ hu
end
def int (k : IntKind) : Kd Int where
  sz := 1
  E := []
  K := fun _ x cs => cs = [.int k x]
  len := by rintro w x cs rfl; rfl
  one := by rintro w x cs rfl u hu; rw [List.mem_singleton.1 hu]; rfl
  mov := fun _ h => h
def str : Kd ByteArray where
  sz := 1
  E := []
  K := fun _ x cs => cs = [.string x]
  len := by rintro w x cs rfl; rfl
  one := by rintro w x cs rfl u hu; rw [List.mem_singleton.1 hu]; rfl
  mov := fun _ h => h
def slice (e : Nat) (d : Kd α) : Kd (List α) where
  sz := 1
  E := e :: d.E
  K := fun w x cs => ∃ v, cs = [v] ∧ d.S e w v x
  len := by rintro w x cs ⟨v, rfl, _⟩; rfl
  one := by rintro w x cs ⟨v, rfl, A, c, rfl, _⟩ u hu; rw [List.mem_singleton.1 hu]; rfl
  mov := by rintro w w' x cs hk ⟨v, rfl, h⟩; exact ⟨v, rfl, S_mov hk h⟩
def pair (a : Kd α) (b : Kd β) : Kd (α × β) where
  sz := a.sz + b.sz
  E := a.E ++ b.E
  K := fun w x cs => ∃ c0 c1, cs = c0 ++ c1 ∧ a.K w x.1 c0 ∧ b.K w x.2 c1
  len := by rintro w x cs ⟨c0, c1, rfl, h0, h1⟩; rw [List.length_append, a.len h0, b.len h1]
  one := by
    rintro w x cs ⟨c0, c1, rfl, h0, h1⟩ u hu
    rcases List.mem_append.1 hu with hu | hu
    · exact a.one h0 u hu
    · exact b.one h1 u hu
  mov := by rintro w w' x cs hk ⟨c0, c1, rfl, h0, h1⟩; exact ⟨c0, c1, rfl, a.mov (hk.sub fun q hq => List.mem_append_left _ hq) h0, b.mov (hk.sub fun q hq => List.mem_append_right _ hq) h1⟩
def iso (d : Kd α) (f : β → α) : Kd β where
  sz := d.sz
  E := d.E
  K := fun w x cs => d.K w (f x) cs
  len := d.len
  one := d.one
  mov := d.mov
theorem O_empty (d : Kd α) (e : Nat) (w : World) {base : Nat} (hb : base ≤ w.heap.size) : d.O e (w.alloc (.cells #[] e)) base (.slice (some ⟨w.heap.size, 0, none⟩) 0 0) [] :=
  ⟨[], World.ownsRow_made w #[] 0 hb (Nat.zero_le _) (by simp), fun i x hx => by simp at hx⟩
/-- A row of one element, just laid. -/
theorem C_lit (d : Kd α) (e : Nat) {w : World} {x : α} {cs : List Value} (h : d.K w x cs) : d.C e (w.alloc (.cells cs.toArray e)) (some ⟨w.heap.size, 0, none⟩) [x] := fun i y hy => by
  obtain ⟨rfl, rfl⟩ : i = 0 ∧ x = y := by
    cases i with
    | zero => simpa using hy
    | succ i => simp at hy
  refine ⟨_, cs, cs.toArray, (0, 0), rfl, heap_alloc_new w _, d.ext ((Below.refl _ _).alloc (Nat.le_refl _) _) h, fun j u hu => ?_⟩
  have ha : (⟨w.heap.size, 0, none⟩ : Addr).add (0 * d.sz + j) = ⟨w.heap.size, j, none⟩ := by unfold Addr.add; split <;> simp_all
  rw [ha, cell_of_row (w.alloc (.cells cs.toArray e)) w.heap.size j cs.toArray e (0, 0) (heap_alloc_new w _)]
  simpa using hu
end Kd
theorem Keep.grown {α : Type} {d : Kd α} {e base : Nat} {w w' : World} {v : Value} {xs : List α} {E : List Nat} (h : d.O e w base v xs) (hg : w.grownBy w' v.ownBlock) (hE : ∀ q, q ∈ E → q ≠ e) : Keep E w w' := fun k cells q fz hk hq => by
  refine hg.block k (Array.getElem?_eq_some_iff.1 hk).1 (fun he => ?_)
  obtain ⟨cells', hc⟩ := Kd.O_typed h k he.symm
  rw [hk] at hc
  injection hc with hc
  injection hc with _ ht
  exact hE q hq ht
theorem bel_grown {α : Type} {d : Kd α} {e : Nat} {w0 w w' : World} {v : Value} {xs : List α} (hb : Below w0.heap.size w0 w) (h : d.O e w w0.heap.size v xs) (hg : w.grownBy w' v.ownBlock) : Below w0.heap.size w0 w' :=
  hb.grown hg hb.size (fun k hk => (Kd.O_lt h k hk).1)

section
variable {α : Type} {P : Program} (w : World)
theorem run_append_none (base : Nat) (t ty e : TypeId) (i : TypeInfo) (size : Nat) (ht : P.underlying t = some (.slice e)) (hi : P.info? e = some i)
    (v : Value) (n : Nat) (xs : List Value) (hown : w.ownsRow base e size v n xs) (c : Nat) : (Builtin.append_ #[t, t] ty #[v, .slice none 0 c]).run P w = .ok v w := by
  rcases hown.2 with ⟨rfl, rfl⟩ | ⟨g, cap, cur, rfl, _, _, hnc, _⟩
  · simp [Builtin.append_, run_underlying ht, sizeOf, typeInfo, hi, Builtin.lenOf, Builtin.firstCells]
  · simp [Builtin.append_, run_underlying ht, sizeOf, typeInfo, hi, Builtin.lenOf, Builtin.firstCells, hnc, storeCells]

theorem Reps.snoc {d : Kd α} {w : World} {xs ys : List α} {cs news : List Value} (h0 : cs.length = xs.length * d.sz) (h : ∀ i x, xs[i]? = some x → d.K w x ((cs.drop (i * d.sz)).take d.sz))
    (k : ∀ i x, ys[i]? = some x → d.K w x ((news.drop (i * d.sz)).take d.sz)) : ∀ i x, (xs ++ ys)[i]? = some x → d.K w x (((cs ++ news).drop (i * d.sz)).take d.sz) := fun i x hx => by
  rcases Nat.lt_or_ge i xs.length with hi | hi
  · rw [List.getElem?_append_left hi] at hx
    have h1 : i * d.sz + d.sz ≤ cs.length := by rw [h0, ← Nat.succ_mul]; exact Nat.mul_le_mul_right _ hi
    rw [List.drop_append_of_le_length (by omega), List.take_append_of_le_length (by rw [List.length_drop]; omega)]
    exact h i x hx
  · rw [List.getElem?_append_right hi] at hx
    have := k _ x hx
    rw [List.drop_append, List.drop_eq_nil_of_le (by rw [h0]; exact Nat.mul_le_mul_right _ hi), List.nil_append, h0, ← Nat.sub_mul]
    exact this

/-- The cells of a row that reads as a list. -/
theorem Kd.C_cells {d : Kd α} {e : Nat} {ad : Addr} {xs : List α} (h : d.C e w (some ad) xs) : ∃ news : List Value, news.length = xs.length * d.sz ∧ (∀ j u, news[j]? = some u → w.cell? (ad.add j) = some u) ∧ (∀ u ∈ news, u.oneCell' = true) ∧ ∀ i x, xs[i]? = some x → d.K w x ((news.drop (i * d.sz)).take d.sz) := by
  suffices hn : ∀ n, n ≤ xs.length → ∃ news : List Value, news.length = (xs.take n).length * d.sz ∧ (∀ j u, news[j]? = some u → w.cell? (ad.add j) = some u) ∧ (∀ u ∈ news, u.oneCell' = true) ∧ ∀ i x, (xs.take n)[i]? = some x → d.K w x ((news.drop (i * d.sz)).take d.sz) by
    simpa using hn xs.length (Nat.le_refl _)
  intro n
  induction n with
  | zero => exact fun _ => ⟨[], by simp, fun j u hu => by simp at hu, fun u hu => by simp at hu, fun i x hx => by simp at hx⟩
  | succ n ih =>
    intro hl
    obtain ⟨news, h1, h2, h3, h4⟩ := ih (by omega)
    have hln : (xs.take n).length = n := List.length_take_of_le (by omega)
    obtain ⟨ad', cs, cells, fz, ea, _, hK, hc⟩ := h n xs[n] (List.getElem?_eq_getElem (by omega))
    injection ea with ea
    subst ea
    rw [List.take_succ_eq_append_getElem (by omega)]
    rw [hln] at h1
    refine ⟨news ++ cs, by rw [List.length_append, h1, d.len hK, List.length_append, Nat.add_mul, hln]; simp, fun j u hu => ?_, fun u hu => ?_, ?_⟩
    · rcases Nat.lt_or_ge j news.length with hj | hj
      · rw [List.getElem?_append_left hj] at hu
        exact h2 j u hu
      · rw [List.getElem?_append_right hj] at hu
        have := hc _ u hu
        rwa [← h1, Nat.add_sub_cancel' hj] at this
    · rcases List.mem_append.1 hu with hu | hu
      · exact h3 u hu
      · exact d.one hK u hu
    · refine Reps.snoc (by rw [hln]; exact h1) h4 (fun i x hx => ?_)
      obtain ⟨rfl, rfl⟩ : i = 0 ∧ xs[n] = x := by
        cases i with
        | zero => simpa using hx
        | succ i => simp at hx
      rw [Nat.zero_mul, List.drop_zero, List.take_of_length_le (by rw [d.len hK]; exact Nat.le_refl _)]
      exact hK

theorem run_append {d : Kd α} (base : Nat) (t ty e : TypeId) (z : Value) (bytes : Nat) (ht : P.underlying t = some (.slice e)) (hinfo : (P.info? e).map (fun i => (i.zero, i.size, i.bytes)) = some (some z, d.sz, bytes))
    (hzs : z.cells.size = d.sz) (hsz : 0 < d.sz) (v : Value) (xs : List α) (hown : d.O e w base v xs) (A : Option Addr) (ys : List α) (c : Nat) (hy : d.C e w A ys)
    (h63 : xs.length + ys.length ≤ maxLen) (hbytes : (xs.length + ys.length) * bytes ≤ 140737488355328) (hbase : base ≤ w.heap.size) (hE : ∀ q, q ∈ d.E → q ≠ e) :
    ∃ v' w', (Builtin.append_ #[t, t] ty #[v, .slice A ys.length c]).run P w = .ok v' w' ∧ d.O e w' base v' (xs ++ ys) ∧ w.grownBy w' v.ownBlock ∧ (v'.ownBlock = v.ownBlock ∨ v'.ownBlock = some w.heap.size) := by
  obtain ⟨i, hi, hz, hs, hby⟩ := info_parts hinfo
  obtain ⟨cs, ho, hr⟩ := hown
  rcases A with _ | ad
  · obtain rfl : ys = [] := by
      cases ys with
      | nil => rfl
      | cons y ys => obtain ⟨_, _, _, _, ea, _⟩ := hy 0 y rfl; cases ea
    exact ⟨v, w, run_append_none w base t ty e i d.sz ht hi v _ _ ho c, by rw [List.append_nil]; exact ⟨cs, ho, hr⟩, World.grownBy.refl w _, .inl rfl⟩
  · obtain ⟨news, h1, h2, h3, h4⟩ := Kd.C_cells w hy
    obtain ⟨v', w', hrun, k1, k2, _, k3⟩ := run_append_own_at (P := P) w base t ty e i z d.sz bytes ht hi hz hs hby hzs hsz v _ cs ho ad ys.length c news h1 h2 h3 h63 hbytes hbase
    have hk : Keep d.E w w' := Keep.grown (d := d) ⟨cs, ho, hr⟩ k2 hE
    refine ⟨v', w', hrun, ⟨cs ++ news, by rw [List.length_append]; exact k1, fun i x hx => d.mov hk (Reps.snoc ho.1 hr h4 i x hx)⟩, k2, k3⟩

theorem wp_append {d : Kd α} {ops : Array Oper} {rest : List Oper} {o : Oper} {a : Act} {Q : Exit → Act → World → Prop} (hgd : o.guard = none) (s x : Operand) (t : TypeId)
    (ho : o.op = .call { callee := .builtin .append, args := #[s, x], argTypes := #[t, t] })
    (base : Nat) (e : TypeId) (z : Value) (bytes : Nat) (ht : P.underlying t = some (.slice e)) (hinfo : (P.info? e).map (fun i => (i.zero, i.size, i.bytes)) = some (some z, d.sz, bytes))
    (hzs : z.cells.size = d.sz) (hsz : 0 < d.sz) (v : Value) (xs : List α) (hs : a.eval s = v) (hown : d.O e w base v xs) (A : Option Addr) (ys : List α) (n c : Nat) (hx : a.eval x = .slice A n c) (hn : n = ys.length) (hy : d.C e w A ys)
    (h63 : xs.length + ys.length ≤ maxLen) (hbytes : (xs.length + ys.length) * bytes ≤ 140737488355328) (hbase : base ≤ w.heap.size) (hE : ∀ q, q ∈ d.E → q ≠ e)
    (h : ∀ v' w', d.O e w' base v' (xs ++ ys) → w.grownBy w' v.ownBlock → (v'.ownBlock = v.ownBlock ∨ v'.ownBlock = some w.heap.size) → wpList P ops Q rest (a.put o.dst v') w') : wpList P ops Q (o :: rest) a w :=
  wpList_plain hgd fun K hK => by
    subst hn
    obtain ⟨v', w', hrun, h2, h3, h4⟩ := run_append (P := P) w base t o.type e z bytes ht hinfo hzs hsz v xs hown A ys c hy h63 hbytes hbase hE
    unfold Oper.wp execOp
    simp only [ho, resolve, invoke, builtin, Sem.run_bind, Sem.run_pure, Result.andThen_ok, List.map_toArray, List.map_cons, List.map_nil, hs, hx, hrun]
    exact hK _ _ (h v' w' h2 h3 h4)
end
end Go.Proofs.YtjnangiggnmkoaaGreatDoor
