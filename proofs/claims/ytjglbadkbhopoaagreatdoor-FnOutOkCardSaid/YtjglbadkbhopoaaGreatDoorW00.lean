/- Lemmas and contracts for FnOutOk, part 0. -/
import Derived.WalkKit
import Derived.WalkSpells
import Derived.WalkLawsBesides
import Derived.KernelRfl
import Derived.RowKit3
import Derived.OwnWalk
import Derived.Below
import Derived.Deep.Draws
import Derived.Laws.OwnMore
import Derived.Maps.AppendAt
import Derived.Deep.QuietTactic
import Derived.BigQuiet
import Derived.Lib.Hide
import Derived.WalkSmall
import Derived.Laws.ResultCell
import Derived.Laws.Rows
import Derived.Test.YtjglbadkbhopoaaGreatDoorProg
import Derived.Outline
import Derived.Deep.RegionWith
import Derived.Deep.DeepCutAuto
import Derived.Deep.CutBlock
import Derived.Lib.Split
import Derived.Lib.AtoiTie
import Derived.Lib.ItoaMem
import Derived.Laws.BytesArg
namespace Go.Proofs.YtjglbadkbhopoaaGreatDoor
set_option linter.unusedVariables false
open Go.RowKit
theorem ret_int {k : IntKind} {a b : Int} (h : a = b) : Ending.returned (.int k a) = .returned (.int k b) := by rw [h]
theorem ret_bool {a b : Bool} (h : a = b) : Ending.returned (.bool a) = .returned (.bool b) := by rw [h]
theorem ret_str {a b : ByteArray} (h : a = b) : Ending.returned (.string a) = .returned (.string b) := by rw [h]
theorem cell_keep {w w' : World} (h : Below w.heap.size w w') {a : Addr} {v : Value} (hc : w.cell? a = some v) : w'.cell? a = some v :=
  (h.cell (World.block_lt_of_cell? w a hc)).trans hc
theorem bel_trans {w w1 w2 : World} (h : Below w.heap.size w w1) (k : Below w1.heap.size w1 w2) : Below w.heap.size w w2 :=
  h.trans ⟨k.os, k.tape, k.output, k.size, fun i hi => k.block i (Nat.lt_of_lt_of_le hi h.size)⟩
theorem bel_alloc {w w1 : World} (h : Below w.heap.size w w1) (o : Obj) : Below w.heap.size w (w1.alloc o) := h.alloc h.size o
theorem bel_drew {B : Nat} {w w1 : World} (h : Below B w w1) : Below B w w1.drew := ⟨h.os, h.tape, h.output, h.size, h.block⟩
theorem bel_drewN {B : Nat} {w w1 : World} (h : Below B w w1) (n : Nat) : Below B w (w1.drewN n) := ⟨h.os, h.tape, h.output, h.size, h.block⟩
theorem add_block (a : Addr) (n : Nat) : (a.add n).block = a.block := by unfold Addr.add; split <;> rfl
theorem add_add' (a : Addr) (i j : Nat) : (a.add i).add j = a.add (i + j) := by
  unfold Addr.add
  by_cases hi : i = 0 <;> by_cases hj : j = 0 <;> simp [hi, hj, Nat.add_assoc]

theorem box_cell (w : World) (cs : Array Value) (e : Nat) (i : Nat) : (w.alloc (.cells cs e)).cell? ⟨w.heap.size, i, none⟩ = cs[i]? := cell_of_row _ _ i cs e (0, 0) (heap_alloc_new w _)
theorem ret_cell_tmp {P : Program} {fn : Func} {R : Ending → World → Prop} {a : Act} {w : World} {p u : Tmp} {ty g t : Nat} {cs : Array Value} {fr : Nat × Nat} {d : TypeDesc} (h : fn.results = #[.cell p ty, .tmp u])
    (hp : a.tmps.getD p undef = .pointer (some ⟨g, 0, none⟩)) (hg : w.heap[g]? = some (.cells cs t fr))
    (hu : P.underlying ty = some d) (hd : (match d with | .struct _ | .array _ _ => true | _ => false) = true) (hi : (P.info? ty).map (·.size) = some cs.size) (hdf : a.defers = [])
    (hR : R (.returned (.tuple #[.agg cs, a.tmps.getD u undef])) w) : bodyPost P fn R .ret a w :=
  bodyPost_ret (by
    rw [results_cell_tmp h, hp]
    simp only [asAddr, Sem.run_pure, Result.andThen_ok, run_loadVar_row w g t ty cs fr d hg hu hd hi]) hdf hR
theorem box_keep {w w' : World} {g : Nat} {cs : Array Value} {e : Nat} {fz : Nat × Nat} (hb : w.heap[g]? = some (.cells cs e fz)) (h : Below w.heap.size w w') : w'.heap[g]? = some (.cells cs e fz) := (h.block g (Array.getElem?_eq_some_iff.1 hb).1).trans hb
def Keep (E : List Nat) (w w' : World) : Prop := ∀ (k : Nat) (cells : Array Value) (q : Nat) (fz : Nat × Nat), w.heap[k]? = some (.cells cells q fz) → q ∈ E → w'.heap[k]? = w.heap[k]?
theorem Keep.of_below {E : List Nat} {w w' : World} (h : Below w.heap.size w w') : Keep E w w' := fun k _ _ _ hk _ => h.block k (Array.getElem?_eq_some_iff.1 hk).1
theorem Keep.sub {E E' : List Nat} {w w' : World} (h : Keep E w w') (hs : ∀ q, q ∈ E' → q ∈ E) : Keep E' w w' := fun k c q f hk hq => h k c q f hk (hs q hq)

structure Kd (α : Type) where
  sz : Nat
  E : List Nat
  K : World → α → List Value → Prop
  len : ∀ {w x cs}, K w x cs → cs.length = sz
  one : ∀ {w x cs}, K w x cs → ∀ u ∈ cs, u.oneCell' = true
  mov : ∀ {w w' : World} {x cs}, Keep E w w' → K w x cs → K w' x cs
namespace Kd
variable {α β : Type}
def C (d : Kd α) (e : Nat) (w : World) (A : Option Addr) (xs : List α) : Prop :=
  ∀ i x, xs[i]? = some x → ∃ ad cs cells fz, A = some ad ∧ w.heap[ad.block]? = some (.cells cells e fz) ∧ d.K w x cs ∧ ∀ j u, cs[j]? = some u → w.cell? (ad.add (i * d.sz + j)) = some u
def S (d : Kd α) (e : Nat) (w : World) (v : Value) (xs : List α) : Prop := ∃ A c, v = .slice A xs.length c ∧ xs.length ≤ c ∧ c ≤ maxLen ∧ d.C e w A xs
def O (d : Kd α) (e : Nat) (w : World) (base : Nat) (v : Value) (xs : List α) : Prop :=
  ∃ cs : List Value, w.ownsRow base e d.sz v xs.length cs ∧ ∀ i x, xs[i]? = some x → d.K w x ((cs.drop (i * d.sz)).take d.sz)
section
variable {d : Kd α} {e : Nat} {w w' : World} {A : Option Addr} {v : Value} {xs : List α} {base : Nat}
theorem ext (d : Kd α) {x : α} {cs : List Value} (hb : Below w.heap.size w w') (h : d.K w x cs) : d.K w' x cs := d.mov (Keep.of_below hb) h
theorem C_mov (hk : Keep (e :: d.E) w w') (h : d.C e w A xs) : d.C e w' A xs := fun i x hx => by
  obtain ⟨ad, cs, cells, fz, ea, hh, hK, hc⟩ := h i x hx
  have hb := hk _ _ _ _ hh List.mem_cons_self
  exact ⟨ad, cs, cells, fz, ea, hb.trans hh, d.mov (hk.sub fun q hq => List.mem_cons_of_mem _ hq) hK, fun j u hu => (World.cell?_of_block (by rw [add_block]; exact hb)).trans (hc j u hu)⟩
theorem C_ext (hb : Below w.heap.size w w') (h : d.C e w A xs) : d.C e w' A xs := C_mov (Keep.of_below hb) h
theorem S_mov (hk : Keep (e :: d.E) w w') (h : d.S e w v xs) : d.S e w' v xs := by
  obtain ⟨A, c, ev, h1, h2, h3⟩ := h
  exact ⟨A, c, ev, h1, h2, C_mov hk h3⟩
theorem S_ext (hb : Below w.heap.size w w') (h : d.S e w v xs) : d.S e w' v xs := S_mov (Keep.of_below hb) h
theorem C_nil (d : Kd α) (e : Nat) (w : World) (A : Option Addr) : d.C e w A [] := fun i x hx => by simp at hx
theorem S_nil (d : Kd α) (e : Nat) (w : World) : d.S e w (.slice none 0 0) [] := ⟨none, 0, rfl, Nat.le_refl _, Nat.zero_le _, C_nil d e w _⟩
theorem O_nil (d : Kd α) (e : Nat) (w : World) (base : Nat) : d.O e w base (.slice none 0 0) [] := ⟨[], World.ownsRow_nil w base e d.sz, fun i x hx => by simp at hx⟩
theorem O_mov (hk : Keep d.E w w') (hg : ∀ k, v.ownBlock = some k → w'.heap[k]? = w.heap[k]?) (h : d.O e w base v xs) : d.O e w' base v xs := by
  obtain ⟨cs, ⟨h0, h1⟩, h2⟩ := h
  refine ⟨cs, ⟨h0, ?_⟩, fun i x hx => d.mov hk (h2 i x hx)⟩
  rcases h1 with h1 | ⟨g, cap, cur, rfl, r1, r2, r3⟩
  · exact .inl h1
  · exact .inr ⟨g, cap, cur, rfl, r1, (hg g (by simp [Value.ownBlock])).trans r2, r3⟩
theorem O_lt (h : d.O e w base v xs) : ∀ k, v.ownBlock = some k → base ≤ k ∧ k < w.heap.size := by
  obtain ⟨cs, h0, _⟩ := h
  exact h0.lt
theorem O_typed (h : d.O e w base v xs) (k : Nat) (hk : v.ownBlock = some k) : ∃ cells, w.heap[k]? = some (.cells cells e (0, 0)) := by
  obtain ⟨cs, ⟨_, h1⟩, _⟩ := h
  rcases h1 with ⟨rfl, _⟩ | ⟨g, cap, cur, rfl, _, r2, _⟩
  · simp [Value.ownBlock] at hk
  · obtain rfl : g = k := by simpa [Value.ownBlock] using hk
    exact ⟨cur, r2⟩
theorem O_ext (hb : Below w.heap.size w w') (h : d.O e w base v xs) : d.O e w' base v xs :=
  O_mov (Keep.of_below hb) (fun k hk => hb.block k (O_lt h k hk).2) h
theorem O_alloc (o : Obj) (h : d.O e w base v xs) : d.O e (w.alloc o) base v xs := O_ext ((Below.refl _ _).alloc (Nat.le_refl _) o) h
theorem O_read (h : d.O e w base v xs) : d.S e w v xs := by
  obtain ⟨cs, ⟨h0, h1⟩, h2⟩ := h
  rcases h1 with ⟨rfl, hn⟩ | ⟨g, cap, cur, rfl, r1, r2, r3, r4, r5, r6⟩
  · obtain rfl : xs = [] := List.eq_nil_of_length_eq_zero hn
    exact S_nil d e w
  · refine ⟨some ⟨g, 0, none⟩, cap, rfl, r3, r4, fun i x hx => ?_⟩
    have hi := (List.getElem?_eq_some_iff.1 hx).1
    have hK := h2 i x hx
    refine ⟨⟨g, 0, none⟩, _, cur, (0, 0), rfl, r2, hK, fun j u hu => ?_⟩
    have hj : j < d.sz := by have := (List.getElem?_eq_some_iff.1 hu).1; rw [d.len hK] at this; exact this
    rw [List.getElem?_take, if_pos hj, List.getElem?_drop] at hu
    exact World.ownsRow.cells (base := base) (e := e) (size := d.sz) (v := .slice (some ⟨g, 0, none⟩) xs.length cap) (n := xs.length) ⟨h0, .inr ⟨g, cap, cur, rfl, r1, r2, r3, r4, r5, r6⟩⟩ (g := g) rfl _ _ hu
end
def int (k : IntKind) : Kd Int where
  sz := 1
  E := []
  K := fun _ x cs => cs = [.int k x]
  len := by rintro w x cs rfl; rfl
  one := by rintro w x cs rfl u hu; rw [List.mem_singleton.1 hu]; rfl
  mov := fun _ h => h
def str : Kd ByteArray where
  sz := 1
  E := []
  K := fun _ x cs => cs = [.string x]
  len := by rintro w x cs rfl; rfl
  one := by rintro w x cs rfl u hu; rw [List.mem_singleton.1 hu]; rfl
  mov := fun _ h => h
def slice (e : Nat) (d : Kd α) : Kd (List α) where
  sz := 1
  E := e :: d.E
  K := fun w x cs => ∃ v, cs = [v] ∧ d.S e w v x
  len := by rintro w x cs ⟨v, rfl, _⟩; rfl
  one := by rintro w x cs ⟨v, rfl, A, c, rfl, _⟩ u hu; rw [List.mem_singleton.1 hu]; rfl
  mov := by rintro w w' x cs hk ⟨v, rfl, h⟩; exact ⟨v, rfl, S_mov hk h⟩
def pair (a : Kd α) (b : Kd β) : Kd (α × β) where
  sz := a.sz + b.sz
  E := a.E ++ b.E
  K := fun w x cs => ∃ c0 c1, cs = c0 ++ c1 ∧ a.K w x.1 c0 ∧ b.K w x.2 c1
  len := by rintro w x cs ⟨c0, c1, rfl, h0, h1⟩; rw [List.length_append, a.len h0, b.len h1]
  one := by
    rintro w x cs ⟨c0, c1, rfl, h0, h1⟩ u hu
    rcases List.mem_append.1 hu with hu | hu
    · exact a.one h0 u hu
    · exact b.one h1 u hu
  mov := by rintro w w' x cs hk ⟨c0, c1, rfl, h0, h1⟩; exact ⟨c0, c1, rfl, a.mov (hk.sub fun q hq => List.mem_append_left _ hq) h0, b.mov (hk.sub fun q hq => List.mem_append_right _ hq) h1⟩
theorem O_empty (d : Kd α) (e : Nat) (w : World) {base : Nat} (hb : base ≤ w.heap.size) : d.O e (w.alloc (.cells #[] e)) base (.slice (some ⟨w.heap.size, 0, none⟩) 0 0) [] :=
  ⟨[], World.ownsRow_made w #[] 0 hb (Nat.zero_le _) (by simp), fun i x hx => by simp at hx⟩
theorem C_lit (d : Kd α) (e : Nat) {w : World} {x : α} {cs : List Value} (h : d.K w x cs) : d.C e (w.alloc (.cells cs.toArray e)) (some ⟨w.heap.size, 0, none⟩) [x] := fun i y hy => by
  obtain ⟨rfl, rfl⟩ : i = 0 ∧ x = y := by
    cases i with
    | zero => simpa using hy
    | succ i => simp at hy
  refine ⟨_, cs, cs.toArray, (0, 0), rfl, heap_alloc_new w _, d.ext ((Below.refl _ _).alloc (Nat.le_refl _) _) h, fun j u hu => ?_⟩
  have ha : (⟨w.heap.size, 0, none⟩ : Addr).add (0 * d.sz + j) = ⟨w.heap.size, j, none⟩ := by unfold Addr.add; split <;> simp_all
  rw [ha, cell_of_row (w.alloc (.cells cs.toArray e)) w.heap.size j cs.toArray e (0, 0) (heap_alloc_new w _)]
  simpa using hu
end Kd
theorem Keep.grown {α : Type} {d : Kd α} {e base : Nat} {w w' : World} {v : Value} {xs : List α} {E : List Nat} (h : d.O e w base v xs) (hg : w.grownBy w' v.ownBlock) (hE : ∀ q, q ∈ E → q ≠ e) : Keep E w w' := fun k cells q fz hk hq => by
  refine hg.block k (Array.getElem?_eq_some_iff.1 hk).1 (fun he => ?_)
  obtain ⟨cells', hc⟩ := Kd.O_typed h k he.symm
  rw [hk] at hc
  injection hc with hc
  injection hc with _ ht
  exact hE q hq ht
theorem bel_grown {α : Type} {d : Kd α} {e : Nat} {w0 w w' : World} {v : Value} {xs : List α} (hb : Below w0.heap.size w0 w) (h : d.O e w w0.heap.size v xs) (hg : w.grownBy w' v.ownBlock) : Below w0.heap.size w0 w' :=
  hb.grown hg hb.size (fun k hk => (Kd.O_lt h k hk).1)

section
variable {α : Type} {P : Program} (w : World)
theorem run_append_none (base : Nat) (t ty e : TypeId) (i : TypeInfo) (size : Nat) (ht : P.underlying t = some (.slice e)) (hi : P.info? e = some i)
    (v : Value) (n : Nat) (xs : List Value) (hown : w.ownsRow base e size v n xs) (c : Nat) : (Builtin.append_ #[t, t] ty #[v, .slice none 0 c]).run P w = .ok v w := by
  rcases hown.2 with ⟨rfl, rfl⟩ | ⟨g, cap, cur, rfl, _, _, hnc, _⟩
  · simp [Builtin.append_, run_underlying ht, sizeOf, typeInfo, hi, Builtin.lenOf, Builtin.firstCells]
  · simp [Builtin.append_, run_underlying ht, sizeOf, typeInfo, hi, Builtin.lenOf, Builtin.firstCells, hnc, storeCells]

theorem Reps.snoc {d : Kd α} {w : World} {xs ys : List α} {cs news : List Value} (h0 : cs.length = xs.length * d.sz) (h : ∀ i x, xs[i]? = some x → d.K w x ((cs.drop (i * d.sz)).take d.sz))
    (k : ∀ i x, ys[i]? = some x → d.K w x ((news.drop (i * d.sz)).take d.sz)) : ∀ i x, (xs ++ ys)[i]? = some x → d.K w x (((cs ++ news).drop (i * d.sz)).take d.sz) := fun i x hx => by
  rcases Nat.lt_or_ge i xs.length with hi | hi
  · rw [List.getElem?_append_left hi] at hx
    have h1 : i * d.sz + d.sz ≤ cs.length := by rw [h0, ← Nat.succ_mul]; exact Nat.mul_le_mul_right _ hi
    rw [List.drop_append_of_le_length (by omega), List.take_append_of_le_length (by rw [List.length_drop]; omega)]
    exact h i x hx
  · rw [List.getElem?_append_right hi] at hx
    have := k _ x hx
    rw [List.drop_append, List.drop_eq_nil_of_le (by rw [h0]; exact Nat.mul_le_mul_right _ hi), List.nil_append, h0, ← Nat.sub_mul]
    exact this

theorem Kd.C_cells {d : Kd α} {e : Nat} {ad : Addr} {xs : List α} (h : d.C e w (some ad) xs) : ∃ news : List Value, news.length = xs.length * d.sz ∧ (∀ j u, news[j]? = some u → w.cell? (ad.add j) = some u) ∧ (∀ u ∈ news, u.oneCell' = true) ∧ ∀ i x, xs[i]? = some x → d.K w x ((news.drop (i * d.sz)).take d.sz) := by
  suffices hn : ∀ n, n ≤ xs.length → ∃ news : List Value, news.length = (xs.take n).length * d.sz ∧ (∀ j u, news[j]? = some u → w.cell? (ad.add j) = some u) ∧ (∀ u ∈ news, u.oneCell' = true) ∧ ∀ i x, (xs.take n)[i]? = some x → d.K w x ((news.drop (i * d.sz)).take d.sz) by
    simpa using hn xs.length (Nat.le_refl _)
  intro n
  induction n with
  | zero => exact fun _ => ⟨[], by simp, fun j u hu => by simp at hu, fun u hu => by simp at hu, fun i x hx => by simp at hx⟩
  | succ n ih =>
    intro hl
    obtain ⟨news, h1, h2, h3, h4⟩ := ih (by omega)
    have hln : (xs.take n).length = n := List.length_take_of_le (by omega)
    obtain ⟨ad', cs, cells, fz, ea, _, hK, hc⟩ := h n xs[n] (List.getElem?_eq_getElem (by omega))
    injection ea with ea
    subst ea
    rw [List.take_succ_eq_append_getElem (by omega)]
    rw [hln] at h1
    refine ⟨news ++ cs, by rw [List.length_append, h1, d.len hK, List.length_append, Nat.add_mul, hln]; simp, fun j u hu => ?_, fun u hu => ?_, ?_⟩
    · rcases Nat.lt_or_ge j news.length with hj | hj
      · rw [List.getElem?_append_left hj] at hu
        exact h2 j u hu
      · rw [List.getElem?_append_right hj] at hu
        have := hc _ u hu
        rwa [← h1, Nat.add_sub_cancel' hj] at this
    · rcases List.mem_append.1 hu with hu | hu
      · exact h3 u hu
      · exact d.one hK u hu
    · refine Reps.snoc (by rw [hln]; exact h1) h4 (fun i x hx => ?_)
      obtain ⟨rfl, rfl⟩ : i = 0 ∧ xs[n] = x := by
        cases i with
        | zero => simpa using hx
        | succ i => simp at hx
      rw [Nat.zero_mul, List.drop_zero, List.take_of_length_le (by rw [d.len hK]; exact Nat.le_refl _)]
      exact hK

theorem run_append {d : Kd α} (base : Nat) (t ty e : TypeId) (z : Value) (bytes : Nat) (ht : P.underlying t = some (.slice e)) (hinfo : (P.info? e).map (fun i => (i.zero, i.size, i.bytes)) = some (some z, d.sz, bytes))
    (hzs : z.cells.size = d.sz) (hsz : 0 < d.sz) (v : Value) (xs : List α) (hown : d.O e w base v xs) (A : Option Addr) (ys : List α) (c : Nat) (hy : d.C e w A ys)
    (h63 : xs.length + ys.length ≤ maxLen) (hbytes : (xs.length + ys.length) * bytes ≤ 140737488355328) (hbase : base ≤ w.heap.size) (hE : ∀ q, q ∈ d.E → q ≠ e) :
    ∃ v' w', (Builtin.append_ #[t, t] ty #[v, .slice A ys.length c]).run P w = .ok v' w' ∧ d.O e w' base v' (xs ++ ys) ∧ w.grownBy w' v.ownBlock ∧ (v'.ownBlock = v.ownBlock ∨ v'.ownBlock = some w.heap.size) := by
  obtain ⟨i, hi, hz, hs, hby⟩ := info_parts hinfo
  obtain ⟨cs, ho, hr⟩ := hown
  rcases A with _ | ad
  · obtain rfl : ys = [] := by
      cases ys with
      | nil => rfl
      | cons y ys => obtain ⟨_, _, _, _, ea, _⟩ := hy 0 y rfl; cases ea
    exact ⟨v, w, run_append_none w base t ty e i d.sz ht hi v _ _ ho c, by rw [List.append_nil]; exact ⟨cs, ho, hr⟩, World.grownBy.refl w _, .inl rfl⟩
  · obtain ⟨news, h1, h2, h3, h4⟩ := Kd.C_cells w hy
    obtain ⟨v', w', hrun, k1, k2, _, k3⟩ := run_append_own_at (P := P) w base t ty e i z d.sz bytes ht hi hz hs hby hzs hsz v _ cs ho ad ys.length c news h1 h2 h3 h63 hbytes hbase
    have hk : Keep d.E w w' := Keep.grown (d := d) ⟨cs, ho, hr⟩ k2 hE
    refine ⟨v', w', hrun, ⟨cs ++ news, by rw [List.length_append]; exact k1, fun i x hx => d.mov hk (Reps.snoc ho.1 hr h4 i x hx)⟩, k2, k3⟩

theorem wp_append {d : Kd α} {ops : Array Oper} {rest : List Oper} {o : Oper} {a : Act} {Q : Exit → Act → World → Prop} (hgd : o.guard = none) (s x : Operand) (t : TypeId)
    (ho : o.op = .call { callee := .builtin .append, args := #[s, x], argTypes := #[t, t] })
    (base : Nat) (e : TypeId) (z : Value) (bytes : Nat) (ht : P.underlying t = some (.slice e)) (hinfo : (P.info? e).map (fun i => (i.zero, i.size, i.bytes)) = some (some z, d.sz, bytes))
    (hzs : z.cells.size = d.sz) (hsz : 0 < d.sz) (v : Value) (xs : List α) (hs : a.eval s = v) (hown : d.O e w base v xs) (A : Option Addr) (ys : List α) (n c : Nat) (hx : a.eval x = .slice A n c) (hn : n = ys.length) (hy : d.C e w A ys)
    (h63 : xs.length + ys.length ≤ maxLen) (hbytes : (xs.length + ys.length) * bytes ≤ 140737488355328) (hbase : base ≤ w.heap.size) (hE : ∀ q, q ∈ d.E → q ≠ e)
    (h : ∀ v' w', d.O e w' base v' (xs ++ ys) → w.grownBy w' v.ownBlock → (v'.ownBlock = v.ownBlock ∨ v'.ownBlock = some w.heap.size) → wpList P ops Q rest (a.put o.dst v') w') : wpList P ops Q (o :: rest) a w :=
  wpList_plain hgd fun K hK => by
    subst hn
    obtain ⟨v', w', hrun, h2, h3, h4⟩ := run_append (P := P) w base t o.type e z bytes ht hinfo hzs hsz v xs hown A ys c hy h63 hbytes hbase hE
    unfold Oper.wp execOp
    simp only [ho, resolve, invoke, builtin, Sem.run_bind, Sem.run_pure, Result.andThen_ok, List.map_toArray, List.map_cons, List.map_nil, hs, hx, hrun]
    exact hK _ _ (h v' w' h2 h3 h4)
end
end Go.Proofs.YtjglbadkbhopoaaGreatDoor
namespace Go.Proofs.YtjglbadkbhopoaaGreatDoor
set_option linter.unusedVariables false
structure Cell where
  k : Int
  n : Int
  s : ByteArray
deriving DecidableEq
instance : Inhabited Cell := ⟨⟨0, 0, ByteArray.empty⟩⟩
abbrev Trm := List Cell

def lower (b : UInt8) : Bool := decide (97 ≤ b.toNat) && decide (b.toNat ≤ 122)
def nameOk (s : ByteArray) : Bool := decide (1 ≤ s.size) && decide (s.size ≤ 8) && s.data.toList.all lower && !(s.data.toList == [97, 110, 100])
def cellOk (c : Cell) : Bool :=
  if c.k = 1 then decide (0 ≤ c.n) && decide (c.n ≤ 99999) && c.s.data.toList.isEmpty
  else if c.k = 2 then decide (-9999 ≤ c.n) && decide (c.n ≤ 9999) && c.s.data.toList.isEmpty
  else if c.k = 3 then decide (0 ≤ c.n) && decide (c.n ≤ 3) && nameOk c.s
  else false
def ar (c : Cell) : Int := if c.k = 3 then c.n else 0
def skip : Nat → Trm → Option Nat
  | 0, _ => some 0
  | _ + 1, [] => none
  | m + 1, c :: t => (skip (m + (ar c).toNat) t).map (· + 1)
def sizeOf' (t : Trm) : Nat := (skip 1 t).getD (t.length + 1)
def trmOk (t : Trm) : Bool := decide (1 ≤ t.length) && decide (t.length ≤ 40) && t.all cellOk && decide (skip 1 t = some t.length)

theorem ar_of_ok {c : Cell} (h : cellOk c = true) : 0 ≤ ar c ∧ ar c ≤ 3 := by
  unfold cellOk at h; unfold ar
  split at h
  · rw [if_neg (by omega)]; omega
  · split at h
    · rw [if_neg (by omega)]; omega
    · split at h
      · rename_i h3; rw [if_pos h3]; simp at h; omega
      · simp at h
end Go.Proofs.YtjglbadkbhopoaaGreatDoor
namespace Go.Proofs.YtjglbadkbhopoaaGreatDoor
open Go.RowKit
set_option maxRecDepth 100000
set_option maxHeartbeats 4000000
set_option linter.unusedVariables false
def Kd.cell : Kd Cell where
  sz := 3
  E := []
  K := fun _ c cs => cs = [.int .i64 c.k, .int .i64 c.n, .string c.s]
  len := by rintro w x cs rfl; rfl
  one := by
    rintro w x cs rfl u hu
    simp only [List.mem_cons, List.mem_nil_iff, or_false] at hu
    rcases hu with rfl | rfl | rfl <;> rfl
  mov := fun _ h => h
theorem cell_at {e : Nat} {w : World} {A : Option Addr} {t : Trm} (h : Kd.cell.C e w A t) {i : Nat} {c : Cell} (hi : t[i]? = some c) :
    ∃ ad, A = some ad ∧ w.cell? (ad.add (i * 3)) = some (.int .i64 c.k) ∧ w.cell? ⟨(ad.add (i * 3)).block, (ad.add (i * 3)).off + 1, none⟩ = some (.int .i64 c.n) ∧ w.cell? ⟨(ad.add (i * 3)).block, (ad.add (i * 3)).off + 2, none⟩ = some (.string c.s) := by
  obtain ⟨ad, cs, _, _, ea, _, hk, hc⟩ := h i c hi
  obtain rfl : cs = [.int .i64 c.k, .int .i64 c.n, .string c.s] := hk
  refine ⟨ad, ea, ?_, ?_, ?_⟩
  · have := hc 0 _ rfl; rwa [Nat.add_zero] at this
  · have := hc 1 _ rfl; rw [← add_add'] at this; exact this
  · have := hc 2 _ rfl; rw [← add_add'] at this; exact this
theorem arity_c (c : Cell) (w : World) : Calls Tryz.prog 64 #[.agg #[.int .i64 c.k, .int .i64 c.n, .string c.s]] w fun e w' => e = .returned (.int .i64 (ar c)) ∧ Below w.heap.size w w' := by
  by_cases h : c.k = 3
  · have e1 : (c.k == 3) = true := beq_iff_eq.2 h
    have ha := Lib.hid (show ar c = c.n by unfold ar; rw [if_pos h])
    clear h
    go_enter Tryz.func64, Tryz.ntmps64
    go_wp2
    go_ret
    exact ⟨ret_int ha.out.symm, bel_alloc (Below.refl _ _) _⟩
  · have e1 : (c.k == 3) = false := beq_eq_false_iff_ne.2 h
    have ha := Lib.hid (show ar c = 0 by unfold ar; rw [if_neg h])
    clear h
    go_enter Tryz.func64, Tryz.ntmps64
    go_wp2
    go_ret
    exact ⟨ret_int ha.out.symm, bel_alloc (Below.refl _ _) _⟩
theorem skip_round {t : Trm} {i need : Nat} {c : Cell} (h : skip 1 t = (skip (need - i) (t.drop i)).map (i + ·)) (hlt : i < need) (hc : t[i]? = some c) (ha : 0 ≤ ar c) :
    skip 1 t = (skip ((need + (ar c).toNat) - (i + 1)) (t.drop (i + 1))).map (i + 1 + ·) := by
  have hl := (List.getElem?_eq_some_iff.1 hc).1
  rw [h, List.drop_eq_getElem_cons hl, (List.getElem?_eq_some_iff.1 hc).2]
  obtain ⟨m, hm⟩ : ∃ m, need - i = m + 1 := ⟨need - i - 1, by omega⟩
  rw [hm, skip, Option.map_map]
  have : need + (ar c).toNat - (i + 1) = m + (ar c).toNat := by omega
  rw [this]; congr 1; funext x; simp; omega
theorem skip_out {t : Trm} {i need : Nat} (h : skip 1 t = (skip (need - i) (t.drop i)).map (i + ·)) (hlt : i < need) (hi : i = t.length) : sizeOf' t = t.length + 1 := by
  obtain ⟨m, hm⟩ : ∃ m, need - i = m + 1 := ⟨need - i - 1, by omega⟩
  unfold sizeOf'; rw [h, hm, hi, List.drop_length]; simp [skip]
theorem skip_end {t : Trm} {i need : Nat} (h : skip 1 t = (skip (need - i) (t.drop i)).map (i + ·)) (hi : i = need) : sizeOf' t = need := by
  unfold sizeOf'; rw [h, hi]; simp [skip]
theorem size_c (t : Trm) (A : Option Addr) (c : Nat) (w : World) (h : Kd.cell.C 47 w A t) (ht : t.all cellOk = true) (hl : t.length ≤ 40) :
    Calls Tryz.prog 60 #[.slice A t.length c] w fun e w' => e = .returned (.int .i64 (sizeOf' t)) ∧ Below w.heap.size w w' := by
  have H := Lib.hid h
  have HT := Lib.hid ht
  clear h ht
  go_enter Tryz.func60, Tryz.ntmps60
  go_wp2
  go_loopw [3, 4] (fun v3 v4 wr => ∃ i need : Nat, v4 = .int .i64 i ∧ v3 = .int .i64 need ∧ i ≤ t.length ∧ i ≤ need ∧ need ≤ 3 * i + 1 ∧ Hid (skip 1 t = (skip (need - i) (t.drop i)).map (i + ·)) ∧ Hid (Below w.heap.size w wr)) (fun _ i _ => t.length + 1 - (intOf i).toNat)
  case atStart => exact ⟨0, 1, rfl, rfl, Nat.zero_le _, by omega, by omega, Lib.hid (by simp), Lib.hid (Below.refl _ _)⟩
  case round =>
    obtain ⟨i, need, rfl, rfl, h1, h2, h3, HS, HB⟩ := hrel
    by_cases hlt : i < need
    · by_cases hi : i = t.length
      · have hz := skip_out HS.out hlt hi
        have e1 : ((i : Int) == (t.length : Int)) = true := beq_iff_eq.2 (by omega)
        have HZ := Lib.hid hz
        clear hz
        go_wp2
        go_ret
        exact ⟨ret_int (by rw [HZ.out]; rfl), HB.out⟩
      · have e1 : ((i : Int) == (t.length : Int)) = false := beq_eq_false_iff_ne.2 (by omega)
        have hil : i < t.length := by omega
        obtain ⟨cc, hc⟩ : ∃ cc, t[i]? = some cc := ⟨_, List.getElem?_eq_getElem hil⟩
        obtain ⟨ad, rfl, a1, a2, a3⟩ := cell_at (Kd.C_ext HB.out H.out) hc
        have hr := ar_of_ok (List.all_eq_true.1 HT.out cc (List.mem_of_getElem? hc))
        have HN := Lib.hid (skip_round HS.out hlt hc hr.1)
        have HA := Lib.hid (fun W => arity_c cc W)
        obtain ⟨a, ha⟩ := Int.eq_ofNat_of_zero_le hr.1
        rw [ha] at HN hr HA
        clear hc hi ha
        go_wp2_with (go_at_call 64; refine (HA.out _).mono ?_; rintro e w' ⟨rfl, hb⟩)
        exact ⟨⟨i + 1, need + a, by go_num, by go_num, by omega, by omega, by omega, HN, Lib.hid (bel_trans HB.out hb)⟩, by simp [intOf]; omega⟩
    · have HZ := Lib.hid (skip_end HS.out (by omega))
      go_wp2
      go_ret
      exact ⟨ret_int (by rw [HZ.out]), HB.out⟩
end Go.Proofs.YtjglbadkbhopoaaGreatDoor
namespace Go.Proofs.YtjglbadkbhopoaaGreatDoor
set_option linter.unusedVariables false
abbrev Bs := List UInt8
def L (s : ByteArray) : Bs := s.data.toList
def B (l : Bs) : ByteArray := ⟨l.toArray⟩
theorem L_B (l : Bs) : L (B l) = l := rfl
theorem B_L (s : ByteArray) : B (L s) = s := rfl
theorem L_inj {s t : ByteArray} (h : L s = L t) : s = t := by rw [← B_L s, ← B_L t, h]
theorem L_append (s t : ByteArray) : L (s ++ t) = L s ++ L t := by
  show (s ++ t).data.toList = s.data.toList ++ t.data.toList
  rw [ByteArray.data_append, Array.toList_append]
theorem L_length (s : ByteArray) : (L s).length = s.size := by
  show s.data.toList.length = s.data.size
  rw [Array.length_toList]
def pre (cur : Bs) : List Bs → List Bs
  | [] => [cur]
  | h :: t => (cur ++ h) :: t
def isDig (b : UInt8) : Bool := decide (48 ≤ b.toNat) && decide (b.toNat ≤ 57)
def valF (n : Nat) (l : Bs) : Nat := l.foldl (fun n b => n * 10 + (b.toNat - 48)) n
def val (l : Bs) : Nat := valF 0 l
theorem dec_dig (u : Nat) : (Lib.decDigits u).all isDig = true := by
  induction u using Nat.strongRecOn with
  | _ u ih =>
    rw [Lib.decDigits]
    split
    · rename_i h
      simp [isDig, UInt8.toNat_ofNat']; omega
    · rename_i h
      rw [List.all_append, ih (u / 10) (by omega)]
      simp [isDig, UInt8.toNat_ofNat']; omega
theorem dec_ne (u : Nat) : Lib.decDigits u ≠ [] := by
  rw [Lib.decDigits]; split <;> simp
theorem dec_len5 (u : Nat) : (Lib.decDigits u).length ≤ 5 ↔ u < 100000 := by
  rw [Lib.decDigits_length]
  have h1 := Lib.lt_pow_nDigits u
  constructor
  · intro h
    exact Nat.lt_of_lt_of_le h1 (Nat.le_trans (Nat.pow_le_pow_right (by omega) h) (by decide))
  · intro h
    rcases Nat.lt_or_ge 5 (Lib.nDigits u) with h5 | h5
    · exfalso
      have h6 : ∀ (u k : Nat), u < 10 ^ (k + 1) → Lib.nDigits u ≤ k + 1 := by
        intro u
        induction u using Nat.strongRecOn with
        | _ u ih =>
          intro k hk
          by_cases hu : u < 10
          · rw [Lib.nDigits_small hu]; omega
          · rw [Lib.nDigits_big hu]
            cases k with
            | zero => simp at hk; omega
            | succ k =>
              have := ih (u / 10) (by omega) k (by rw [Nat.pow_succ] at hk; omega)
              omega
      have := h6 u 4 (by simpa using h)
      omega
    · exact h5
end Go.Proofs.YtjglbadkbhopoaaGreatDoor
namespace Go.Proofs.YtjglbadkbhopoaaGreatDoor
open Go.RowKit
set_option maxRecDepth 100000
set_option maxHeartbeats 4000000
set_option linter.unusedVariables false
theorem size_B (l : Bs) : (B l).size = l.length := by rw [← L_length, L_B]
theorem byte_at (s : ByteArray) (k : Nat) (h : k < s.size) : (L s)[k]? = some s[k] := by
  have : k < s.data.toList.length := by rw [Array.length_toList]; exact h
  show s.data.toList[k]? = some s[k]
  rw [List.getElem?_eq_getElem this]; rfl
def byt (s : ByteArray) (k : Nat) : Int := if h : k < s.size then (s[k].toNat : Int) else 0
theorem byt_at (s : ByteArray) (k : Nat) : ∀ h : k < s.size, ((s[k]'h).toNat : Int) = byt s k := fun h => by simp [byt, h]
theorem conv1 (W : World) (c : Int) : (convert 22 9 (.slice (some ⟨W.heap.size, 0, none⟩) 1 1)).run Tryz.prog (W.alloc (.cells #[.int .u8 c] 5)) = .ok (.string (B [UInt8.ofNat c.toNat])) (W.alloc (.cells #[.int .u8 c] 5)) :=
  run_convert_bytes_arg (P := Tryz.prog) _ 22 5 Tryz.underlying22 Tryz.underlying5 W.heap.size 0 1 1 [c] rfl (fun i hi => by
    obtain rfl : i = 0 := by omega
    rw [Nat.add_zero, cell_of_row (W.alloc (.cells #[.int .u8 c] 5)) W.heap.size 0 _ 5 (0, 0) (heap_alloc_new W _)]; rfl) 9 Tryz.underlying9
theorem plain_c (n : Nat) (w : World) (h : n ≤ 4611686018427387904) :
    Calls Tryz.prog 83 #[.int .i64 n] w fun e w' => e = .returned (.string (B (Lib.decDigits n))) ∧ Below w.heap.size w w' := by
  go_enter Tryz.func83, Tryz.ntmps83
  go_wp2
  go_loopw [0, 3] (fun v0 v2 wr => ∃ (m : Nat) (x : ByteArray), v0 = .int .i64 m ∧ v2 = .string x ∧ m ≤ 4611686018427387904 ∧ x.size + m ≤ 4611686018427387904 ∧ Hid (Lib.decDigits n = Lib.decDigits m ++ L x) ∧ Hid (Below w.heap.size w wr)) (fun v0 _ _ => (intOf v0).toNat)
  case atStart => exact ⟨n, ⟨#[]⟩, rfl, rfl, h, by simpa [ByteArray.size] using h, Lib.hid (by simp [L]), Lib.hid (Below.refl _ _)⟩
  case round =>
    obtain ⟨m, x, rfl, rfl, hm, hx, HD, HB⟩ := hrel
    have hs1 : ∀ c : UInt8, (B [c]).size = 1 := fun c => by rw [size_B]; rfl
    by_cases hlt : 9 < m
    · have hcv := conv1 wr (48 + (m : Int) % 10)
      have HN := Lib.hid (show Lib.decDigits n = Lib.decDigits (m / 10) ++ L (B [UInt8.ofNat (48 + (m : Int) % 10).toNat] ++ x) by
        rw [HD.out, L_append, L_B, ← List.append_assoc]
        congr 1
        rw [Lib.decDigits, dif_neg (by omega)]
        congr 3)
      obtain ⟨Z, hZ⟩ : ∃ Z, B [UInt8.ofNat (48 + (m : Int) % 10).toNat] = Z := ⟨_, rfl⟩
      have hz1 : Z.size = 1 := by rw [← hZ]; exact hs1 _
      rw [hZ] at hcv HN
      clear hs1 hZ
      go_wp2
      exact ⟨⟨m / 10, Z ++ x, by go_num, rfl, by omega, by rw [ByteArray.size_append]; omega, HN, Lib.hid (bel_alloc HB.out _)⟩, by simp [intOf]; omega⟩
    · have hcv := conv1 wr (48 + (m : Int))
      have HN := Lib.hid (show B (Lib.decDigits n) = B [UInt8.ofNat (48 + (m : Int)).toNat] ++ x by
        refine L_inj ?_
        rw [HD.out, L_B, L_append, L_B, Lib.decDigits, dif_pos (by omega)]
        congr 3)
      obtain ⟨Z, hZ⟩ : ∃ Z, B [UInt8.ofNat (48 + (m : Int)).toNat] = Z := ⟨_, rfl⟩
      have hz1 : Z.size = 1 := by rw [← hZ]; exact hs1 _
      rw [hZ] at hcv HN
      clear hs1 hZ
      go_wp2
      go_ret
      exact ⟨ret_str HN.out.symm, bel_alloc HB.out _⟩
end Go.Proofs.YtjglbadkbhopoaaGreatDoor
namespace Go.Proofs.YtjglbadkbhopoaaGreatDoor
open Go.RowKit
set_option maxRecDepth 100000
set_option maxHeartbeats 4000000
set_option linter.unusedVariables false
theorem lIn_c (a lo hi : Int) (w : World) : Calls Tryz.prog 20 #[.int .i64 a, .int .i64 lo, .int .i64 hi] w fun e w' => e = .returned (.bool (decide (lo ≤ a) && decide (a ≤ hi))) ∧ w = w' := by
  by_cases h1 : lo ≤ a
  · by_cases h2 : a ≤ hi
    · have hb := Lib.hid (show (decide (lo ≤ a) && decide (a ≤ hi)) = true by rw [decide_eq_true h1, decide_eq_true h2]; rfl)
      rw [hb.out]
      go_enter Tryz.func20, Tryz.ntmps20
      go_wp2
      go_ret
      exact ⟨rfl, rfl⟩
    · have hb := Lib.hid (show (decide (lo ≤ a) && decide (a ≤ hi)) = false by rw [decide_eq_true h1, decide_eq_false h2]; rfl)
      rw [hb.out]
      go_enter Tryz.func20, Tryz.ntmps20
      go_wp2
      go_ret
      exact ⟨rfl, rfl⟩
  · have hb := Lib.hid (show (decide (lo ≤ a) && decide (a ≤ hi)) = false by rw [decide_eq_false h1]; rfl)
    rw [hb.out]
    go_enter Tryz.func20, Tryz.ntmps20
    go_wp2
    go_ret
    exact ⟨rfl, rfl⟩
theorem lower_byt {s : ByteArray} {i : Nat} (h : i < s.size) : lower s[i] = (decide (97 ≤ byt s i) && decide (byt s i ≤ 122)) := by
  rw [← byt_at s i h, lower]
  congr 1 <;> exact decide_eq_decide.2 (by omega)
theorem nameOk_all {s : ByteArray} (h1 : 1 ≤ s.size) (h2 : s.size ≤ 8) (h3 : (s.data.toList == [97, 110, 100]) = false) (h : ∀ i (hi : i < s.size), lower s[i] = true) : nameOk s = true := by
  unfold nameOk
  rw [decide_eq_true h1, decide_eq_true h2, h3]
  have : s.data.toList.all lower = true := List.all_eq_true.2 (fun b hb => by
    obtain ⟨i, hi, rfl⟩ := List.mem_iff_getElem.1 hb
    rw [Array.length_toList] at hi
    have := h i hi
    rwa [Array.getElem_toList])
  rw [this]; rfl
theorem nameOk_not {s : ByteArray} {i : Nat} (hi : i < s.size) (h : lower s[i] = false) : nameOk s = false := by
  unfold nameOk
  have : s.data.toList.all lower = false := by
    rw [Bool.eq_false_iff]
    intro ha
    have := List.all_eq_true.1 ha s[i] (List.mem_of_getElem? (byte_at s i hi))
    rw [h] at this; cases this
  rw [this]; simp
theorem name_c (s : ByteArray) (w : World) : Calls Tryz.prog 84 #[.string s] w fun e w' => e = .returned (.bool (nameOk s)) ∧ w = w' := by
  by_cases h0 : s.size = 0
  · have HV := Lib.hid (show nameOk s = false by unfold nameOk; rw [decide_eq_false (by omega)]; rfl)
    have e0 : ((s.size : Int) == 0) = true := beq_iff_eq.2 (by omega)
    go_enter Tryz.func84, Tryz.ntmps84
    go_wp2
    go_ret
    exact ⟨ret_bool HV.out.symm, rfl⟩
  have e0 : ((s.size : Int) == 0) = false := beq_eq_false_iff_ne.2 (by omega)
  by_cases h8 : 8 < s.size
  · have HV := Lib.hid (show nameOk s = false by unfold nameOk; rw [decide_eq_false (show ¬ s.size ≤ 8 by omega)]; simp)
    have e8 : decide ((8 : Int) < s.size) = true := decide_eq_true (by omega)
    go_enter Tryz.func84, Tryz.ntmps84
    go_wp2
    go_ret
    exact ⟨ret_bool HV.out.symm, rfl⟩
  have e8 : decide ((8 : Int) < s.size) = false := decide_eq_false (by omega)
  by_cases ha : s = ⟨#[97, 110, 100]⟩
  · subst ha
    have HV := Lib.hid (show nameOk ⟨#[97, 110, 100]⟩ = false by decide +kernel)
    go_enter Tryz.func84, Tryz.ntmps84
    go_wp2
    go_ret
    exact ⟨ret_bool HV.out.symm, rfl⟩
  have hne : (s.toList == [97, 110, 100]) = false := by
    rw [Lib.toList_data]
    exact beq_eq_false_iff_ne.2 (fun e => ha (ByteArray.ext (Array.toList_inj.1 e)))
  have HA := Lib.hid (show (s.data.toList == [97, 110, 100]) = false from beq_eq_false_iff_ne.2 (fun e => ha (ByteArray.ext (Array.toList_inj.1 e))))
  clear ha
  go_enter Tryz.func84, Tryz.ntmps84
  go_wp2
  go_loop [3] (fun v3 => ∃ i : Nat, v3 = .int .i64 i ∧ i ≤ s.size ∧ Hid (∀ j (hj : j < s.size), j < i → lower s[j] = true)) (fun v3 => s.size - (intOf v3).toNat)
  case atStart => exact ⟨0, rfl, by omega, Lib.hid (fun j _ h => by omega)⟩
  case round =>
    obtain ⟨i, rfl, hi, HJ⟩ := hrel
    by_cases hlt : i < s.size
    · have hx := byt_at s i
      by_cases h97 : byt s i < 97
      · have HV := Lib.hid (nameOk_not hlt (by rw [lower_byt hlt, decide_eq_false (by omega)]; rfl))
        go_wp2
        go_ret
        exact ⟨ret_bool HV.out.symm, rfl⟩
      · by_cases h122 : 122 < byt s i
        · have HV := Lib.hid (nameOk_not hlt (by rw [lower_byt hlt, decide_eq_false (show ¬ byt s i ≤ 122 by omega)]; simp))
          go_wp2
          go_ret
          exact ⟨ret_bool HV.out.symm, rfl⟩
        · have HN := Lib.hid (show ∀ j (hj : j < s.size), j < i + 1 → lower s[j] = true from fun j hj h => by
            rcases Nat.lt_or_ge j i with h' | h'
            · exact HJ.out j hj h'
            · obtain rfl : j = i := by omega
              rw [lower_byt hlt, decide_eq_true (by omega), decide_eq_true (by omega)]; rfl)
          go_wp2
          exact ⟨⟨i + 1, by go_num, by omega, HN⟩, by simp [intOf]; omega⟩
    · have HV := Lib.hid (nameOk_all (by omega) (by omega) HA.out (fun j hj => HJ.out j hj (by omega)))
      go_wp2
      go_ret
      exact ⟨ret_bool HV.out.symm, rfl⟩
theorem cellOk_c (c : Cell) (w : World) : Calls Tryz.prog 50 #[.agg #[.int .i64 c.k, .int .i64 c.n, .string c.s]] w fun e w' => e = .returned (.bool (cellOk c)) ∧ Below w.heap.size w w' := by
  have HN := Lib.hid (fun W => name_c c.s W)
  by_cases h1 : c.k = 1
  · have e1 : (c.k == 1) = true := beq_iff_eq.2 h1
    have HV := Lib.hid (show cellOk c = ((decide (0 ≤ c.n) && decide (c.n ≤ 99999)) && c.s.toList.isEmpty) by unfold cellOk; rw [if_pos h1, Lib.toList_data])
    obtain ⟨q, hq⟩ : ∃ q, (decide (0 ≤ c.n) && decide (c.n ≤ 99999)) = q := ⟨_, rfl⟩
    have HI2 := Lib.hid (fun W => lIn_c c.n (0) 99999 W)
    rw [hq] at HI2 HV
    clear HN hq
    cases q
    all_goals
      go_enter Tryz.func50, Tryz.ntmps50
      go_wp2_with (go_at_call 20; refine (HI2.out _).mono ?_; rintro e w1 ⟨rfl, rfl⟩)
      go_ret
      exact ⟨ret_bool (by rw [HV.out]; simp), bel_alloc (Below.refl _ _) _⟩
  by_cases h2 : c.k = 2
  · have e2 : (c.k == 2) = true := beq_iff_eq.2 h2
    have n1 : (c.k == 1) = false := beq_eq_false_iff_ne.2 (by omega)
    have HV := Lib.hid (show cellOk c = ((decide (-9999 ≤ c.n) && decide (c.n ≤ 9999)) && c.s.toList.isEmpty) by unfold cellOk; rw [if_neg (by omega)]; rw [if_pos h2, Lib.toList_data])
    obtain ⟨q, hq⟩ : ∃ q, (decide (-9999 ≤ c.n) && decide (c.n ≤ 9999)) = q := ⟨_, rfl⟩
    have HI2 := Lib.hid (fun W => lIn_c c.n (-9999) 9999 W)
    rw [hq] at HI2 HV
    clear HN hq
    cases q
    all_goals
      go_enter Tryz.func50, Tryz.ntmps50
      go_wp2_with (go_at_call 20; refine (HI2.out _).mono ?_; rintro e w1 ⟨rfl, rfl⟩)
      go_ret
      exact ⟨ret_bool (by rw [HV.out]; simp), bel_alloc (Below.refl _ _) _⟩
  by_cases h3 : c.k = 3
  · have e3 : (c.k == 3) = true := beq_iff_eq.2 h3
    have n1 : (c.k == 1) = false := beq_eq_false_iff_ne.2 (by omega)
    have n2 : (c.k == 2) = false := beq_eq_false_iff_ne.2 (by omega)
    have HV := Lib.hid (show cellOk c = ((decide (0 ≤ c.n) && decide (c.n ≤ 3)) && nameOk c.s) by unfold cellOk; rw [if_neg h1, if_neg h2, if_pos h3])
    obtain ⟨q, hq⟩ : ∃ q, (decide (0 ≤ c.n) && decide (c.n ≤ 3)) = q := ⟨_, rfl⟩
    have HI2 := Lib.hid (fun W => lIn_c c.n 0 3 W)
    rw [hq] at HI2 HV
    clear hq
    cases q
    all_goals
      go_enter Tryz.func50, Tryz.ntmps50
      go_wp2_with (first | (go_at_call 20; refine (HI2.out _).mono ?_; rintro e w1 ⟨rfl, rfl⟩) | (go_at_call 84; refine (HN.out _).mono ?_; rintro e w1 ⟨rfl, rfl⟩))
      go_ret
      exact ⟨ret_bool (by rw [HV.out]; simp), bel_alloc (Below.refl _ _) _⟩
  · have n1 : (c.k == 1) = false := beq_eq_false_iff_ne.2 h1
    have n2 : (c.k == 2) = false := beq_eq_false_iff_ne.2 h2
    have n3 : (c.k == 3) = false := beq_eq_false_iff_ne.2 h3
    have HV := Lib.hid (show cellOk c = false by unfold cellOk; rw [if_neg h1, if_neg h2, if_neg h3])
    go_enter Tryz.func50, Tryz.ntmps50
    go_wp2
    go_ret
    exact ⟨ret_bool HV.out.symm, bel_alloc (Below.refl _ _) _⟩
theorem skip_step {t : Trm} {k open' : Nat} {R : Option Nat} {at0 : Nat} {c : Cell} (h : R = (skip open' (t.drop k)).map (k - at0 + ·)) (hk : at0 ≤ k) (ho : 0 < open') (hc : t[k]? = some c) :
    R = (skip (open' - 1 + (ar c).toNat) (t.drop (k + 1))).map (k + 1 - at0 + ·) := by
  have hl := (List.getElem?_eq_some_iff.1 hc).1
  rw [h, List.drop_eq_getElem_cons hl, (List.getElem?_eq_some_iff.1 hc).2]
  obtain ⟨m, rfl⟩ : ∃ m, open' = m + 1 := ⟨open' - 1, by omega⟩
  rw [skip, Option.map_map]
  have e : m + 1 - 1 + (ar c).toNat = m + (ar c).toNat := by omega
  rw [e]; congr 1; funext x; simp; omega
def endAt (t : Trm) (k : Nat) : Int := match skip 1 (t.drop k) with
  | some n => (k + n : Nat)
  | none => -1
theorem end_c (t : Trm) (A : Option Addr) (c at0 : Nat) (w : World) (h : Kd.cell.C 47 w A t) (ht : t.all cellOk = true) (hl : t.length ≤ 1000) (ha : at0 ≤ t.length) :
    Calls Tryz.prog 51 #[.slice A t.length c, .int .i64 at0] w fun e w' => e = .returned (.int .i64 (endAt t at0)) ∧ w = w' := by
  have H := Lib.hid h
  have HT := Lib.hid ht
  clear h ht
  go_enter Tryz.func51, Tryz.ntmps51
  go_wp2
  go_loop [5, 6] (fun v5 v6 => ∃ o k : Nat, v5 = .int .i64 o ∧ v6 = .int .i64 k ∧ at0 ≤ k ∧ k ≤ t.length ∧ o ≤ 3 * k + 1 ∧ Hid (skip 1 (t.drop at0) = (skip o (t.drop k)).map (k - at0 + ·))) (fun _ v6 => t.length + 1 - (intOf v6).toNat)
  case atStart => exact ⟨1, at0, rfl, rfl, Nat.le_refl _, ha, by omega, Lib.hid (by simp)⟩
  case round =>
    obtain ⟨o, k, rfl, rfl, hk1, hk2, ho, HS⟩ := hrel
    by_cases h0 : 0 < o
    · by_cases hlt : k < t.length
      · obtain ⟨cc, hc⟩ : ∃ cc, t[k]? = some cc := ⟨_, List.getElem?_eq_getElem hlt⟩
        obtain ⟨ad, rfl, a1, a2, -⟩ := cell_at H.out hc
        have hr := ar_of_ok (List.all_eq_true.1 HT.out cc (List.mem_of_getElem? hc))
        have HN := Lib.hid (skip_step HS.out hk1 h0 hc)
        obtain ⟨a, hav⟩ := Int.eq_ofNat_of_zero_le hr.1
        rw [hav] at HN hr
        by_cases h3 : cc.k = 3
        · have e3 : (cc.k == 3) = true := beq_iff_eq.2 h3
          have en : cc.n = a := by rw [← hav]; unfold ar; rw [if_pos h3]
          rw [en] at a2
          clear hc hav h3 en
          go_wp2
          exact ⟨⟨o - 1 + a, k + 1, by go_num, by go_num, by omega, by omega, by omega, HN⟩, by simp [intOf]; omega⟩
        · have e3 : (cc.k == 3) = false := beq_eq_false_iff_ne.2 h3
          have en : a = 0 := by have : (a : Int) = 0 := by rw [← hav]; unfold ar; rw [if_neg h3]
                                omega
          subst en
          clear hc hav h3
          go_wp2
          exact ⟨⟨o - 1, k + 1, by go_num, by go_num, by omega, by omega, by omega, HN⟩, by simp [intOf]; omega⟩
      · have HV := Lib.hid (show endAt t at0 = -1 by
          unfold endAt; rw [HS.out, show k = t.length by omega, List.drop_length]
          obtain ⟨m, rfl⟩ : ∃ m, o = m + 1 := ⟨o - 1, by omega⟩
          rfl)
        go_wp2
        go_ret
        exact ⟨ret_int HV.out.symm, rfl⟩
    · have HV := Lib.hid (show endAt t at0 = (k : Int) by
        obtain rfl : o = 0 := by omega
        unfold endAt; rw [HS.out, show skip 0 (t.drop k) = some 0 by simp [skip]]
        show ((at0 + (k - at0 + 0) : Nat) : Int) = k
        omega)
      go_wp2
      go_ret
      exact ⟨ret_int HV.out.symm, rfl⟩
theorem endAt_all (t : Trm) : (endAt t 0 = t.length) ↔ skip 1 t = some t.length := by
  unfold endAt
  rw [List.drop_zero]
  cases h : skip 1 t with
  | none =>
    constructor
    · intro e; have e : (-1 : Int) = t.length := e; omega
    · intro e; cases e
  | some n =>
    constructor
    · intro e; have e : ((0 + n : Nat) : Int) = t.length := e; congr 1; omega
    · intro e; obtain rfl := Option.some.inj e; show ((0 + t.length : Nat) : Int) = t.length; omega
theorem trmOk_c (t : Trm) (A : Option Addr) (c : Nat) (w : World) (h : Kd.cell.C 47 w A t) (hl : t.length ≤ 1000000000) :
    Calls Tryz.prog 21 #[.slice A t.length c] w fun e w' => e = .returned (.bool (trmOk t)) ∧ Below w.heap.size w w' := by
  by_cases h0 : t.length = 0
  · have e0 : ((t.length : Int) == 0) = true := beq_iff_eq.2 (by omega)
    have HV := Lib.hid (show trmOk t = false by unfold trmOk; rw [decide_eq_false (by omega)]; rfl)
    go_enter Tryz.func21, Tryz.ntmps21
    go_wp2
    go_ret
    exact ⟨ret_bool HV.out.symm, Below.refl _ _⟩
  have e0 : ((t.length : Int) == 0) = false := beq_eq_false_iff_ne.2 (by omega)
  by_cases h40 : 40 < t.length
  · have e40 : decide ((40 : Int) < t.length) = true := decide_eq_true (by omega)
    have HV := Lib.hid (show trmOk t = false by unfold trmOk; rw [decide_eq_false (show ¬ t.length ≤ 40 by omega)]; simp)
    go_enter Tryz.func21, Tryz.ntmps21
    go_wp2
    go_ret
    exact ⟨ret_bool HV.out.symm, Below.refl _ _⟩
  have e40 : decide ((40 : Int) < t.length) = false := decide_eq_false (by omega)
  have H := Lib.hid h
  clear h
  go_enter Tryz.func21, Tryz.ntmps21
  go_wp2
  go_loopw [3] (fun v3 wr => ∃ k : Nat, v3 = .int .i64 k ∧ k ≤ t.length ∧ Hid (∀ j c, j < k → t[j]? = some c → cellOk c = true) ∧ Hid (Below w.heap.size w wr)) (fun v3 _ => t.length - (intOf v3).toNat)
  case atStart => exact ⟨0, rfl, Nat.zero_le _, Lib.hid (fun j c h => by omega), Lib.hid (Below.refl _ _)⟩
  case round =>
    obtain ⟨k, rfl, hk, HJ, HB⟩ := hrel
    by_cases hlt : k < t.length
    · obtain ⟨cc, hc⟩ : ∃ cc, t[k]? = some cc := ⟨_, List.getElem?_eq_getElem hlt⟩
      obtain ⟨ad, rfl, a1, a2, a3⟩ := cell_at (Kd.C_ext HB.out H.out) hc
      have HA := Lib.hid (fun W => cellOk_c cc W)
      cases hq : cellOk cc with
      | false =>
        have HV := Lib.hid (show trmOk t = false by
          unfold trmOk
          have : t.all cellOk = false := by
            rw [Bool.eq_false_iff]; intro ha
            have := List.all_eq_true.1 ha cc (List.mem_of_getElem? hc)
            rw [hq] at this; cases this
          rw [this]; simp)
        rw [hq] at HA
        clear hq hc
        go_wp2_with (go_at_call 50; refine (HA.out _).mono ?_; rintro e w1 ⟨rfl, hb⟩)
        go_ret
        exact ⟨ret_bool HV.out.symm, bel_trans HB.out hb⟩
      | true =>
        have HN := Lib.hid (show ∀ j c, j < k + 1 → t[j]? = some c → cellOk c = true from fun j c' hj hc' => by
          rcases Nat.lt_or_ge j k with h' | h'
          · exact HJ.out j c' h' hc'
          · obtain rfl : j = k := by omega
            rw [hc] at hc'; obtain rfl := Option.some.inj hc'; exact hq)
        rw [hq] at HA
        clear hq hc
        go_wp2_with (go_at_call 50; refine (HA.out _).mono ?_; rintro e w1 ⟨rfl, hb⟩)
        exact ⟨⟨k + 1, by go_num, by omega, HN, Lib.hid (bel_trans HB.out hb)⟩, by simp [intOf]; omega⟩
    · have hall : t.all cellOk = true := List.all_eq_true.2 (fun c hc => by
        obtain ⟨j, hj, rfl⟩ := List.mem_iff_getElem.1 hc
        exact HJ.out j _ (by omega) (List.getElem?_eq_getElem hj))
      have HE := Lib.hid (end_c t A c 0 wr (Kd.C_ext HB.out H.out) hall (by omega) (Nat.zero_le _))
      by_cases hs : skip 1 t = some t.length
      · have HV := Lib.hid (show trmOk t = true by unfold trmOk; rw [decide_eq_true (by omega), decide_eq_true (by omega), hall, decide_eq_true hs]; rfl)
        rw [(endAt_all t).2 hs] at HE
        clear hs hall
        go_wp2_with (go_at_call 51; refine HE.out.mono ?_; rintro e w1 ⟨rfl, rfl⟩)
        go_ret
        exact ⟨ret_bool (by rw [HV.out]), HB.out⟩
      · have HV := Lib.hid (show trmOk t = false by unfold trmOk; rw [decide_eq_false hs]; simp)
        have hne : (endAt t 0 == (t.length : Int)) = false := beq_eq_false_iff_ne.2 (fun e => hs ((endAt_all t).1 e))
        obtain ⟨z, hz⟩ : ∃ z, endAt t 0 = z := ⟨_, rfl⟩
        rw [hz] at HE hne
        clear hs hall hz
        go_wp2_with (go_at_call 51; refine HE.out.mono ?_; rintro e w1 ⟨rfl, rfl⟩)
        go_ret
        exact ⟨ret_bool (by rw [HV.out]), HB.out⟩
end Go.Proofs.YtjglbadkbhopoaaGreatDoor
namespace Go.Proofs.YtjglbadkbhopoaaGreatDoor
set_option linter.unusedVariables false
def place (xs : List Int) (n : Int) : Int := match xs with
  | [] => -1
  | x :: xs => if x = n then 0 else if place xs n < 0 then -1 else place xs n + 1
def freeStep (out : List Int) (c : Cell) : List Int := if c.k = 1 ∧ c.n ∉ out then out ++ [c.n] else out
def free (t : Trm) : List Int := t.foldl freeStep []
def canon (t : Trm) : Trm := t.map fun c => if c.k = 1 then { c with n := place (free t) c.n } else c
def shift (t : Trm) (n : Int) : Trm := t.map fun c => if c.k = 1 then { c with n := c.n + n } else c
theorem place_ge (xs : List Int) (n : Int) : -1 ≤ place xs n ∧ place xs n < xs.length := by
  induction xs with
  | nil => simp [place]
  | cons x xs ih =>
    unfold place
    split
    · exact ⟨by omega, by simp only [List.length_cons]; omega⟩
    · split
      · exact ⟨by omega, by simp only [List.length_cons]; omega⟩
      · exact ⟨by omega, by simp only [List.length_cons]; omega⟩
theorem place_hit : ∀ {xs : List Int} {n : Int} {k : Nat}, xs[k]? = some n → (∀ j, j < k → xs[j]? ≠ some n) → place xs n = k
  | [], n, k, h, _ => by simp at h
  | x :: xs, n, 0, h, _ => by
    obtain rfl : x = n := by simpa using h
    simp [place]
  | x :: xs, n, k + 1, h, hj => by
    have hx : x ≠ n := fun e => hj 0 (by omega) (by simp [e])
    have ih := place_hit (xs := xs) (n := n) (k := k) (by simpa using h) (fun j h' => by have := hj (j + 1) (by omega); simpa using this)
    unfold place
    rw [if_neg hx, ih, if_neg (by omega)]; omega
theorem place_miss {xs : List Int} {n : Int} (h : n ∉ xs) : place xs n = -1 := by
  induction xs with
  | nil => rfl
  | cons x xs ih =>
    rw [List.mem_cons, not_or] at h
    unfold place
    rw [if_neg (fun e => h.1 e.symm), ih h.2]; rfl
theorem free_len (t : Trm) : (free t).length ≤ t.length := by
  have : ∀ (t : Trm) (out : List Int), (t.foldl freeStep out).length ≤ out.length + t.length := fun t => by
    induction t with
    | nil => intro out; simp
    | cons c t ih =>
      intro out
      have := ih (freeStep out c)
      have h2 : (freeStep out c).length ≤ out.length + 1 := by unfold freeStep; split <;> simp
      simp only [List.foldl_cons, List.length_cons]; omega
  simpa [free] using this t []
theorem free_take {t : Trm} {k : Nat} {c : Cell} (h : t[k]? = some c) : (t.take (k + 1)).foldl freeStep [] = freeStep ((t.take k).foldl freeStep []) c := by
  have hl := (List.getElem?_eq_some_iff.1 h).1
  rw [List.take_succ_eq_append_getElem hl, (List.getElem?_eq_some_iff.1 h).2, List.foldl_append]; rfl
end Go.Proofs.YtjglbadkbhopoaaGreatDoor
namespace Go.Proofs.YtjglbadkbhopoaaGreatDoor
open Go.RowKit
set_option maxRecDepth 100000
set_option maxHeartbeats 4000000
set_option linter.unusedVariables false
theorem int_at {e : Nat} {w : World} {A : Option Addr} {xs : List Int} (h : (Kd.int .i64).C e w A xs) {i : Nat} {x : Int} (hi : xs[i]? = some x) : ∃ ad, A = some ad ∧ w.cell? (ad.add i) = some (.int .i64 x) := by
  obtain ⟨ad, cs, _, _, ea, _, hk, hc⟩ := h i x hi
  obtain rfl : cs = [.int .i64 x] := hk
  have := hc 0 _ rfl
  rw [show i * (Kd.int .i64).sz + 0 = i from by show i * 1 + 0 = i; omega] at this
  exact ⟨ad, ea, this⟩
theorem has_c (xs : List Int) (A : Option Addr) (c : Nat) (n : Int) (w : World) (h : (Kd.int .i64).C 3 w A xs) (hl : xs.length ≤ 1000000000) :
    Calls Tryz.prog 85 #[.slice A xs.length c, .int .i64 n] w fun e w' => e = .returned (.bool (decide (n ∈ xs))) ∧ w = w' := by
  have H := Lib.hid h
  clear h
  go_enter Tryz.func85, Tryz.ntmps85
  go_wp2
  go_loop [5] (fun v5 => ∃ k : Nat, v5 = .int .i64 k ∧ k ≤ xs.length ∧ Hid (∀ j, j < k → xs[j]? ≠ some n)) (fun v5 => xs.length - (intOf v5).toNat)
  case atStart => exact ⟨0, rfl, Nat.zero_le _, Lib.hid (fun j h => by omega)⟩
  case round =>
    obtain ⟨k, rfl, hk, HJ⟩ := hrel
    by_cases hlt : k < xs.length
    · obtain ⟨x, hx⟩ : ∃ x, xs[k]? = some x := ⟨_, List.getElem?_eq_getElem hlt⟩
      obtain ⟨ad, rfl, hc⟩ := int_at H.out hx
      by_cases he : x = n
      · have e1 : (x == n) = true := beq_iff_eq.2 he
        have HV := Lib.hid (show decide (n ∈ xs) = true from decide_eq_true (by rw [← he]; exact List.mem_of_getElem? hx))
        clear he hx
        go_wp2
        go_ret
        exact ⟨ret_bool HV.out.symm, rfl⟩
      · have e1 : (x == n) = false := beq_eq_false_iff_ne.2 he
        have HN := Lib.hid (show ∀ j, j < k + 1 → xs[j]? ≠ some n from fun j hj => by
          rcases Nat.lt_or_ge j k with h' | h'
          · exact HJ.out j h'
          · obtain rfl : j = k := by omega
            rw [hx]; exact fun e => he (Option.some.inj e))
        clear he hx
        go_wp2
        exact ⟨⟨k + 1, by go_num, by omega, HN⟩, by simp [intOf]; omega⟩
    · have HV := Lib.hid (show decide (n ∈ xs) = false from decide_eq_false (fun hm => by
        obtain ⟨j, hj, e⟩ := List.mem_iff_getElem.1 hm
        exact HJ.out j (by omega) (by rw [List.getElem?_eq_getElem hj, e])))
      go_wp2
      go_ret
      exact ⟨ret_bool HV.out.symm, rfl⟩
theorem place_c (xs : List Int) (A : Option Addr) (c : Nat) (n : Int) (w : World) (h : (Kd.int .i64).C 3 w A xs) (hl : xs.length ≤ 1000000000) :
    Calls Tryz.prog 53 #[.slice A xs.length c, .int .i64 n] w fun e w' => e = .returned (.int .i64 (place xs n)) ∧ w = w' := by
  have H := Lib.hid h
  clear h
  go_enter Tryz.func53, Tryz.ntmps53
  go_wp2
  go_loop [5] (fun v5 => ∃ k : Nat, v5 = .int .i64 k ∧ k ≤ xs.length ∧ Hid (∀ j, j < k → xs[j]? ≠ some n)) (fun v5 => xs.length - (intOf v5).toNat)
  case atStart => exact ⟨0, rfl, Nat.zero_le _, Lib.hid (fun j h => by omega)⟩
  case round =>
    obtain ⟨k, rfl, hk, HJ⟩ := hrel
    by_cases hlt : k < xs.length
    · obtain ⟨x, hx⟩ : ∃ x, xs[k]? = some x := ⟨_, List.getElem?_eq_getElem hlt⟩
      obtain ⟨ad, rfl, hc⟩ := int_at H.out hx
      by_cases he : x = n
      · have e1 : (x == n) = true := beq_iff_eq.2 he
        have HV := Lib.hid (place_hit (by rw [← he]; exact hx) HJ.out)
        clear he hx
        go_wp2
        go_ret
        exact ⟨ret_int HV.out.symm, rfl⟩
      · have e1 : (x == n) = false := beq_eq_false_iff_ne.2 he
        have HN := Lib.hid (show ∀ j, j < k + 1 → xs[j]? ≠ some n from fun j hj => by
          rcases Nat.lt_or_ge j k with h' | h'
          · exact HJ.out j h'
          · obtain rfl : j = k := by omega
            rw [hx]; exact fun e => he (Option.some.inj e))
        clear he hx
        go_wp2
        exact ⟨⟨k + 1, by go_num, by omega, HN⟩, by simp [intOf]; omega⟩
    · have HV := Lib.hid (place_miss (xs := xs) (n := n) (fun hm => by
        obtain ⟨j, hj, e⟩ := List.mem_iff_getElem.1 hm
        exact HJ.out j (by omega) (by rw [List.getElem?_eq_getElem hj, e])))
      go_wp2
      go_ret
      exact ⟨ret_int HV.out.symm, rfl⟩
theorem infoInt : (Tryz.prog.info? 3).map (fun i => (i.zero, i.size, i.bytes)) = some (some (.int .i64 0), 1, 8) := by kernel_rfl
theorem free_c (t : Trm) (A : Option Addr) (c : Nat) (w : World) (h : Kd.cell.C 47 w A t) (hl : t.length ≤ 1000000000) :
    Calls Tryz.prog 52 #[.slice A t.length c] w fun e w' => ∃ v, e = .returned v ∧ (Kd.int .i64).O 3 w' w.heap.size v (free t) ∧ Below w.heap.size w w' := by
  have H := Lib.hid h
  clear h
  go_enter Tryz.func52, Tryz.ntmps52
  go_wp2
  go_loopw [3, 4] (fun v3 v4 wr => ∃ (k : Nat) (D : List Int), v4 = .int .i64 k ∧ k ≤ t.length ∧ D.length ≤ k ∧ Hid ((t.take k).foldl freeStep [] = D) ∧ Hid ((Kd.int .i64).O 3 wr w.heap.size v3 D) ∧ Hid (Below w.heap.size w wr)) (fun _ v4 _ => t.length - (intOf v4).toNat)
  case atStart => exact ⟨0, [], rfl, Nat.zero_le _, Nat.zero_le _, Lib.hid rfl, Lib.hid (Kd.O_empty (Kd.int .i64) _ w (Nat.le_refl _)), Lib.hid (bel_alloc (Below.refl _ _) _)⟩
  case round =>
    obtain ⟨k, D, rfl, hk, hD, HS, HO, HB⟩ := hrel
    by_cases hlt : k < t.length
    · obtain ⟨cc, hc⟩ : ∃ cc, t[k]? = some cc := ⟨_, List.getElem?_eq_getElem hlt⟩
      obtain ⟨ad, rfl, a1, a2, -⟩ := cell_at (Kd.C_ext HB.out H.out) hc
      have HT := Lib.hid (free_take hc)
      rw [HS.out] at HT
      obtain ⟨B, cB, rfl, hb1, hb2, hCB⟩ := Kd.O_read HO.out
      have HH := Lib.hid (has_c D B cB cc.n wr hCB (by omega))
      clear hc hCB
      by_cases h1 : cc.k = 1
      · have e1 : (cc.k == 1) = true := beq_iff_eq.2 h1
        by_cases hm : cc.n ∈ D
        · have HN := Lib.hid (show (t.take (k + 1)).foldl freeStep [] = D by rw [HT.out, freeStep, if_neg (fun h => h.2 hm)])
          rw [decide_eq_true hm] at HH
          clear hm h1
          go_wp2_with (go_at_call 85; refine HH.out.mono ?_; rintro e w1 ⟨rfl, rfl⟩)
          exact ⟨⟨k + 1, D, by go_num, by omega, by omega, HN, HO, HB⟩, by simp [intOf]; omega⟩
        · have HN := Lib.hid (show (t.take (k + 1)).foldl freeStep [] = D ++ [cc.n] by rw [HT.out, freeStep, if_pos ⟨h1, hm⟩])
          rw [decide_eq_false hm] at HH
          clear hm h1
          go_wp2_with (first | (go_at_call 85; refine HH.out.mono ?_; rintro e w1 ⟨rfl, rfl⟩) | (at_builtin; refine wp_append (d := Kd.int .i64) _ rfl (.tmp 28) (.tmp 34) 72 rfl w.heap.size 3 _ 8 Tryz.underlying72 infoInt rfl (by decide) _ D rfl (Kd.O_alloc _ HO.out) _ [cc.n] _ _ rfl rfl (Kd.C_lit (Kd.int .i64) _ (x := cc.n) (cs := [.int .i64 cc.n]) rfl) ?c1 ?c2 ?c3 (fun q hq => by simp [Kd.int] at hq) ?_; (case c1 => simp [maxLen]; omega); (case c2 => simp; omega); (case c3 => simp; have := HB.out.size; omega); intro v' w' ho hg hat; have hb := Lib.hid (bel_grown (bel_alloc HB.out _) (Kd.O_alloc _ HO.out) hg); have ho' := Lib.hid ho; clear ho hg hat))
          exact ⟨⟨k + 1, D ++ [cc.n], by go_num, by omega, by simp; omega, HN, ho', hb⟩, by simp [intOf]; omega⟩
      · have e1 : (cc.k == 1) = false := beq_eq_false_iff_ne.2 h1
        have HN := Lib.hid (show (t.take (k + 1)).foldl freeStep [] = D by rw [HT.out, freeStep, if_neg (fun h => h1 h.1)])
        clear h1
        go_wp2
        exact ⟨⟨k + 1, D, by go_num, by omega, by omega, HN, HO, HB⟩, by simp [intOf]; omega⟩
    · have HV := Lib.hid (show free t = D by rw [← HS.out, List.take_of_length_le (by omega)]; rfl)
      go_wp2
      go_ret
      exact ⟨_, rfl, by rw [HV.out]; exact HO.out, HB.out⟩
end Go.Proofs.YtjglbadkbhopoaaGreatDoor
