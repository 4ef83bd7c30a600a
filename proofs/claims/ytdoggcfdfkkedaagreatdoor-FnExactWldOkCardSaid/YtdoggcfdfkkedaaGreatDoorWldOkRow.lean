/- FnExactWldOk: the program's WldOk returns what the reference's returns, for every world: the row and its tied card. Condition: none beyond the row's own (the listed variables, tied to the program's text). -/
import Derived.Deep.Slices
import Derived.Deep.Strs
import Derived.ProofKit
import Derived.Test.YtdoggcfdfkkedaaGreatDoorW28
import Derived.Deep.DeepHandedRow
import Derived.Deep.DeepWitnessRowRef
import Derived.LaidMore
import Derived.Lib.LaidU8
import Derived.OpenShut
import Derived.ShutString
import Derived.Lib.SmallJoins
import Derived.SevenTiedAt
import Derived.Test.YtdoggcfdfkkedaaGreatDoorRows
import Derived.Test.YtdoggcfdfkkedaaGreatDoorTie
import Derived.Test.YtdoggcfdfkkedaaGreatDoorCards
namespace Go.Proofs.YtdoggcfdfkkedaaGreatDoor
open Go.ChangeShapes Go.WideShapes Go.ChangeAt Go.RowKit Go.Deep
set_option linter.unusedVariables false
set_option maxRecDepth 100000
section
variable {H : Type} {enc : TypeId × Value → H} {W : World} {base : Nat} {held : Bool}
theorem field_at {P : Program} {fuel : Nat} {t : TypeId} {cs : List Value} {x : DataW H × List MemPlace} {fs : Array Field} (ht : P.underlying t = some (.struct fs)) (h : DataW.trod enc P W base (fun _ => true) held fuel t cs = some x) :
    ∃ n, cs.length = P.cellsOf t ∧ ∀ (i ty off : Nat), (fs[i]?).map (fun f => (f.type, f.offset)) = some (ty, off) → ∃ y, DataW.trod enc P W base (fun _ => true) held n ty (List.take (P.cellsOf ty) (List.drop off cs)) = some y := by
  obtain ⟨xs, n, _, _, hl, hlen, hf⟩ := DataW.trod_struct ht h
  refine ⟨n, hl, fun i ty off hi => ?_⟩
  obtain ⟨f, hfi, he⟩ := Option.map_eq_some_iff.1 hi
  injection he with e1 e2
  subst e1
  subst e2
  have hlt : i < xs.length := by rw [hlen]; exact (Array.getElem?_eq_some_iff.1 hfi).1
  exact ⟨xs[i], by rw [hf i f hfi]; exact List.getElem?_eq_getElem hlt⟩
theorem in_S {α : Type} {P : Program} {d : KI α} {X : α → Prop} {t e : TypeId} (ht : P.underlying t = some (.slice e)) (hN : P.cellsOf e = d.sz)
    (hel : ∀ n cs y, DataW.trod enc P W base (fun _ => true) held n e cs = some y → ∃ x, d.K W x cs ∧ X x) {fuel : Nat} {v : Value} {y : DataW H × List MemPlace}
    (h : DataW.trod enc P W base (fun _ => true) held fuel t [v] = some y) : ∃ D, d.S W v D ∧ ∀ x ∈ D, X x := by
  rcases open_slice ht h with ⟨hcs, _⟩ | ⟨a, len, cap, m, k, Dd, Pl, hcs, hb, hl, hm, hmm, _, hx⟩
  · injection hcs with hcs _
    subst hcs
    exact ⟨[], KI.S_nil _ _, fun x hx => by cases hx⟩
  · injection hcs with hcs _
    subst hcs
    have hlm : len ≤ m := by rw [hmm]; split <;> omega
    have each : ∀ i, i < len → ∃ x : α, X x ∧ ∃ cs, d.K W x cs ∧ ∀ j u, cs[j]? = some u → W.cell? (a.add (i * d.sz + j)) = some u := by
      intro i hi
      obtain ⟨cs', h1, h2⟩ := hx i (by omega)
      obtain ⟨x, hK, hX⟩ := hel _ _ _ h2
      obtain ⟨_, hlen, hcell⟩ := World.cells?_some h1
      refine ⟨x, hX, cs', hK, fun j u hu => ?_⟩
      have hj : j < P.cellsOf e := by rw [← hlen]; exact (List.getElem?_eq_some_iff.1 hu).1
      have := hcell j hj
      rw [Go.Proofs.YtdoggcfdfkkedaaGreatDoor.add_add', hN] at this
      rw [this, hu]
    have each2 : ∀ i, ∃ x : Option α, i < len → ∃ x', x = some x' ∧ X x' ∧ ∃ cs, d.K W x' cs ∧ ∀ j u, cs[j]? = some u → W.cell? (a.add (i * d.sz + j)) = some u := fun i => by
      by_cases hi : i < len
      · obtain ⟨x, hX, hh⟩ := each i hi
        exact ⟨some x, fun _ => ⟨x, rfl, hX, hh⟩⟩
      · exact ⟨none, fun h => absurd h hi⟩
    have hf : ∃ f : Nat → Option α, ∀ i, i < len → ∃ x', f i = some x' ∧ X x' ∧ ∃ cs, d.K W x' cs ∧ ∀ j u, cs[j]? = some u → W.cell? (a.add (i * d.sz + j)) = some u := ⟨fun i => Classical.choose (each2 i), fun i => Classical.choose_spec (each2 i)⟩
    obtain ⟨f, hq⟩ := hf
    have hD : ∀ n, n ≤ len → ∃ D : List α, D.length = n ∧ ∀ i x, D[i]? = some x → f i = some x := by
      intro n
      induction n with
      | zero => exact fun _ => ⟨[], rfl, fun i x hx => by simp at hx⟩
      | succ n ih =>
        intro hn
        obtain ⟨D, h1, h2⟩ := ih (by omega)
        obtain ⟨x', e', _⟩ := hq n (by omega)
        refine ⟨D ++ [x'], by simp [h1], fun i x hx => ?_⟩
        rw [List.getElem?_append] at hx
        split at hx
        · exact h2 i x hx
        · rename_i hge
          have hi : i - D.length = 0 := by
            cases hd : i - D.length with
            | zero => rfl
            | succ z => rw [hd] at hx; simp at hx
          rw [hi] at hx
          have : i = n := by omega
          subst this
          obtain rfl : x' = x := by simpa using hx
          exact e'
    obtain ⟨D, hDl, hDf⟩ := hD len (Nat.le_refl _)
    refine ⟨D, ⟨some a, cap, by rw [hDl], by omega, hm, fun i x hi => ?_⟩, fun x hx => ?_⟩
    · have hil : i < len := by rw [← hDl]; exact (List.getElem?_eq_some_iff.1 hi).1
      obtain ⟨x', e', _, cs, hK, hc⟩ := hq i hil
      obtain rfl : x' = x := by have := hDf i x hi; rw [e'] at this; exact Option.some.inj this
      exact ⟨a, cs, rfl, hK, hc⟩
    · obtain ⟨i, hi⟩ := List.getElem?_of_mem hx
      have hil : i < len := by rw [← hDl]; exact (List.getElem?_eq_some_iff.1 hi).1
      obtain ⟨x', e', hX, _⟩ := hq i hil
      obtain rfl : x' = x := by have := hDf i x hi; rw [e'] at this; exact Option.some.inj this
      exact hX
theorem cellsI : Tryz.prog.cellsOf 3 = 1 := by kernel_rfl
theorem cellsS : Tryz.prog.cellsOf 9 = 1 := by kernel_rfl
theorem cellsB : Tryz.prog.cellsOf 4 = 1 := by kernel_rfl
theorem in_cell {n : Nat} {cs : List Value} {y : DataW H × List MemPlace} (h : DataW.trod enc Tryz.prog W base (fun _ => true) held n 83 cs = some y) : ∃ x : Cell, KI.cell.K W x cs ∧ True := by
  obtain ⟨m, hl, hf⟩ := field_at Tryz.underlying83 h
  rw [show Tryz.prog.cellsOf 83 = 3 by kernel_rfl] at hl
  match cs, hl with
  | [c0, c1, c2], _ =>
    obtain ⟨y0, f0⟩ := hf 0 3 0 rfl
    rw [cellsI] at f0
    have f0 : DataW.trod enc Tryz.prog W base (fun _ => true) held m 3 [c0] = some y0 := f0
    obtain ⟨z0, e0, -, w0⟩ := DataW.trod_int Tryz.underlying3 f0
    obtain rfl := (List.cons.inj e0).1
    obtain ⟨y1, f1⟩ := hf 1 3 1 rfl
    rw [cellsI] at f1
    have f1 : DataW.trod enc Tryz.prog W base (fun _ => true) held m 3 [c1] = some y1 := f1
    obtain ⟨z1, e1, -, w1⟩ := DataW.trod_int Tryz.underlying3 f1
    obtain rfl := (List.cons.inj e1).1
    obtain ⟨y2, f2⟩ := hf 2 9 2 rfl
    rw [cellsS] at f2
    have f2 : DataW.trod enc Tryz.prog W base (fun _ => true) held m 9 [c2] = some y2 := f2
    obtain ⟨z2, e2, -, w2⟩ := DataW.trod_string Tryz.underlying9 f2
    obtain rfl := (List.cons.inj e2).1
    exact ⟨⟨z0, z1, z2⟩, ⟨rfl, w2⟩, trivial⟩
theorem in_goal {n : Nat} {cs : List Value} {y : DataW H × List MemPlace} (h : DataW.trod enc Tryz.prog W base (fun _ => true) held n 211 cs = some y) : ∃ x : Goal, KI.goal.K W x cs ∧ True := by
  obtain ⟨m, hl, hf⟩ := field_at Tryz.underlying211 h
  rw [show Tryz.prog.cellsOf 211 = 4 by kernel_rfl] at hl
  match cs, hl with
  | [c0, c1, c2, c3], _ =>
    obtain ⟨y0, f0⟩ := hf 0 3 0 rfl
    rw [cellsI] at f0
    have f0 : DataW.trod enc Tryz.prog W base (fun _ => true) held m 3 [c0] = some y0 := f0
    obtain ⟨z0, e0, -, w0⟩ := DataW.trod_int Tryz.underlying3 f0
    obtain rfl := (List.cons.inj e0).1
    obtain ⟨y1, f1⟩ := hf 1 27 1 rfl
    rw [(show Tryz.prog.cellsOf 27 = 1 by kernel_rfl)] at f1
    have f1 : DataW.trod enc Tryz.prog W base (fun _ => true) held m 27 [c1] = some y1 := f1
    obtain ⟨z1, s1, x1⟩ := in_S (d := KI.cell) (X := fun x => True) Tryz.underlying27 (by kernel_rfl) (fun n cs y h => in_cell h) f1
    obtain ⟨y2, f2⟩ := hf 2 27 2 rfl
    rw [(show Tryz.prog.cellsOf 27 = 1 by kernel_rfl)] at f2
    have f2 : DataW.trod enc Tryz.prog W base (fun _ => true) held m 27 [c2] = some y2 := f2
    obtain ⟨z2, s2, x2⟩ := in_S (d := KI.cell) (X := fun x => True) Tryz.underlying27 (by kernel_rfl) (fun n cs y h => in_cell h) f2
    obtain ⟨y3, f3⟩ := hf 3 27 3 rfl
    rw [(show Tryz.prog.cellsOf 27 = 1 by kernel_rfl)] at f3
    have f3 : DataW.trod enc Tryz.prog W base (fun _ => true) held m 27 [c3] = some y3 := f3
    obtain ⟨z3, s3, x3⟩ := in_S (d := KI.cell) (X := fun x => True) Tryz.underlying27 (by kernel_rfl) (fun n cs y h => in_cell h) f3
    exact ⟨⟨z0, z1, z2, z3⟩, ⟨c1, c2, c3, rfl, s1, s2, s3⟩, trivial⟩
theorem in_clause {n : Nat} {cs : List Value} {y : DataW H × List MemPlace} (h : DataW.trod enc Tryz.prog W base (fun _ => true) held n 130 cs = some y) : ∃ x : Clause, KI.clause.K W x cs ∧ True := by
  obtain ⟨m, hl, hf⟩ := field_at Tryz.underlying130 h
  rw [show Tryz.prog.cellsOf 130 = 2 by kernel_rfl] at hl
  match cs, hl with
  | [c0, c1], _ =>
    obtain ⟨y0, f0⟩ := hf 0 27 0 rfl
    rw [(show Tryz.prog.cellsOf 27 = 1 by kernel_rfl)] at f0
    have f0 : DataW.trod enc Tryz.prog W base (fun _ => true) held m 27 [c0] = some y0 := f0
    obtain ⟨z0, s0, x0⟩ := in_S (d := KI.cell) (X := fun x => True) Tryz.underlying27 (by kernel_rfl) (fun n cs y h => in_cell h) f0
    obtain ⟨y1, f1⟩ := hf 1 128 1 rfl
    rw [(show Tryz.prog.cellsOf 128 = 1 by kernel_rfl)] at f1
    have f1 : DataW.trod enc Tryz.prog W base (fun _ => true) held m 128 [c1] = some y1 := f1
    obtain ⟨z1, s1, x1⟩ := in_S (d := KI.goal) (X := fun x => True) Tryz.underlying128 (by kernel_rfl) (fun n cs y h => in_goal h) f1
    exact ⟨⟨z0, z1⟩, ⟨c0, c1, rfl, s0, s1⟩, trivial⟩
theorem in_place {n : Nat} {cs : List Value} {y : DataW H × List MemPlace} (h : DataW.trod enc Tryz.prog W base (fun _ => true) held n 132 cs = some y) : ∃ x : Place, KI.place.K W x cs ∧ True := by
  obtain ⟨m, hl, hf⟩ := field_at Tryz.underlying132 h
  rw [show Tryz.prog.cellsOf 132 = 3 by kernel_rfl] at hl
  match cs, hl with
  | [c0, c1, c2], _ =>
    obtain ⟨y0, f0⟩ := hf 0 9 0 rfl
    rw [cellsS] at f0
    have f0 : DataW.trod enc Tryz.prog W base (fun _ => true) held m 9 [c0] = some y0 := f0
    obtain ⟨z0, e0, -, w0⟩ := DataW.trod_string Tryz.underlying9 f0
    obtain rfl := (List.cons.inj e0).1
    obtain ⟨y1, f1⟩ := hf 1 3 1 rfl
    rw [cellsI] at f1
    have f1 : DataW.trod enc Tryz.prog W base (fun _ => true) held m 3 [c1] = some y1 := f1
    obtain ⟨z1, e1, -, w1⟩ := DataW.trod_int Tryz.underlying3 f1
    obtain rfl := (List.cons.inj e1).1
    obtain ⟨y2, f2⟩ := hf 2 3 2 rfl
    rw [cellsI] at f2
    have f2 : DataW.trod enc Tryz.prog W base (fun _ => true) held m 3 [c2] = some y2 := f2
    obtain ⟨z2, e2, -, w2⟩ := DataW.trod_int Tryz.underlying3 f2
    obtain rfl := (List.cons.inj e2).1
    exact ⟨⟨z0, z1, z2⟩, ⟨rfl, w0⟩, trivial⟩
theorem in_prog {n : Nat} {cs : List Value} {y : DataW H × List MemPlace} (h : DataW.trod enc Tryz.prog W base (fun _ => true) held n 25 cs = some y) : ∃ (x : Prog) (v1 v2 : Value), cs = [v1, v2] ∧ KI.clause.S W v1 x.cl ∧ KI.place.S W v2 x.pl ∧ True := by
  obtain ⟨m, hl, hf⟩ := field_at Tryz.underlying25 h
  rw [show Tryz.prog.cellsOf 25 = 2 by kernel_rfl] at hl
  match cs, hl with
  | [c0, c1], _ =>
    obtain ⟨y0, f0⟩ := hf 0 22 0 rfl
    rw [(show Tryz.prog.cellsOf 22 = 1 by kernel_rfl)] at f0
    have f0 : DataW.trod enc Tryz.prog W base (fun _ => true) held m 22 [c0] = some y0 := f0
    obtain ⟨z0, s0, x0⟩ := in_S (d := KI.clause) (X := fun x => True) Tryz.underlying22 (by kernel_rfl) (fun n cs y h => in_clause h) f0
    obtain ⟨y1, f1⟩ := hf 1 23 1 rfl
    rw [(show Tryz.prog.cellsOf 23 = 1 by kernel_rfl)] at f1
    have f1 : DataW.trod enc Tryz.prog W base (fun _ => true) held m 23 [c1] = some y1 := f1
    obtain ⟨z1, s1, x1⟩ := in_S (d := KI.place) (X := fun x => True) Tryz.underlying23 (by kernel_rfl) (fun n cs y h => in_place h) f1
    exact ⟨⟨z0, z1⟩, c0, c1, rfl, s0, s1, trivial⟩
theorem in_sgoal {n : Nat} {cs : List Value} {y : DataW H × List MemPlace} (h : DataW.trod enc Tryz.prog W base (fun _ => true) held n 260 cs = some y) : ∃ x : SGoal, KI.sgoal.K W x cs ∧ True := by
  obtain ⟨m, hl, hf⟩ := field_at Tryz.underlying260 h
  rw [show Tryz.prog.cellsOf 260 = 5 by kernel_rfl] at hl
  match cs, hl with
  | [c0, c1, c2, c3, c4], _ =>
    obtain ⟨y0, f0⟩ := hf 0 211 0 rfl
    rw [(show Tryz.prog.cellsOf 211 = 4 by kernel_rfl)] at f0
    have f0 : DataW.trod enc Tryz.prog W base (fun _ => true) held m 211 [c0, c1, c2, c3] = some y0 := f0
    obtain ⟨z0, ⟨t0_0, t0_1, t0_2, e0, g0_0, g0_1, g0_2⟩, x0⟩ := in_goal f0
    simp only [List.cons.injEq, and_true] at e0
    obtain ⟨rfl, rfl, rfl, rfl⟩ := e0
    obtain ⟨y1, f1⟩ := hf 1 3 4 rfl
    rw [cellsI] at f1
    have f1 : DataW.trod enc Tryz.prog W base (fun _ => true) held m 3 [c4] = some y1 := f1
    obtain ⟨z1, e1, -, w1⟩ := DataW.trod_int Tryz.underlying3 f1
    obtain rfl := (List.cons.inj e1).1
    exact ⟨⟨z0, z1⟩, ⟨_, _, _, rfl, g0_0, g0_1, g0_2⟩, trivial⟩
theorem in_bind {n : Nat} {cs : List Value} {y : DataW H × List MemPlace} (h : DataW.trod enc Tryz.prog W base (fun _ => true) held n 263 cs = some y) : ∃ x : (Int × Trm), KI.bind.K W x cs ∧ (Lit.int .i64 x.1).wf = true := by
  obtain ⟨m, hl, hf⟩ := field_at Tryz.underlying263 h
  rw [show Tryz.prog.cellsOf 263 = 2 by kernel_rfl] at hl
  match cs, hl with
  | [c0, c1], _ =>
    obtain ⟨y0, f0⟩ := hf 0 3 0 rfl
    rw [cellsI] at f0
    have f0 : DataW.trod enc Tryz.prog W base (fun _ => true) held m 3 [c0] = some y0 := f0
    obtain ⟨z0, e0, -, w0⟩ := DataW.trod_int Tryz.underlying3 f0
    obtain rfl := (List.cons.inj e0).1
    obtain ⟨y1, f1⟩ := hf 1 27 1 rfl
    rw [(show Tryz.prog.cellsOf 27 = 1 by kernel_rfl)] at f1
    have f1 : DataW.trod enc Tryz.prog W base (fun _ => true) held m 27 [c1] = some y1 := f1
    obtain ⟨z1, s1, x1⟩ := in_S (d := KI.cell) (X := fun x => True) Tryz.underlying27 (by kernel_rfl) (fun n cs y h => in_cell h) f1
    exact ⟨⟨z0, z1⟩, ⟨c1, rfl, s1⟩, w0⟩
theorem in_tch {n : Nat} {cs : List Value} {y : DataW H × List MemPlace} (h : DataW.trod enc Tryz.prog W base (fun _ => true) held n 266 cs = some y) : ∃ x : TCh, KI.tch.K W x cs ∧ True := by
  obtain ⟨m, hl, hf⟩ := field_at Tryz.underlying266 h
  rw [show Tryz.prog.cellsOf 266 = 6 by kernel_rfl] at hl
  match cs, hl with
  | [c0, c1, c2, c3, c4, c5], _ =>
    obtain ⟨y0, f0⟩ := hf 0 168 0 rfl
    rw [(show Tryz.prog.cellsOf 168 = 1 by kernel_rfl)] at f0
    have f0 : DataW.trod enc Tryz.prog W base (fun _ => true) held m 168 [c0] = some y0 := f0
    obtain ⟨z0, s0, x0⟩ := in_S (d := KI.sgoal) (X := fun x => True) Tryz.underlying168 (by kernel_rfl) (fun n cs y h => in_sgoal h) f0
    obtain ⟨y1, f1⟩ := hf 1 3 1 rfl
    rw [cellsI] at f1
    have f1 : DataW.trod enc Tryz.prog W base (fun _ => true) held m 3 [c1] = some y1 := f1
    obtain ⟨z1, e1, -, w1⟩ := DataW.trod_int Tryz.underlying3 f1
    obtain rfl := (List.cons.inj e1).1
    obtain ⟨y2, f2⟩ := hf 2 3 2 rfl
    rw [cellsI] at f2
    have f2 : DataW.trod enc Tryz.prog W base (fun _ => true) held m 3 [c2] = some y2 := f2
    obtain ⟨z2, e2, -, w2⟩ := DataW.trod_int Tryz.underlying3 f2
    obtain rfl := (List.cons.inj e2).1
    obtain ⟨y3, f3⟩ := hf 3 27 3 rfl
    rw [(show Tryz.prog.cellsOf 27 = 1 by kernel_rfl)] at f3
    have f3 : DataW.trod enc Tryz.prog W base (fun _ => true) held m 27 [c3] = some y3 := f3
    obtain ⟨z3, s3, x3⟩ := in_S (d := KI.cell) (X := fun x => True) Tryz.underlying27 (by kernel_rfl) (fun n cs y h => in_cell h) f3
    obtain ⟨y4, f4⟩ := hf 4 3 4 rfl
    rw [cellsI] at f4
    have f4 : DataW.trod enc Tryz.prog W base (fun _ => true) held m 3 [c4] = some y4 := f4
    obtain ⟨z4, e4, -, w4⟩ := DataW.trod_int Tryz.underlying3 f4
    obtain rfl := (List.cons.inj e4).1
    obtain ⟨y5, f5⟩ := hf 5 3 5 rfl
    rw [cellsI] at f5
    have f5 : DataW.trod enc Tryz.prog W base (fun _ => true) held m 3 [c5] = some y5 := f5
    obtain ⟨z5, e5, -, w5⟩ := DataW.trod_int Tryz.underlying3 f5
    obtain rfl := (List.cons.inj e5).1
    exact ⟨⟨z0, z1, z2, z3, z4, z5⟩, ⟨c0, c3, rfl, s0, s3⟩, trivial⟩
theorem in_tst {n : Nat} {cs : List Value} {y : DataW H × List MemPlace} (h : DataW.trod enc Tryz.prog W base (fun _ => true) held n 172 cs = some y) : ∃ (x : TSt) (v1 v2 v3 v4 v5 : Value), cs = [.int .i64 x.st, v1, v2, .int .i64 x.vars, v3, v4, v5] ∧ KI.sgoal.S W v1 x.goals ∧ KI.bind.S W v2 x.binds ∧ KI.tch.S W v3 x.ch ∧ KI.cell.S W v4 x.top ∧ KI.cell.S W v5 x.out ∧ keysWf x.binds := by
  obtain ⟨m, hl, hf⟩ := field_at Tryz.underlying172 h
  rw [show Tryz.prog.cellsOf 172 = 7 by kernel_rfl] at hl
  match cs, hl with
  | [c0, c1, c2, c3, c4, c5, c6], _ =>
    obtain ⟨y0, f0⟩ := hf 0 3 0 rfl
    rw [cellsI] at f0
    have f0 : DataW.trod enc Tryz.prog W base (fun _ => true) held m 3 [c0] = some y0 := f0
    obtain ⟨z0, e0, -, w0⟩ := DataW.trod_int Tryz.underlying3 f0
    obtain rfl := (List.cons.inj e0).1
    obtain ⟨y1, f1⟩ := hf 1 168 1 rfl
    rw [(show Tryz.prog.cellsOf 168 = 1 by kernel_rfl)] at f1
    have f1 : DataW.trod enc Tryz.prog W base (fun _ => true) held m 168 [c1] = some y1 := f1
    obtain ⟨z1, s1, x1⟩ := in_S (d := KI.sgoal) (X := fun x => True) Tryz.underlying168 (by kernel_rfl) (fun n cs y h => in_sgoal h) f1
    obtain ⟨y2, f2⟩ := hf 2 169 2 rfl
    rw [(show Tryz.prog.cellsOf 169 = 1 by kernel_rfl)] at f2
    have f2 : DataW.trod enc Tryz.prog W base (fun _ => true) held m 169 [c2] = some y2 := f2
    obtain ⟨z2, s2, x2⟩ := in_S (d := KI.bind) (X := fun x => (Lit.int .i64 x.1).wf = true) Tryz.underlying169 (by kernel_rfl) (fun n cs y h => in_bind h) f2
    obtain ⟨y3, f3⟩ := hf 3 3 3 rfl
    rw [cellsI] at f3
    have f3 : DataW.trod enc Tryz.prog W base (fun _ => true) held m 3 [c3] = some y3 := f3
    obtain ⟨z3, e3, -, w3⟩ := DataW.trod_int Tryz.underlying3 f3
    obtain rfl := (List.cons.inj e3).1
    obtain ⟨y4, f4⟩ := hf 4 170 4 rfl
    rw [(show Tryz.prog.cellsOf 170 = 1 by kernel_rfl)] at f4
    have f4 : DataW.trod enc Tryz.prog W base (fun _ => true) held m 170 [c4] = some y4 := f4
    obtain ⟨z4, s4, x4⟩ := in_S (d := KI.tch) (X := fun x => True) Tryz.underlying170 (by kernel_rfl) (fun n cs y h => in_tch h) f4
    obtain ⟨y5, f5⟩ := hf 5 27 5 rfl
    rw [(show Tryz.prog.cellsOf 27 = 1 by kernel_rfl)] at f5
    have f5 : DataW.trod enc Tryz.prog W base (fun _ => true) held m 27 [c5] = some y5 := f5
    obtain ⟨z5, s5, x5⟩ := in_S (d := KI.cell) (X := fun x => True) Tryz.underlying27 (by kernel_rfl) (fun n cs y h => in_cell h) f5
    obtain ⟨y6, f6⟩ := hf 6 27 6 rfl
    rw [(show Tryz.prog.cellsOf 27 = 1 by kernel_rfl)] at f6
    have f6 : DataW.trod enc Tryz.prog W base (fun _ => true) held m 27 [c6] = some y6 := f6
    obtain ⟨z6, s6, x6⟩ := in_S (d := KI.cell) (X := fun x => True) Tryz.underlying27 (by kernel_rfl) (fun n cs y h => in_cell h) f6
    exact ⟨⟨z0, z1, z2, z3, z4, z5, z6⟩, c1, c2, c4, c5, c6, rfl, s1, s2, s4, s5, s6, x2⟩
theorem in_sout {n : Nat} {cs : List Value} {y : DataW H × List MemPlace} (h : DataW.trod enc Tryz.prog W base (fun _ => true) held n 86 cs = some y) : ∃ x : (Int × Trm), KI.sout.K W x cs ∧ True := by
  obtain ⟨m, hl, hf⟩ := field_at Tryz.underlying86 h
  rw [show Tryz.prog.cellsOf 86 = 2 by kernel_rfl] at hl
  match cs, hl with
  | [c0, c1], _ =>
    obtain ⟨y0, f0⟩ := hf 0 3 0 rfl
    rw [cellsI] at f0
    have f0 : DataW.trod enc Tryz.prog W base (fun _ => true) held m 3 [c0] = some y0 := f0
    obtain ⟨z0, e0, -, w0⟩ := DataW.trod_int Tryz.underlying3 f0
    obtain rfl := (List.cons.inj e0).1
    obtain ⟨y1, f1⟩ := hf 1 27 1 rfl
    rw [(show Tryz.prog.cellsOf 27 = 1 by kernel_rfl)] at f1
    have f1 : DataW.trod enc Tryz.prog W base (fun _ => true) held m 27 [c1] = some y1 := f1
    obtain ⟨z1, s1, x1⟩ := in_S (d := KI.cell) (X := fun x => True) Tryz.underlying27 (by kernel_rfl) (fun n cs y h => in_cell h) f1
    exact ⟨⟨z0, z1⟩, ⟨c1, rfl, s1⟩, trivial⟩
theorem in_work {n : Nat} {cs : List Value} {y : DataW H × List MemPlace} (h : DataW.trod enc Tryz.prog W base (fun _ => true) held n 174 cs = some y) : ∃ x : Work, KI.work.K W x cs ∧ keysWf x.slv.binds := by
  obtain ⟨m, hl, hf⟩ := field_at Tryz.underlying174 h
  rw [show Tryz.prog.cellsOf 174 = 10 by kernel_rfl] at hl
  match cs, hl with
  | [c0, c1, c2, c3, c4, c5, c6, c7, c8, c9], _ =>
    obtain ⟨y0, f0⟩ := hf 0 28 0 rfl
    rw [(show Tryz.prog.cellsOf 28 = 1 by kernel_rfl)] at f0
    have f0 : DataW.trod enc Tryz.prog W base (fun _ => true) held m 28 [c0] = some y0 := f0
    obtain ⟨z0, s0, x0⟩ := in_S (d := KI.sout) (X := fun x => True) Tryz.underlying28 (by kernel_rfl) (fun n cs y h => in_sout h) f0
    obtain ⟨y1, f1⟩ := hf 1 3 1 rfl
    rw [cellsI] at f1
    have f1 : DataW.trod enc Tryz.prog W base (fun _ => true) held m 3 [c1] = some y1 := f1
    obtain ⟨z1, e1, -, w1⟩ := DataW.trod_int Tryz.underlying3 f1
    obtain rfl := (List.cons.inj e1).1
    obtain ⟨y2, f2⟩ := hf 2 4 2 rfl
    rw [cellsB] at f2
    have f2 : DataW.trod enc Tryz.prog W base (fun _ => true) held m 4 [c2] = some y2 := f2
    obtain ⟨z2, e2, -⟩ := DataW.trod_bool Tryz.underlying4 f2
    obtain rfl := (List.cons.inj e2).1
    obtain ⟨y3, f3⟩ := hf 3 172 3 rfl
    rw [(show Tryz.prog.cellsOf 172 = 7 by kernel_rfl)] at f3
    have f3 : DataW.trod enc Tryz.prog W base (fun _ => true) held m 172 [c3, c4, c5, c6, c7, c8, c9] = some y3 := f3
    obtain ⟨z3, t3_0, t3_1, t3_2, t3_3, t3_4, e3, g3_0, g3_1, g3_2, g3_3, g3_4, x3⟩ := in_tst f3
    simp only [List.cons.injEq, and_true] at e3
    obtain ⟨rfl, rfl, rfl, rfl, rfl, rfl, rfl⟩ := e3
    exact ⟨⟨z0, z1, z2, z3⟩, ⟨c0, _, _, _, _, _, rfl, s0, g3_0, g3_1, g3_2, g3_3, g3_4⟩, x3⟩
theorem in_node {n : Nat} {cs : List Value} {y : DataW H × List MemPlace} (h : DataW.trod enc Tryz.prog W base (fun _ => true) held n 80 cs = some y) : ∃ x : Nod, KI.node.K W x cs ∧ ∀ y ∈ x.works, keysWf y.slv.binds := by
  obtain ⟨m, hl, hf⟩ := field_at Tryz.underlying80 h
  rw [show Tryz.prog.cellsOf 80 = 2 by kernel_rfl] at hl
  match cs, hl with
  | [c0, c1], _ =>
    obtain ⟨y0, f0⟩ := hf 0 4 0 rfl
    rw [cellsB] at f0
    have f0 : DataW.trod enc Tryz.prog W base (fun _ => true) held m 4 [c0] = some y0 := f0
    obtain ⟨z0, e0, -⟩ := DataW.trod_bool Tryz.underlying4 f0
    obtain rfl := (List.cons.inj e0).1
    obtain ⟨y1, f1⟩ := hf 1 78 1 rfl
    rw [(show Tryz.prog.cellsOf 78 = 1 by kernel_rfl)] at f1
    have f1 : DataW.trod enc Tryz.prog W base (fun _ => true) held m 78 [c1] = some y1 := f1
    obtain ⟨z1, s1, x1⟩ := in_S (d := KI.work) (X := fun x => keysWf x.slv.binds) Tryz.underlying78 (by kernel_rfl) (fun n cs y h => in_work h) f1
    exact ⟨⟨z0, z1⟩, ⟨c1, rfl, s1⟩, x1⟩
theorem in_byte {n : Nat} {cs : List Value} {y : DataW H × List MemPlace} (h : DataW.trod enc Tryz.prog W base (fun _ => true) held n 5 cs = some y) : ∃ x : Int, KI.byte.K W x cs ∧ True := by
  obtain ⟨z, e, -, -⟩ := DataW.trod_int Tryz.underlying5 h
  exact ⟨z, e, trivial⟩
theorem in_nmsg {n : Nat} {cs : List Value} {y : DataW H × List MemPlace} (h : DataW.trod enc Tryz.prog W base (fun _ => true) held n 88 cs = some y) : ∃ x : NMsg, KI.nmsg.K W x cs ∧ True := by
  obtain ⟨m, hl, hf⟩ := field_at Tryz.underlying88 h
  rw [show Tryz.prog.cellsOf 88 = 3 by kernel_rfl] at hl
  match cs, hl with
  | [c0, c1, c2], _ =>
    obtain ⟨y0, f0⟩ := hf 0 3 0 rfl
    rw [cellsI] at f0
    have f0 : DataW.trod enc Tryz.prog W base (fun _ => true) held m 3 [c0] = some y0 := f0
    obtain ⟨z0, e0, -, w0⟩ := DataW.trod_int Tryz.underlying3 f0
    obtain rfl := (List.cons.inj e0).1
    obtain ⟨y1, f1⟩ := hf 1 4 1 rfl
    rw [cellsB] at f1
    have f1 : DataW.trod enc Tryz.prog W base (fun _ => true) held m 4 [c1] = some y1 := f1
    obtain ⟨z1, e1, -⟩ := DataW.trod_bool Tryz.underlying4 f1
    obtain rfl := (List.cons.inj e1).1
    obtain ⟨y2, f2⟩ := hf 2 60 2 rfl
    rw [(show Tryz.prog.cellsOf 60 = 1 by kernel_rfl)] at f2
    have f2 : DataW.trod enc Tryz.prog W base (fun _ => true) held m 60 [c2] = some y2 := f2
    obtain ⟨z2, s2, x2⟩ := in_S (d := KI.byte) (X := fun x => True) Tryz.underlying60 (by kernel_rfl) (fun n cs y h => in_byte h) f2
    exact ⟨⟨z0, z1, z2⟩, ⟨c2, rfl, s2⟩, trivial⟩
theorem in_wld {n : Nat} {cs : List Value} {y : DataW H × List MemPlace} (h : DataW.trod enc Tryz.prog W base (fun _ => true) held n 31 cs = some y) : ∃ (x : Wld) (v1 v2 v3 v4 v5 v6 : Value), cs = [v1, v2, v3, v4, v5, v6] ∧ KI.clause.S W v1 x.prog.cl ∧ KI.place.S W v2 x.prog.pl ∧ KI.node.S W v3 x.nodes ∧ KI.cell.S W v4 x.top ∧ KI.sout.S W v5 x.outs ∧ KI.nmsg.S W v6 x.net ∧ ∀ n ∈ x.nodes, ∀ y ∈ n.works, keysWf y.slv.binds := by
  obtain ⟨m, hl, hf⟩ := field_at Tryz.underlying31 h
  rw [show Tryz.prog.cellsOf 31 = 6 by kernel_rfl] at hl
  match cs, hl with
  | [c0, c1, c2, c3, c4, c5], _ =>
    obtain ⟨y0, f0⟩ := hf 0 25 0 rfl
    rw [(show Tryz.prog.cellsOf 25 = 2 by kernel_rfl)] at f0
    have f0 : DataW.trod enc Tryz.prog W base (fun _ => true) held m 25 [c0, c1] = some y0 := f0
    obtain ⟨z0, t0_0, t0_1, e0, g0_0, g0_1, x0⟩ := in_prog f0
    simp only [List.cons.injEq, and_true] at e0
    obtain ⟨rfl, rfl⟩ := e0
    obtain ⟨y1, f1⟩ := hf 1 26 2 rfl
    rw [(show Tryz.prog.cellsOf 26 = 1 by kernel_rfl)] at f1
    have f1 : DataW.trod enc Tryz.prog W base (fun _ => true) held m 26 [c2] = some y1 := f1
    obtain ⟨z1, s1, x1⟩ := in_S (d := KI.node) (X := fun x => ∀ y ∈ x.works, keysWf y.slv.binds) Tryz.underlying26 (by kernel_rfl) (fun n cs y h => in_node h) f1
    obtain ⟨y2, f2⟩ := hf 2 27 3 rfl
    rw [(show Tryz.prog.cellsOf 27 = 1 by kernel_rfl)] at f2
    have f2 : DataW.trod enc Tryz.prog W base (fun _ => true) held m 27 [c3] = some y2 := f2
    obtain ⟨z2, s2, x2⟩ := in_S (d := KI.cell) (X := fun x => True) Tryz.underlying27 (by kernel_rfl) (fun n cs y h => in_cell h) f2
    obtain ⟨y3, f3⟩ := hf 3 28 4 rfl
    rw [(show Tryz.prog.cellsOf 28 = 1 by kernel_rfl)] at f3
    have f3 : DataW.trod enc Tryz.prog W base (fun _ => true) held m 28 [c4] = some y3 := f3
    obtain ⟨z3, s3, x3⟩ := in_S (d := KI.sout) (X := fun x => True) Tryz.underlying28 (by kernel_rfl) (fun n cs y h => in_sout h) f3
    obtain ⟨y4, f4⟩ := hf 4 29 5 rfl
    rw [(show Tryz.prog.cellsOf 29 = 1 by kernel_rfl)] at f4
    have f4 : DataW.trod enc Tryz.prog W base (fun _ => true) held m 29 [c5] = some y4 := f4
    obtain ⟨z4, s4, x4⟩ := in_S (d := KI.nmsg) (X := fun x => True) Tryz.underlying29 (by kernel_rfl) (fun n cs y h => in_nmsg h) f4
    exact ⟨⟨z0, z1, z2, z3, z4⟩, _, _, c2, c3, c4, c5, rfl, g0_0, g0_1, s1, s2, s3, s4, x1⟩
end
end Go.Proofs.YtdoggcfdfkkedaaGreatDoor
namespace Go.Proofs.YtdoggcfdfkkedaaGreatDoor
open Go.ChangeShapes Go.WideShapes Go.ChangeAt Go.RowKit
set_option linter.unusedVariables false
set_option maxRecDepth 100000
theorem own : ownKnob Tryz.prog.godebug = none := by kernel_rfl
noncomputable def laidAll : List (String × DataW Unit) := [("unicode/utf8.acceptRanges", Rows.laid_unicode_utf8_acceptRanges), ("unicode/utf8.first", Rows.laid_unicode_utf8_first)]
noncomputable def laidWorld (os : Os) : World :=
  let w0 := World.doorLaid Tryz.prog 400 os
  { w0 with heap := w0.heap.modify 0 fun
    | .cells _ t frozen => .cells (Lib.firstTab.map fun z => Value.int .u8 z).toArray t frozen
    | o => o }
theorem door_met (os : Os) (args : Array Value) : laidMetH Tryz.prog laidAll ((laidWorld os).forCall (fun _ _ => 0) ⟨#[], args, []⟩).memory :=
  laidMetH_of_parts3 (fuel := 8) (laidMet_of_run' 8 (by kernel_rfl) (by kernel_rfl)) (by kernel_rfl) (by kernel_rfl)
theorem laidOut : laidOutB Tryz.prog = true := by kernel_rfl
def noWorld : Value := .agg #[.slice none 0 0, .slice none 0 0, .slice none 0 0, .slice none 0 0, .slice none 0 0, .slice none 0 0]
theorem wld_witness (os : Os) {H : Type} (enc : TypeId × Value → H) :
    (OpenSpec.ofChange Rows.fnExactWldOkSpec).preRow enc Tryz.prog Tryz.f3 Rows.fnExactWldOkRow.domain false laidAll ((laidWorld os).forCall (fun _ _ => 0) ⟨#[], #[noWorld], []⟩).memory #[noWorld] := by
  have hw : (DataW.whole enc Tryz.prog ((laidWorld os).forCall (fun _ _ => 0) ⟨#[], #[noWorld], []⟩).memory Tryz.f3.params.toList (OpenSpec.ofChange Rows.fnExactWldOkSpec).vars false #[noWorld].toList 8).map (fun x => (x.1, x.2.1)) =
      some ([.agg [.agg [.nil, .nil], .nil, .nil, .nil, .nil]], []) := by kernel_rfl
  obtain ⟨⟨x1, x2, x3⟩, hx, hx1⟩ := Option.map_eq_some_iff.1 hw
  simp only [Prod.mk.injEq] at hx1
  obtain ⟨rfl, rfl⟩ := hx1
  exact OpenSpec.preRow_of_cond 8 hx (by kernel_rfl) (fun k hk => by cases hk) (by kernel_rfl) (door_met os _)
theorem wld_lifted (os : Os) (started : os.Started) (H : Type) (enc : TypeId × Value → H) (F : Stop.Interp) :
    ReturnsInHanded {} Tryz.checked os 3 .any ((OpenSpec.ofChange Rows.fnExactWldOkSpec).preRow enc Tryz.prog Tryz.f3 Rows.fnExactWldOkRow.domain false laidAll) (((OpenSpec.ofChange Rows.fnExactWldOkSpec).at F).post enc Tryz.prog Tryz.f3 false true false false) := by
  refine returnsInHanded_of_row (C := Tryz.checked) (s := OpenSpec.ofChange Rows.fnExactWldOkSpec) own started (by kernel_rfl) Tryz.func3
    (witness_row_atRef (enc := enc) (C := Tryz.checked) false (laidWorld os) #[noWorld] rfl (by kernel_rfl) (by kernel_rfl) (by kernel_rfl) (wld_witness os enc)) ?_
  intro W base args ds gs before hval0 hW _ _ _ hL hSh _
  have hval : ∀ (j : Nat) t v, Tryz.f3.params[j]? = some t → args[j]? = some v → Value.okWide Tryz.prog W .any base t v := hval0
  have hW' := hW
  obtain ⟨p, q, hA0, hV0, rfl, _, _⟩ := hW
  have hA : DataW.TrodAll enc Tryz.prog W 0 (fun _ => true) true Tryz.f3.params.toList args.toList ds p := hA0
  rw [Tryz.params3] at hA hval
  obtain ⟨v0, d0, rfl, rfl, h0⟩ := trodAll_one hA
  obtain ⟨rfl, rfl⟩ := trodVars_none hV0
  have k0 := h0
  have lt0 : ∀ x ∈ p, x.block < W.heap.size := by obtain ⟨m, hm⟩ := k0; exact DataW.trod_lt m _ _ _ hm
  obtain ⟨cs, rfl, hsz⟩ := okWide_struct Tryz.underlying31 (hval 0 31 v0 rfl rfl)
  obtain ⟨n, hn⟩ := h0
  obtain ⟨x, v1, v2, v3, v4, v5, v6, hcs, g1, g2, g3, g4, g5, g6, hkw⟩ := in_wld (cs := cs.toList) (by
    have : (Value.agg cs).cells.toList = cs.toList := rfl
    rw [this] at hn
    exact hn)
  obtain rfl : cs = #[v1, v2, v3, v4, v5, v6] := by rw [← Array.toList_inj]; exact hcs
  clear hA0 hV0 hval0 hn hcs
  refine (lawWld_c x v1 v2 v3 v4 v5 v6 W g1 g2 g3 g4 g5 g6 hkw).mono ?_
  rintro e W' ⟨rfl, bel⟩
  exact ⟨_, rfl, _, _, _, [], _, [], hW', trodAll_mk1 (shut_bool Tryz.underlying4 _), trodAll_mk1 (Below.trod laidOut (by kernel_rfl) (of_decide_eq_true (by kernel_rfl)) k0 bel lt0), rfl, bel.frame _, fun h => by cases h⟩
theorem fnExactWldOk_holds : Rows.FnExactWldOkSaid :=
  OpenClaim.holds_of_cond 3 Tryz.f3 rfl rfl rfl rfl rfl rfl rfl ⟨rfl, rfl, rfl, rfl, rfl⟩ rfl rfl rfl rfl rfl (by kernel_rfl) Tryz.func3 (by kernel_rfl)
    (of_decide_eq_true (by kernel_rfl)) (by unfold Func.isWrapper; first | (rw [if_pos (by decide +kernel)]; kernel_rfl) | (rw [if_neg (by decide +kernel)]; exact ⟨rfl, rfl⟩))
    (fun os started H enc _ F0 => by rw [OpenClaim.pre_eq_preRow]; exact wld_lifted os started H enc F0)
theorem fnExactWldOk_card : Rows.FnExactWldOkCardSaid :=
  Claim7.holds_tied_plain_at .later [] [.data, .pinned] true Rows.fnExactWldOkCard.stood.harness false
    fnExactWldOk_holds (fun _ h => by cases h) (by kernel_rfl) (fun _ h => by cases h) fnExactWldOk_row_tie rfl ⟨rfl, rfl⟩ (by kernel_rfl) rfl
    (fun f fn hf hfn => by
      obtain rfl : f = 3 := Option.some.inj ((show Tryz.prog.funcNamed "loop.example/catechist/laws.FnExactWldOk" = some 3 by kernel_rfl).symm.trans hf) |>.symm
      obtain rfl : fn = Tryz.f3 := (Option.some.inj (Tryz.func3.symm.trans hfn)).symm
      exact ⟨by kernel_rfl, fun j t ht => by
        rw [Tryz.params3] at ht
        have hm : t ∈ [31] := by simpa using Array.mem_of_getElem? ht
        have hall : ([31].all fun u => !Tryz.prog.wantsStandIn u) = true := by kernel_rfl
        exact (show Tryz.prog.wantsStandIn t = false by simpa using List.all_eq_true.1 hall t hm)⟩)
    (by kernel_rfl)
#print axioms fnExactWldOk_card
end Go.Proofs.YtdoggcfdfkkedaaGreatDoor
