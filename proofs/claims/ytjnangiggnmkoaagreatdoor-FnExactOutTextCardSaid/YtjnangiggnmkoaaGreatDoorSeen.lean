/- A map from numbers to booleans that the call makes: the set of what was seen. -/
import Derived.Test.YtjnangiggnmkoaaGreatDoorImUni
import Derived.Maps.Own
import Derived.Maps.OwnOps
import Derived.Maps.OwnSet
import Derived.Maps.Views
namespace Go.Proofs.YtjnangiggnmkoaaGreatDoor
open Go.RowKit
set_option linter.unusedVariables false
set_option maxRecDepth 100000
theorem kInt : Go.Maps.Keyed Tryz.prog 3 := Go.Maps.int_keyed Tryz.underlying3
/-- Block b is a map that says true of just these numbers. -/
def Seen (w : World) (b : Nat) (S : List Int) : Prop :=
  ∃ D : DataW Unit, w.ownsMap Tryz.prog 3 (plainElem Tryz.prog 4) b S.length D ∧ Go.Maps.IsMap D ∧ ∀ x : Int, D.atKey (.int .i64 x) (.lit (.bool false)) = .lit (.bool (decide (x ∈ S)))
theorem Seen.made (w : World) : Seen (w.alloc (.map #[] 0)) w.heap.size [] :=
  ⟨.map [], World.ownsMap_made w _ _ _, Go.Maps.isMap_empty, fun x => by simp [DataW.atKey]⟩
theorem Seen.kept {w w' : World} {b : Nat} {S : List Int} {row : Option Nat} (h : Seen w b S) (hg : w.grownBy w' row) (hne : some b ≠ row) : Seen w' b S := by
  obtain ⟨D, h1, h2, h3⟩ := h
  exact ⟨D, h1.kept hg hne, h2, h3⟩
theorem Seen.lt {w : World} {b : Nat} {S : List Int} (h : Seen w b S) : b < w.heap.size := by
  obtain ⟨D, h1, -⟩ := h; exact h1.lt
theorem Seen.ext {w w' : World} {b : Nat} {S : List Int} (h : Seen w b S) (hb : Below w.heap.size w w') : Seen w' b S :=
  h.kept (row := none) ⟨hb.os, hb.tape, hb.output, hb.size, fun i hi _ => hb.block i hi⟩ (by simp)
theorem Seen.map {w : World} {b : Nat} {S : List Int} (h : Seen w b S) : ∃ es c, w.heap[b]? = some (.map es c) := by
  obtain ⟨D, ⟨es, c, h1, -⟩, -⟩ := h; exact ⟨es, c, h1⟩
theorem wf_i64 {x : Int} (h0 : -1000000000 ≤ x) (h1 : x ≤ 1000000000) : (Lit.int .i64 x).wf = true := WalkArith.wf_i64 (by omega)
theorem wp_seen_look {P : Program} (hP : P = Tryz.prog) {w : World} {ops : Array Oper} {rest : List Oper} {o : Oper} {a : Act} {Q : Exit → Act → World → Prop} (hgd : o.guard = none) {m x : Operand} (ho : o.op = .lookup 119 m x false)
    {b : Nat} {S : List Int} (h : Seen w b S) (hm : a.eval m = .map (some b)) {n : Int} (hx : a.eval x = .int .i64 n) (h0 : -1000000000 ≤ n) (h1 : n ≤ 1000000000)
    (k : wpList P ops Q rest (a.put o.dst (.bool (decide (n ∈ S)))) w) : wpList P ops Q (o :: rest) a w := by
  subst hP
  refine wpList_plain hgd fun K hK => ?_
  obtain ⟨D, h2, h3, h4⟩ := h
  obtain ⟨v, ps, hrun, hv⟩ := h2.lookup kInt Tryz.underlying119 (z := .bool false) (Tryz.zeroValue4 w) (plainElem_bool Tryz.underlying4 false) (Go.Maps.keyOf_int_mk Tryz.underlying3 (wf_i64 h0 h1))
  rw [h4 n] at hv
  have he : v = .bool (decide (n ∈ S)) := by
    unfold plainElem at hv
    rw [Tryz.underlying4] at hv
    cases v <;> simp at hv
    rw [hv.1]
  subst he
  unfold Oper.wp
  simp [execOp, ho, hm, hx, hrun, Result.andThen]
  exact hK _ _ k
theorem wp_seen_put {P : Program} (hP : P = Tryz.prog) {w : World} {ops : Array Oper} {rest : List Oper} {o : Oper} {a : Act} {Q : Exit → Act → World → Prop} (hgd : o.guard = none) {m x v : Operand} (ho : o.op = .mapUpdate 119 m x v)
    {b : Nat} {S : List Int} (h : Seen w b S) (hm : a.eval m = .map (some b)) {n : Int} (hx : a.eval x = .int .i64 n) (hv : a.eval v = .bool true) (h0 : -1000000000 ≤ n) (h1 : n ≤ 1000000000) (hl : S.length ≤ 1000000000)
    (k : ∀ w', Seen w' b (S ++ [n]) → w.grownBy w' (some b) → wpList P ops Q rest (a.put o.dst undef) w') : wpList P ops Q (o :: rest) a w := by
  subst hP
  obtain ⟨D, h2, h3, h4⟩ := h
  refine wpList_mapUpdate_own w hgd m x v _ ho 3 4 kInt Tryz.underlying119 _ b S.length D hm h2 (by unfold maxLen; omega) _ _ _ hx hv (Go.Maps.keyOf_int_mk Tryz.underlying3 (wf_i64 h0 h1)) _ [] (plainElem_bool Tryz.underlying4 true) (fun w' a1 a2 => k w' ⟨_, by rw [List.length_append]; exact a1, h3.put _ _, fun y => ?_⟩ a2)
  by_cases e : y = n
  · subst e
    rw [Go.Maps.atKey_put_same h3 (by trivial)]; simp
  · rw [Go.Maps.atKey_put_other (by simpa using e), h4 y]
    congr 2
    simp [e]
/-- Where nothing but a map turned, cells stay. -/
theorem grown_keep {w w' : World} {b : Nat} {S : List Int} (h : Seen w b S) (hg : w.grownBy w' (some b)) (E : List Nat) : Keep E w w' := fun k cells q fz hk hq => by
  refine hg.block k (Array.getElem?_eq_some_iff.1 hk).1 (fun e => ?_)
  obtain ⟨es, c, hm⟩ := h.map
  rw [Option.some.inj e, hm] at hk
  cases hk
theorem grown_O {α : Type} {d : Kd α} {w w' : World} {b e base : Nat} {S : List Int} {v : Value} {xs : List α} (h : Seen w b S) (hg : w.grownBy w' (some b)) (ho : d.O e w base v xs) : d.O e w' base v xs := by
  refine Kd.O_mov (grown_keep h hg _) (fun k hk => ?_) ho
  obtain ⟨c, hc⟩ := Kd.O_typed ho k hk
  exact grown_keep h hg [e] k c e _ hc List.mem_cons_self
theorem grown_S {α : Type} {d : Kd α} {w w' : World} {b e : Nat} {S : List Int} {v : Value} {xs : List α} (h : Seen w b S) (hg : w.grownBy w' (some b)) (ho : d.S e w v xs) : d.S e w' v xs := Kd.S_mov (grown_keep h hg _) ho
theorem grown_C {α : Type} {d : Kd α} {w w' : World} {b e : Nat} {S : List Int} {A : Option Addr} {xs : List α} (h : Seen w b S) (hg : w.grownBy w' (some b)) (ho : d.C e w A xs) : d.C e w' A xs := Kd.C_mov (grown_keep h hg _) ho
theorem grown_of_below {w w' : World} (hb : Below w.heap.size w w') (row : Option Nat) : w.grownBy w' row := ⟨hb.os, hb.tape, hb.output, hb.size, fun i hi _ => hb.block i hi⟩
end Go.Proofs.YtjnangiggnmkoaaGreatDoor
