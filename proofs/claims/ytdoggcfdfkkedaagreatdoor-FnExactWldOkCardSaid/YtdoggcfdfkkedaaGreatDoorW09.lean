/- Lemmas and contracts for FnExactWldOk, part 9. -/
import Derived.Test.YtdoggcfdfkkedaaGreatDoorW08
import Derived.Test.YtdoggcfdfkkedaaGreatDoorW00
namespace Go.Proofs.YtdoggcfdfkkedaaGreatDoor
open Go.RowKit
set_option maxRecDepth 100000
set_option maxHeartbeats 2000000
set_option linter.unusedVariables false
theorem S_one {α : Type} {d : Kd α} {e : Nat} {w : World} {v : Value} {xs : List α} (h : d.S e w v xs) : v.oneCell' = true := by obtain ⟨A, c, rfl, _⟩ := h; rfl
theorem C_at {α : Type} {d : Kd α} {e : Nat} {w : World} {A : Option Addr} {xs : List α} (h : d.C e w A xs) {i : Nat} {x : α} (hi : xs[i]? = some x) :
    ∃ ad cs, A = some ad ∧ d.K w x cs ∧ (∀ u, cs[0]? = some u → w.cell? (ad.add (i * d.sz)) = some u) ∧ ∀ j u, cs[j + 1]? = some u → w.cell? ⟨(ad.add (i * d.sz)).block, (ad.add (i * d.sz)).off + (j + 1), none⟩ = some u := by
  obtain ⟨ad, cs, _, _, ea, _, hk, hc⟩ := h i x hi
  refine ⟨ad, cs, ea, hk, fun u hu => ?_, fun j u hu => ?_⟩
  · have := hc 0 u hu; rwa [Nat.add_zero] at this
  · have := hc (j + 1) u hu; rw [← add_add'] at this; exact this
abbrev T0 (w : World) (v : Value) (t : Trm) : Prop := Kd.cell.S 112 w v t
theorem T0_mov {E : List Nat} {w w' : World} {v : Value} {t : Trm} (hk : Keep E w w') (hE : 112 ∈ E) (h : T0 w v t) : T0 w' v t :=
  Kd.S_mov (hk.sub fun q hq => by
    have : q = 112 := by simpa [Kd.cell] using hq
    rw [this]; exact hE) h
def Kd.goal : Kd Goal where
  sz := 4
  E := [112]
  K := fun w g cs => ∃ av bv cv, cs = [.int .i64 g.k, av, bv, cv] ∧ T0 w av g.a ∧ T0 w bv g.b ∧ T0 w cv g.c
  len := by rintro w x cs ⟨_, _, _, rfl, _⟩; rfl
  one := by
    rintro w x cs ⟨av, bv, cv, rfl, h1, h2, h3⟩ u hu
    simp only [List.mem_cons, List.mem_nil_iff, or_false] at hu
    rcases hu with rfl | rfl | rfl | rfl
    · rfl
    · exact S_one h1
    · exact S_one h2
    · exact S_one h3
  mov := by rintro w w' x cs hk ⟨av, bv, cv, e, h1, h2, h3⟩; exact ⟨av, bv, cv, e, T0_mov hk (by simp) h1, T0_mov hk (by simp) h2, T0_mov hk (by simp) h3⟩
def Kd.sgoal : Kd SGoal where
  sz := 5
  E := [112]
  K := fun w g cs => ∃ av bv cv, cs = [.int .i64 g.g.k, av, bv, cv, .int .i64 g.cut] ∧ T0 w av g.g.a ∧ T0 w bv g.g.b ∧ T0 w cv g.g.c
  len := by rintro w x cs ⟨_, _, _, rfl, _⟩; rfl
  one := by
    rintro w x cs ⟨av, bv, cv, rfl, h1, h2, h3⟩ u hu
    simp only [List.mem_cons, List.mem_nil_iff, or_false] at hu
    rcases hu with rfl | rfl | rfl | rfl | rfl
    · rfl
    · exact S_one h1
    · exact S_one h2
    · exact S_one h3
    · rfl
  mov := by rintro w w' x cs hk ⟨av, bv, cv, e, h1, h2, h3⟩; exact ⟨av, bv, cv, e, T0_mov hk (by simp) h1, T0_mov hk (by simp) h2, T0_mov hk (by simp) h3⟩
abbrev G0 (w : World) (v : Value) (gs : List SGoal) : Prop := Kd.sgoal.S 219 w v gs
abbrev B0 (w : World) (v : Value) (s : Binds) : Prop := Kd.bind.S 216 w v s
def Kd.clause : Kd Clause where
  sz := 2
  E := [112, 137]
  K := fun w c cs => ∃ hv bv, cs = [hv, bv] ∧ T0 w hv c.head ∧ Kd.goal.S 137 w bv c.body
  len := by rintro w x cs ⟨_, _, rfl, _⟩; rfl
  one := by
    rintro w x cs ⟨hv, bv, rfl, h1, h2⟩ u hu
    simp only [List.mem_cons, List.mem_nil_iff, or_false] at hu
    rcases hu with rfl | rfl
    · exact S_one h1
    · exact S_one h2
  mov := by
    rintro w w' x cs hk ⟨hv, bv, e, h1, h2⟩
    exact ⟨hv, bv, e, T0_mov hk (by simp) h1, Kd.S_mov (hk.sub fun q hq => by simp only [Kd.goal, List.mem_cons, List.mem_nil_iff, or_false] at hq ⊢; omega) h2⟩
def Kd.place : Kd Place where
  sz := 3
  E := []
  K := fun w c cs => cs = [.string c.name, .int .i64 c.n, .int .i64 c.node]
  len := by rintro w x cs rfl; rfl
  one := by
    rintro w x cs rfl u hu
    simp only [List.mem_cons, List.mem_nil_iff, or_false] at hu
    rcases hu with rfl | rfl | rfl <;> rfl
  mov := fun _ h => h
theorem G0_mov {E : List Nat} {w w' : World} {v : Value} {gs : List SGoal} (hk : Keep E w w') (hE : 112 ∈ E) (hE2 : 219 ∈ E) (h : G0 w v gs) : G0 w' v gs :=
  Kd.S_mov (hk.sub fun q hq => by
    simp only [Kd.sgoal, List.mem_cons, List.mem_nil_iff, or_false] at hq
    rcases hq with rfl | rfl
    · exact hE2
    · exact hE) h
def Kd.tch : Kd TCh where
  sz := 6
  E := [112, 219]
  K := fun w c cs => ∃ gv av, cs = [gv, .int .i64 c.mark, .int .i64 c.vars, av, .int .i64 c.next, .int .i64 c.far] ∧ G0 w gv c.goals ∧ T0 w av c.call
  len := by rintro w x cs ⟨_, _, rfl, _⟩; rfl
  one := by
    rintro w x cs ⟨gv, av, rfl, h1, h2⟩ u hu
    simp only [List.mem_cons, List.mem_nil_iff, or_false] at hu
    rcases hu with rfl | rfl | rfl | rfl | rfl | rfl
    · exact S_one h1
    · rfl
    · rfl
    · exact S_one h2
    · rfl
    · rfl
  mov := by rintro w w' x cs hk ⟨gv, av, e, h1, h2⟩; exact ⟨gv, av, e, G0_mov hk (by simp) (by simp) h1, T0_mov hk (by simp) h2⟩
abbrev Kd.sout : Kd (Int × Trm) := Kd.bind
section
variable {e : Nat} {w : World} {A : Option Addr} {i : Nat}
theorem goal_at {xs : List Goal} {x : Goal} (h : Kd.goal.C e w A xs) (hi : xs[i]? = some x) : ∃ ad av bv cv, A = some ad ∧ w.cell? (ad.add (i * 4)) = some (.int .i64 x.k) ∧ w.cell? ⟨(ad.add (i * 4)).block, (ad.add (i * 4)).off + 1, none⟩ = some av ∧ w.cell? ⟨(ad.add (i * 4)).block, (ad.add (i * 4)).off + 2, none⟩ = some bv ∧ w.cell? ⟨(ad.add (i * 4)).block, (ad.add (i * 4)).off + 3, none⟩ = some cv ∧ T0 w av x.a ∧ T0 w bv x.b ∧ T0 w cv x.c := by
  obtain ⟨ad, cs, ea, ⟨av, bv, cv, rfl, h1, h2, h3⟩, c0, c1⟩ := C_at h hi
  exact ⟨ad, av, bv, cv, ea, c0 _ rfl, c1 0 _ rfl, c1 1 _ rfl, c1 2 _ rfl, h1, h2, h3⟩
theorem sgoal_at {xs : List SGoal} {x : SGoal} (h : Kd.sgoal.C e w A xs) (hi : xs[i]? = some x) : ∃ ad av bv cv, A = some ad ∧ w.cell? (ad.add (i * 5)) = some (.int .i64 x.g.k) ∧ w.cell? ⟨(ad.add (i * 5)).block, (ad.add (i * 5)).off + 1, none⟩ = some av ∧ w.cell? ⟨(ad.add (i * 5)).block, (ad.add (i * 5)).off + 2, none⟩ = some bv ∧ w.cell? ⟨(ad.add (i * 5)).block, (ad.add (i * 5)).off + 3, none⟩ = some cv ∧ w.cell? ⟨(ad.add (i * 5)).block, (ad.add (i * 5)).off + 4, none⟩ = some (.int .i64 x.cut) ∧ T0 w av x.g.a ∧ T0 w bv x.g.b ∧ T0 w cv x.g.c := by
  obtain ⟨ad, cs, ea, ⟨av, bv, cv, rfl, h1, h2, h3⟩, c0, c1⟩ := C_at h hi
  exact ⟨ad, av, bv, cv, ea, c0 _ rfl, c1 0 _ rfl, c1 1 _ rfl, c1 2 _ rfl, c1 3 _ rfl, h1, h2, h3⟩
theorem clause_at {xs : List Clause} {x : Clause} (h : Kd.clause.C e w A xs) (hi : xs[i]? = some x) : ∃ ad hv bv, A = some ad ∧ w.cell? (ad.add (i * 2)) = some hv ∧ w.cell? ⟨(ad.add (i * 2)).block, (ad.add (i * 2)).off + 1, none⟩ = some bv ∧ T0 w hv x.head ∧ Kd.goal.S 137 w bv x.body := by
  obtain ⟨ad, cs, ea, ⟨hv, bv, rfl, h1, h2⟩, c0, c1⟩ := C_at h hi
  exact ⟨ad, hv, bv, ea, c0 _ rfl, c1 0 _ rfl, h1, h2⟩
theorem place_at {xs : List Place} {x : Place} (h : Kd.place.C e w A xs) (hi : xs[i]? = some x) : ∃ ad, A = some ad ∧ w.cell? (ad.add (i * 3)) = some (.string x.name) ∧ w.cell? ⟨(ad.add (i * 3)).block, (ad.add (i * 3)).off + 1, none⟩ = some (.int .i64 x.n) ∧ w.cell? ⟨(ad.add (i * 3)).block, (ad.add (i * 3)).off + 2, none⟩ = some (.int .i64 x.node) := by
  obtain ⟨ad, cs, ea, rfl, c0, c1⟩ := C_at h hi
  exact ⟨ad, ea, c0 _ rfl, c1 0 _ rfl, c1 1 _ rfl⟩
theorem tch_at {xs : List TCh} {x : TCh} (h : Kd.tch.C e w A xs) (hi : xs[i]? = some x) : ∃ ad gv av, A = some ad ∧ w.cell? (ad.add (i * 6)) = some gv ∧ w.cell? ⟨(ad.add (i * 6)).block, (ad.add (i * 6)).off + 1, none⟩ = some (.int .i64 x.mark) ∧ w.cell? ⟨(ad.add (i * 6)).block, (ad.add (i * 6)).off + 2, none⟩ = some (.int .i64 x.vars) ∧ w.cell? ⟨(ad.add (i * 6)).block, (ad.add (i * 6)).off + 3, none⟩ = some av ∧ w.cell? ⟨(ad.add (i * 6)).block, (ad.add (i * 6)).off + 4, none⟩ = some (.int .i64 x.next) ∧ w.cell? ⟨(ad.add (i * 6)).block, (ad.add (i * 6)).off + 5, none⟩ = some (.int .i64 x.far) ∧ G0 w gv x.goals ∧ T0 w av x.call := by
  obtain ⟨ad, cs, ea, ⟨gv, av, rfl, h1, h2⟩, c0, c1⟩ := C_at h hi
  exact ⟨ad, gv, av, ea, c0 _ rfl, c1 0 _ rfl, c1 1 _ rfl, c1 2 _ rfl, c1 3 _ rfl, c1 4 _ rfl, h1, h2⟩
end
end Go.Proofs.YtdoggcfdfkkedaaGreatDoor
namespace Go.Proofs.YtdoggcfdfkkedaaGreatDoor
set_option linter.unusedVariables false
end Go.Proofs.YtdoggcfdfkkedaaGreatDoor
namespace Go.Proofs.YtdoggcfdfkkedaaGreatDoor
set_option linter.unusedVariables false
abbrev SOut := Int × Trm
structure Work where
  outs : List SOut
  want : Int
  asked : Bool
  slv : TSt
structure Nod where
  up : Bool
  works : List Work
structure NMsg where
  dst : Int
  bent : Bool
  bytes : List Int
structure Wld where
  prog : Prog
  nodes : List Nod
  top : Trm
  outs : List SOut
  net : List NMsg
noncomputable def outsAll (top : Trm) : List SOut → Bool
  | [] => true
  | o :: os => outOk top o.1 o.2 && (os.isEmpty || decide (o.1 = 2)) && outsAll top os
noncomputable def outsOk (top : Trm) (os : List SOut) : Bool := outsAll top os && decide (os.length ≤ 12000)
def endedO (os : List SOut) : Bool := match os.getLast? with
  | none => false
  | some o => !decide (o.1 = 2)
def lastIs (os : List SOut) (st : Int) (t : Trm) : Bool := match os.getLast? with
  | none => false
  | some o => decide (o.1 = st) && decide (o.2 = t)
noncomputable def workOk (p : Prog) (node : Int) (w : Work) : Bool :=
  tOk p node w.slv && decide (nodeOf p w.slv.top = node) && outsOk w.slv.top w.outs && inR w.want 1 12000 && (if w.slv.st = 1 ∨ w.slv.st = 6 then !endedO w.outs else lastIs w.outs w.slv.st w.slv.out)
noncomputable def worksOk (p : Prog) (node : Int) : List Work → List Work → Bool
  | _, [] => true
  | ahead, w :: ws => workOk p node w && !ahead.any (fun x => decide (x.slv.top = w.slv.top)) && worksOk p node (ahead ++ [w]) ws
noncomputable def nodOk (p : Prog) (node : Int) (n : Nod) : Bool := prgOk p && inR node 0 2 && decide (n.works.length ≤ 32) && (n.up || n.works.isEmpty) && worksOk p node [] n.works
noncomputable def nodesOk (p : Prog) : Nat → List Nod → Bool
  | _, [] => true
  | i, n :: ns => nodOk p i n && nodesOk p (i + 1) ns
def netOk (m : NMsg) : Bool := inR m.dst 0 3 && decide (m.bytes.length ≤ 1104)
noncomputable def wldOk (w : Wld) : Bool := prgOk w.prog && isQ w.top && decide (w.nodes.length = 3) && outsOk w.top w.outs && decide (w.net.length ≤ 160) && nodesOk w.prog 0 w.nodes && w.net.all netOk
theorem outs_last {top : Trm} : ∀ {os : List SOut} {o : SOut}, outsAll top os = true → os.getLast? = some o → outOk top o.1 o.2 = true
  | [], o, _, h => by simp at h
  | [x], o, h, hl => by
    simp only [List.getLast?_singleton] at hl
    obtain rfl := Option.some.inj hl
    unfold outsAll at h
    simp only [Bool.and_eq_true] at h
    exact h.1.1
  | x :: y :: os, o, h, hl => by
    unfold outsAll at h
    simp only [Bool.and_eq_true] at h
    rw [List.getLast?_cons_cons] at hl
    exact outs_last h.2 hl
theorem out_term {top : Trm} {st : Int} {t : Trm} (h : outOk top st t = true) (hs : st ≠ 2) : t = [] ∧ 3 ≤ st ∧ st ≤ 5 := by
  unfold outOk at h
  split at h
  · cases h
  · split at h
    · exact ⟨nil_of_empty h, by omega, by omega⟩
    · cases h
theorem work_ref {p : Prog} {node : Int} {w : Work} (h1 : tOk p node w.slv = true) (h2 : outsAll w.slv.top w.outs = true) (hs : ¬ (w.slv.st = 1 ∨ w.slv.st = 6)) :
    lastIs w.outs w.slv.st w.slv.out = (if w.slv.st = 2 then lastIs w.outs 2 w.slv.out else (match w.outs.getLast? with | none => false | some o => !decide (o.1 = 2) && decide (o.1 = w.slv.st))) := by
  split
  · rename_i h; rw [h]
  · rename_i h
    unfold lastIs
    cases hl : w.outs.getLast? with
    | none => rfl
    | some o =>
      have ho := outs_last h2 hl
      dsimp only
      by_cases e : o.1 = w.slv.st
      · have hne : o.1 ≠ 2 := by omega
        obtain ⟨t1, t2, t3⟩ := out_term ho hne
        have hout : w.slv.out = [] := by
          obtain ⟨-, -, -, hT⟩ := tOk_tok h1
          rcases hT with ⟨_, _, hn, _⟩ | ⟨_, _, hst⟩
          · unfold nothing at hn
            simp only [Bool.and_eq_true] at hn
            exact nil_of_empty hn.1.2
          · exfalso
            unfold statOk at hst
            rw [if_neg (by omega), if_neg (by omega), if_neg (by omega)] at hst
            cases hst
        rw [t1, hout]; simp [e, h]
      · simp [e]
end Go.Proofs.YtdoggcfdfkkedaaGreatDoor
namespace Go.Proofs.YtdoggcfdfkkedaaGreatDoor
open Go.RowKit
set_option maxRecDepth 100000
set_option maxHeartbeats 4000000
set_option linter.unusedVariables false
def KI.byte : KI Int where
  sz := 1
  K := fun _ x cs => cs = [.int .u8 x]
  ext := fun _ h => h
def KI.cell : KI Cell where
  sz := 3
  K := fun w x cs => cs = [.int .i64 x.k, .int .i64 x.n, .string x.s] ∧ x.s.size ≤ maxLen
  ext := fun _ h => h
theorem kcell_at {w : World} {A : Option Addr} {i : Nat} {xs : List Cell} {x : Cell} (h : KI.cell.C w A xs) (hi : xs[i]? = some x) : ∃ ad , A = some ad ∧ w.cell? (ad.add (i * 3)) = some (.int .i64 x.k) ∧ w.cell? ⟨(ad.add (i * 3)).block, (ad.add (i * 3)).off + 1, none⟩ = some (.int .i64 x.n) ∧ w.cell? ⟨(ad.add (i * 3)).block, (ad.add (i * 3)).off + 2, none⟩ = some (.string x.s) ∧ x.s.size ≤ maxLen := by
  obtain ⟨ad, cs, ea, ⟨rfl, h1⟩, c0, c1⟩ := KI.C_at h hi
  exact ⟨ad, ea, c0 _ rfl, c1 0 _ rfl, c1 1 _ rfl, h1⟩
def KI.goal : KI Goal where
  sz := 4
  K := fun w x cs => ∃ v1 v2 v3, cs = [.int .i64 x.k, v1, v2, v3] ∧ KI.cell.S w v1 x.a ∧ KI.cell.S w v2 x.b ∧ KI.cell.S w v3 x.c
  ext := by rintro w w' x cs hb ⟨v1, v2, v3, e, h1, h2, h3⟩; exact ⟨v1, v2, v3, e, KI.S_ext hb h1, KI.S_ext hb h2, KI.S_ext hb h3⟩
theorem kgoal_at {w : World} {A : Option Addr} {i : Nat} {xs : List Goal} {x : Goal} (h : KI.goal.C w A xs) (hi : xs[i]? = some x) : ∃ ad v1 v2 v3, A = some ad ∧ w.cell? (ad.add (i * 4)) = some (.int .i64 x.k) ∧ w.cell? ⟨(ad.add (i * 4)).block, (ad.add (i * 4)).off + 1, none⟩ = some (v1) ∧ w.cell? ⟨(ad.add (i * 4)).block, (ad.add (i * 4)).off + 2, none⟩ = some (v2) ∧ w.cell? ⟨(ad.add (i * 4)).block, (ad.add (i * 4)).off + 3, none⟩ = some (v3) ∧ KI.cell.S w v1 x.a ∧ KI.cell.S w v2 x.b ∧ KI.cell.S w v3 x.c := by
  obtain ⟨ad, cs, ea, ⟨v1, v2, v3, rfl, h1, h2, h3⟩, c0, c1⟩ := KI.C_at h hi
  exact ⟨ad, v1, v2, v3, ea, c0 _ rfl, c1 0 _ rfl, c1 1 _ rfl, c1 2 _ rfl, h1, h2, h3⟩
def KI.clause : KI Clause where
  sz := 2
  K := fun w x cs => ∃ v1 v2, cs = [v1, v2] ∧ KI.cell.S w v1 x.head ∧ KI.goal.S w v2 x.body
  ext := by rintro w w' x cs hb ⟨v1, v2, e, h1, h2⟩; exact ⟨v1, v2, e, KI.S_ext hb h1, KI.S_ext hb h2⟩
theorem kclause_at {w : World} {A : Option Addr} {i : Nat} {xs : List Clause} {x : Clause} (h : KI.clause.C w A xs) (hi : xs[i]? = some x) : ∃ ad v1 v2, A = some ad ∧ w.cell? (ad.add (i * 2)) = some (v1) ∧ w.cell? ⟨(ad.add (i * 2)).block, (ad.add (i * 2)).off + 1, none⟩ = some (v2) ∧ KI.cell.S w v1 x.head ∧ KI.goal.S w v2 x.body := by
  obtain ⟨ad, cs, ea, ⟨v1, v2, rfl, h1, h2⟩, c0, c1⟩ := KI.C_at h hi
  exact ⟨ad, v1, v2, ea, c0 _ rfl, c1 0 _ rfl, h1, h2⟩
def KI.place : KI Place where
  sz := 3
  K := fun w x cs => cs = [.string x.name, .int .i64 x.n, .int .i64 x.node] ∧ x.name.size ≤ maxLen
  ext := fun _ h => h
theorem kplace_at {w : World} {A : Option Addr} {i : Nat} {xs : List Place} {x : Place} (h : KI.place.C w A xs) (hi : xs[i]? = some x) : ∃ ad , A = some ad ∧ w.cell? (ad.add (i * 3)) = some (.string x.name) ∧ w.cell? ⟨(ad.add (i * 3)).block, (ad.add (i * 3)).off + 1, none⟩ = some (.int .i64 x.n) ∧ w.cell? ⟨(ad.add (i * 3)).block, (ad.add (i * 3)).off + 2, none⟩ = some (.int .i64 x.node) ∧ x.name.size ≤ maxLen := by
  obtain ⟨ad, cs, ea, ⟨rfl, h1⟩, c0, c1⟩ := KI.C_at h hi
  exact ⟨ad, ea, c0 _ rfl, c1 0 _ rfl, c1 1 _ rfl, h1⟩
def KI.sgoal : KI SGoal where
  sz := 5
  K := fun w x cs => ∃ v1 v2 v3, cs = [.int .i64 x.g.k, v1, v2, v3, .int .i64 x.cut] ∧ KI.cell.S w v1 x.g.a ∧ KI.cell.S w v2 x.g.b ∧ KI.cell.S w v3 x.g.c
  ext := by rintro w w' x cs hb ⟨v1, v2, v3, e, h1, h2, h3⟩; exact ⟨v1, v2, v3, e, KI.S_ext hb h1, KI.S_ext hb h2, KI.S_ext hb h3⟩
theorem ksgoal_at {w : World} {A : Option Addr} {i : Nat} {xs : List SGoal} {x : SGoal} (h : KI.sgoal.C w A xs) (hi : xs[i]? = some x) : ∃ ad v1 v2 v3, A = some ad ∧ w.cell? (ad.add (i * 5)) = some (.int .i64 x.g.k) ∧ w.cell? ⟨(ad.add (i * 5)).block, (ad.add (i * 5)).off + 1, none⟩ = some (v1) ∧ w.cell? ⟨(ad.add (i * 5)).block, (ad.add (i * 5)).off + 2, none⟩ = some (v2) ∧ w.cell? ⟨(ad.add (i * 5)).block, (ad.add (i * 5)).off + 3, none⟩ = some (v3) ∧ w.cell? ⟨(ad.add (i * 5)).block, (ad.add (i * 5)).off + 4, none⟩ = some (.int .i64 x.cut) ∧ KI.cell.S w v1 x.g.a ∧ KI.cell.S w v2 x.g.b ∧ KI.cell.S w v3 x.g.c := by
  obtain ⟨ad, cs, ea, ⟨v1, v2, v3, rfl, h1, h2, h3⟩, c0, c1⟩ := KI.C_at h hi
  exact ⟨ad, v1, v2, v3, ea, c0 _ rfl, c1 0 _ rfl, c1 1 _ rfl, c1 2 _ rfl, c1 3 _ rfl, h1, h2, h3⟩
def KI.bind : KI (Int × Trm) where
  sz := 2
  K := fun w x cs => ∃ v1, cs = [.int .i64 x.1, v1] ∧ KI.cell.S w v1 x.2
  ext := by rintro w w' x cs hb ⟨v1, e, h1⟩; exact ⟨v1, e, KI.S_ext hb h1⟩
theorem kbind_at {w : World} {A : Option Addr} {i : Nat} {xs : List (Int × Trm)} {x : (Int × Trm)} (h : KI.bind.C w A xs) (hi : xs[i]? = some x) : ∃ ad v1, A = some ad ∧ w.cell? (ad.add (i * 2)) = some (.int .i64 x.1) ∧ w.cell? ⟨(ad.add (i * 2)).block, (ad.add (i * 2)).off + 1, none⟩ = some (v1) ∧ KI.cell.S w v1 x.2 := by
  obtain ⟨ad, cs, ea, ⟨v1, rfl, h1⟩, c0, c1⟩ := KI.C_at h hi
  exact ⟨ad, v1, ea, c0 _ rfl, c1 0 _ rfl, h1⟩
def KI.tch : KI TCh where
  sz := 6
  K := fun w x cs => ∃ v1 v2, cs = [v1, .int .i64 x.mark, .int .i64 x.vars, v2, .int .i64 x.next, .int .i64 x.far] ∧ KI.sgoal.S w v1 x.goals ∧ KI.cell.S w v2 x.call
  ext := by rintro w w' x cs hb ⟨v1, v2, e, h1, h2⟩; exact ⟨v1, v2, e, KI.S_ext hb h1, KI.S_ext hb h2⟩
theorem ktch_at {w : World} {A : Option Addr} {i : Nat} {xs : List TCh} {x : TCh} (h : KI.tch.C w A xs) (hi : xs[i]? = some x) : ∃ ad v1 v2, A = some ad ∧ w.cell? (ad.add (i * 6)) = some (v1) ∧ w.cell? ⟨(ad.add (i * 6)).block, (ad.add (i * 6)).off + 1, none⟩ = some (.int .i64 x.mark) ∧ w.cell? ⟨(ad.add (i * 6)).block, (ad.add (i * 6)).off + 2, none⟩ = some (.int .i64 x.vars) ∧ w.cell? ⟨(ad.add (i * 6)).block, (ad.add (i * 6)).off + 3, none⟩ = some (v2) ∧ w.cell? ⟨(ad.add (i * 6)).block, (ad.add (i * 6)).off + 4, none⟩ = some (.int .i64 x.next) ∧ w.cell? ⟨(ad.add (i * 6)).block, (ad.add (i * 6)).off + 5, none⟩ = some (.int .i64 x.far) ∧ KI.sgoal.S w v1 x.goals ∧ KI.cell.S w v2 x.call := by
  obtain ⟨ad, cs, ea, ⟨v1, v2, rfl, h1, h2⟩, c0, c1⟩ := KI.C_at h hi
  exact ⟨ad, v1, v2, ea, c0 _ rfl, c1 0 _ rfl, c1 1 _ rfl, c1 2 _ rfl, c1 3 _ rfl, c1 4 _ rfl, h1, h2⟩
def KI.sout : KI (Int × Trm) where
  sz := 2
  K := fun w x cs => ∃ v1, cs = [.int .i64 x.1, v1] ∧ KI.cell.S w v1 x.2
  ext := by rintro w w' x cs hb ⟨v1, e, h1⟩; exact ⟨v1, e, KI.S_ext hb h1⟩
theorem ksout_at {w : World} {A : Option Addr} {i : Nat} {xs : List (Int × Trm)} {x : (Int × Trm)} (h : KI.sout.C w A xs) (hi : xs[i]? = some x) : ∃ ad v1, A = some ad ∧ w.cell? (ad.add (i * 2)) = some (.int .i64 x.1) ∧ w.cell? ⟨(ad.add (i * 2)).block, (ad.add (i * 2)).off + 1, none⟩ = some (v1) ∧ KI.cell.S w v1 x.2 := by
  obtain ⟨ad, cs, ea, ⟨v1, rfl, h1⟩, c0, c1⟩ := KI.C_at h hi
  exact ⟨ad, v1, ea, c0 _ rfl, c1 0 _ rfl, h1⟩
def KI.work : KI Work where
  sz := 10
  K := fun w x cs => ∃ v1 v2 v3 v4 v5 v6, cs = [v1, .int .i64 x.want, .bool x.asked, .int .i64 x.slv.st, v2, v3, .int .i64 x.slv.vars, v4, v5, v6] ∧ KI.sout.S w v1 x.outs ∧ KI.sgoal.S w v2 x.slv.goals ∧ KI.bind.S w v3 x.slv.binds ∧ KI.tch.S w v4 x.slv.ch ∧ KI.cell.S w v5 x.slv.top ∧ KI.cell.S w v6 x.slv.out
  ext := by rintro w w' x cs hb ⟨v1, v2, v3, v4, v5, v6, e, h1, h2, h3, h4, h5, h6⟩; exact ⟨v1, v2, v3, v4, v5, v6, e, KI.S_ext hb h1, KI.S_ext hb h2, KI.S_ext hb h3, KI.S_ext hb h4, KI.S_ext hb h5, KI.S_ext hb h6⟩
theorem kwork_at {w : World} {A : Option Addr} {i : Nat} {xs : List Work} {x : Work} (h : KI.work.C w A xs) (hi : xs[i]? = some x) : ∃ ad v1 v2 v3 v4 v5 v6, A = some ad ∧ w.cell? (ad.add (i * 10)) = some (v1) ∧ w.cell? ⟨(ad.add (i * 10)).block, (ad.add (i * 10)).off + 1, none⟩ = some (.int .i64 x.want) ∧ w.cell? ⟨(ad.add (i * 10)).block, (ad.add (i * 10)).off + 2, none⟩ = some (.bool x.asked) ∧ w.cell? ⟨(ad.add (i * 10)).block, (ad.add (i * 10)).off + 3, none⟩ = some (.int .i64 x.slv.st) ∧ w.cell? ⟨(ad.add (i * 10)).block, (ad.add (i * 10)).off + 4, none⟩ = some (v2) ∧ w.cell? ⟨(ad.add (i * 10)).block, (ad.add (i * 10)).off + 5, none⟩ = some (v3) ∧ w.cell? ⟨(ad.add (i * 10)).block, (ad.add (i * 10)).off + 6, none⟩ = some (.int .i64 x.slv.vars) ∧ w.cell? ⟨(ad.add (i * 10)).block, (ad.add (i * 10)).off + 7, none⟩ = some (v4) ∧ w.cell? ⟨(ad.add (i * 10)).block, (ad.add (i * 10)).off + 8, none⟩ = some (v5) ∧ w.cell? ⟨(ad.add (i * 10)).block, (ad.add (i * 10)).off + 9, none⟩ = some (v6) ∧ KI.sout.S w v1 x.outs ∧ KI.sgoal.S w v2 x.slv.goals ∧ KI.bind.S w v3 x.slv.binds ∧ KI.tch.S w v4 x.slv.ch ∧ KI.cell.S w v5 x.slv.top ∧ KI.cell.S w v6 x.slv.out := by
  obtain ⟨ad, cs, ea, ⟨v1, v2, v3, v4, v5, v6, rfl, h1, h2, h3, h4, h5, h6⟩, c0, c1⟩ := KI.C_at h hi
  exact ⟨ad, v1, v2, v3, v4, v5, v6, ea, c0 _ rfl, c1 0 _ rfl, c1 1 _ rfl, c1 2 _ rfl, c1 3 _ rfl, c1 4 _ rfl, c1 5 _ rfl, c1 6 _ rfl, c1 7 _ rfl, c1 8 _ rfl, h1, h2, h3, h4, h5, h6⟩
def KI.node : KI Nod where
  sz := 2
  K := fun w x cs => ∃ v1, cs = [.bool x.up, v1] ∧ KI.work.S w v1 x.works
  ext := by rintro w w' x cs hb ⟨v1, e, h1⟩; exact ⟨v1, e, KI.S_ext hb h1⟩
theorem knode_at {w : World} {A : Option Addr} {i : Nat} {xs : List Nod} {x : Nod} (h : KI.node.C w A xs) (hi : xs[i]? = some x) : ∃ ad v1, A = some ad ∧ w.cell? (ad.add (i * 2)) = some (.bool x.up) ∧ w.cell? ⟨(ad.add (i * 2)).block, (ad.add (i * 2)).off + 1, none⟩ = some (v1) ∧ KI.work.S w v1 x.works := by
  obtain ⟨ad, cs, ea, ⟨v1, rfl, h1⟩, c0, c1⟩ := KI.C_at h hi
  exact ⟨ad, v1, ea, c0 _ rfl, c1 0 _ rfl, h1⟩
def KI.nmsg : KI NMsg where
  sz := 3
  K := fun w x cs => ∃ v1, cs = [.int .i64 x.dst, .bool x.bent, v1] ∧ KI.byte.S w v1 x.bytes
  ext := by rintro w w' x cs hb ⟨v1, e, h1⟩; exact ⟨v1, e, KI.S_ext hb h1⟩
theorem knmsg_at {w : World} {A : Option Addr} {i : Nat} {xs : List NMsg} {x : NMsg} (h : KI.nmsg.C w A xs) (hi : xs[i]? = some x) : ∃ ad v1, A = some ad ∧ w.cell? (ad.add (i * 3)) = some (.int .i64 x.dst) ∧ w.cell? ⟨(ad.add (i * 3)).block, (ad.add (i * 3)).off + 1, none⟩ = some (.bool x.bent) ∧ w.cell? ⟨(ad.add (i * 3)).block, (ad.add (i * 3)).off + 2, none⟩ = some (v1) ∧ KI.byte.S w v1 x.bytes := by
  obtain ⟨ad, cs, ea, ⟨v1, rfl, h1⟩, c0, c1⟩ := KI.C_at h hi
  exact ⟨ad, v1, ea, c0 _ rfl, c1 0 _ rfl, c1 1 _ rfl, h1⟩
def mz_cell (x : Cell) : Nat := x.s.size
def mz_goal (x : Goal) : Nat := szL mz_cell x.a + szL mz_cell x.b + szL mz_cell x.c
def mz_clause (x : Clause) : Nat := szL mz_cell x.head + szL mz_goal x.body
def mz_place (x : Place) : Nat := x.name.size
def mz_prog (x : Prog) : Nat := szL mz_clause x.cl + szL mz_place x.pl
def mz_sgoal (x : SGoal) : Nat := mz_goal x.g
def mz_bind (x : (Int × Trm)) : Nat := szL mz_cell x.2
def mz_tch (x : TCh) : Nat := szL mz_sgoal x.goals + szL mz_cell x.call
def mz_tst (x : TSt) : Nat := szL mz_sgoal x.goals + szL mz_bind x.binds + szL mz_tch x.ch + szL mz_cell x.top + szL mz_cell x.out
def mz_sout (x : (Int × Trm)) : Nat := szL mz_cell x.2
def mz_work (x : Work) : Nat := szL mz_sout x.outs + mz_tst x.slv
def mz_node (x : Nod) : Nat := szL mz_work x.works
def mz_nmsg (x : NMsg) : Nat := x.bytes.length
def mz_wld (x : Wld) : Nat := mz_prog x.prog + szL mz_node x.nodes + szL mz_cell x.top + szL mz_sout x.outs + szL mz_nmsg x.net
end Go.Proofs.YtdoggcfdfkkedaaGreatDoor
