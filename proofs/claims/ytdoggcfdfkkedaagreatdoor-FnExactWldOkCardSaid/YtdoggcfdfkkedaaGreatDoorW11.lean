/- Lemmas and contracts for FnExactWldOk, part 11. -/
import Derived.Test.YtdoggcfdfkkedaaGreatDoorW09
namespace Go.Proofs.YtdoggcfdfkkedaaGreatDoor
open Go.RowKit
set_option maxRecDepth 100000
set_option maxHeartbeats 4000000
set_option linter.unusedVariables false
def Kd.byte : Kd Int where
  sz := 1
  E := []
  K := fun _ x cs => cs = [.int .u8 x]
  len := by rintro w x cs rfl; rfl
  one := by
    rintro w x cs rfl u hu
    obtain rfl : u = .int .u8 x := by simpa using hu
    rfl
  mov := fun _ h => h
def Kd.work : Kd Work where
  sz := 10
  E := [99, 112, 219, 216, 183]
  K := fun w x cs => ∃ v1 v2 v3 v4 v5 v6, cs = [v1, .int .i64 x.want, .bool x.asked, .int .i64 x.slv.st, v2, v3, .int .i64 x.slv.vars, v4, v5, v6] ∧ Kd.sout.S 99 w v1 x.outs ∧ Kd.sgoal.S 219 w v2 x.slv.goals ∧ Kd.bind.S 216 w v3 x.slv.binds ∧ Kd.tch.S 183 w v4 x.slv.ch ∧ Kd.cell.S 112 w v5 x.slv.top ∧ Kd.cell.S 112 w v6 x.slv.out
  len := by rintro w x cs ⟨_, _, _, _, _, _, rfl, _⟩; rfl
  one := by
    rintro w x cs ⟨v1, v2, v3, v4, v5, v6, rfl, h1, h2, h3, h4, h5, h6⟩ u hu
    simp only [List.mem_cons, List.mem_nil_iff, or_false] at hu
    rcases hu with rfl | rfl | rfl | rfl | rfl | rfl | rfl | rfl | rfl | rfl
    · exact S_one h1
    · rfl
    · rfl
    · rfl
    · exact S_one h2
    · exact S_one h3
    · rfl
    · exact S_one h4
    · exact S_one h5
    · exact S_one h6
  mov := by rintro w w' x cs hk ⟨v1, v2, v3, v4, v5, v6, e, h1, h2, h3, h4, h5, h6⟩; exact ⟨v1, v2, v3, v4, v5, v6, e, Kd.S_mov (hk.sub (by decide)) h1, Kd.S_mov (hk.sub (by decide)) h2, Kd.S_mov (hk.sub (by decide)) h3, Kd.S_mov (hk.sub (by decide)) h4, Kd.S_mov (hk.sub (by decide)) h5, Kd.S_mov (hk.sub (by decide)) h6⟩
def Kd.node : Kd Nod where
  sz := 2
  E := [107, 99, 112, 219, 216, 183]
  K := fun w x cs => ∃ v1, cs = [.bool x.up, v1] ∧ Kd.work.S 107 w v1 x.works
  len := by rintro w x cs ⟨_, rfl, _⟩; rfl
  one := by
    rintro w x cs ⟨v1, rfl, h1⟩ u hu
    simp only [List.mem_cons, List.mem_nil_iff, or_false] at hu
    rcases hu with rfl | rfl
    · rfl
    · exact S_one h1
  mov := by rintro w w' x cs hk ⟨v1, e, h1⟩; exact ⟨v1, e, Kd.S_mov (hk.sub (by decide)) h1⟩
def Kd.nmsg : Kd NMsg where
  sz := 3
  E := [5]
  K := fun w x cs => ∃ v1, cs = [.int .i64 x.dst, .bool x.bent, v1] ∧ Kd.byte.S 5 w v1 x.bytes
  len := by rintro w x cs ⟨_, rfl, _⟩; rfl
  one := by
    rintro w x cs ⟨v1, rfl, h1⟩ u hu
    simp only [List.mem_cons, List.mem_nil_iff, or_false] at hu
    rcases hu with rfl | rfl | rfl
    · rfl
    · rfl
    · exact S_one h1
  mov := by rintro w w' x cs hk ⟨v1, e, h1⟩; exact ⟨v1, e, Kd.S_mov (hk.sub (by decide)) h1⟩
theorem bind_K {w : World} {x : Int × Trm} {cs : List Value} : Kd.bind.K w x cs ↔ ∃ v1, cs = [.int .i64 x.1, v1] ∧ Kd.cell.S 112 w v1 x.2 := by
  constructor
  · rintro ⟨c0, c1, rfl, h0, tv, rfl, h1⟩
    obtain rfl : c0 = [.int .i64 x.1] := h0
    exact ⟨tv, rfl, h1⟩
  · rintro ⟨v1, rfl, h⟩
    exact ⟨[.int .i64 x.1], [v1], rfl, rfl, v1, rfl, h⟩
theorem dcell_at {e : Nat} {w : World} {A : Option Addr} {i : Nat} {xs : List Cell} {x : Cell} (h : Kd.cell.C e w A xs) (hi : xs[i]? = some x) : ∃ ad , A = some ad ∧ w.cell? (ad.add (i * 3)) = some (.int .i64 x.k) ∧ w.cell? ⟨(ad.add (i * 3)).block, (ad.add (i * 3)).off + 1, none⟩ = some (.int .i64 x.n) ∧ w.cell? ⟨(ad.add (i * 3)).block, (ad.add (i * 3)).off + 2, none⟩ = some (.string x.s) := by
  obtain ⟨ad, cs, ea, hK, c0, c1⟩ := K_at h hi
  obtain rfl : cs = [.int .i64 x.k, .int .i64 x.n, .string x.s] := hK
  exact ⟨ad, ea, c0 _ rfl, c1 0 _ rfl, c1 1 _ rfl⟩
theorem dgoal_at {e : Nat} {w : World} {A : Option Addr} {i : Nat} {xs : List Goal} {x : Goal} (h : Kd.goal.C e w A xs) (hi : xs[i]? = some x) : ∃ ad v1 v2 v3, A = some ad ∧ w.cell? (ad.add (i * 4)) = some (.int .i64 x.k) ∧ w.cell? ⟨(ad.add (i * 4)).block, (ad.add (i * 4)).off + 1, none⟩ = some (v1) ∧ w.cell? ⟨(ad.add (i * 4)).block, (ad.add (i * 4)).off + 2, none⟩ = some (v2) ∧ w.cell? ⟨(ad.add (i * 4)).block, (ad.add (i * 4)).off + 3, none⟩ = some (v3) ∧ Kd.cell.S 112 w v1 x.a ∧ Kd.cell.S 112 w v2 x.b ∧ Kd.cell.S 112 w v3 x.c := by
  obtain ⟨ad, cs, ea, hK, c0, c1⟩ := K_at h hi
  obtain ⟨v1, v2, v3, rfl, h1, h2, h3⟩ := hK
  exact ⟨ad, v1, v2, v3, ea, c0 _ rfl, c1 0 _ rfl, c1 1 _ rfl, c1 2 _ rfl, h1, h2, h3⟩
theorem dclause_at {e : Nat} {w : World} {A : Option Addr} {i : Nat} {xs : List Clause} {x : Clause} (h : Kd.clause.C e w A xs) (hi : xs[i]? = some x) : ∃ ad v1 v2, A = some ad ∧ w.cell? (ad.add (i * 2)) = some (v1) ∧ w.cell? ⟨(ad.add (i * 2)).block, (ad.add (i * 2)).off + 1, none⟩ = some (v2) ∧ Kd.cell.S 112 w v1 x.head ∧ Kd.goal.S 137 w v2 x.body := by
  obtain ⟨ad, cs, ea, hK, c0, c1⟩ := K_at h hi
  obtain ⟨v1, v2, rfl, h1, h2⟩ := hK
  exact ⟨ad, v1, v2, ea, c0 _ rfl, c1 0 _ rfl, h1, h2⟩
theorem dplace_at {e : Nat} {w : World} {A : Option Addr} {i : Nat} {xs : List Place} {x : Place} (h : Kd.place.C e w A xs) (hi : xs[i]? = some x) : ∃ ad , A = some ad ∧ w.cell? (ad.add (i * 3)) = some (.string x.name) ∧ w.cell? ⟨(ad.add (i * 3)).block, (ad.add (i * 3)).off + 1, none⟩ = some (.int .i64 x.n) ∧ w.cell? ⟨(ad.add (i * 3)).block, (ad.add (i * 3)).off + 2, none⟩ = some (.int .i64 x.node) := by
  obtain ⟨ad, cs, ea, hK, c0, c1⟩ := K_at h hi
  obtain rfl : cs = [.string x.name, .int .i64 x.n, .int .i64 x.node] := hK
  exact ⟨ad, ea, c0 _ rfl, c1 0 _ rfl, c1 1 _ rfl⟩
theorem dsgoal_at {e : Nat} {w : World} {A : Option Addr} {i : Nat} {xs : List SGoal} {x : SGoal} (h : Kd.sgoal.C e w A xs) (hi : xs[i]? = some x) : ∃ ad v1 v2 v3, A = some ad ∧ w.cell? (ad.add (i * 5)) = some (.int .i64 x.g.k) ∧ w.cell? ⟨(ad.add (i * 5)).block, (ad.add (i * 5)).off + 1, none⟩ = some (v1) ∧ w.cell? ⟨(ad.add (i * 5)).block, (ad.add (i * 5)).off + 2, none⟩ = some (v2) ∧ w.cell? ⟨(ad.add (i * 5)).block, (ad.add (i * 5)).off + 3, none⟩ = some (v3) ∧ w.cell? ⟨(ad.add (i * 5)).block, (ad.add (i * 5)).off + 4, none⟩ = some (.int .i64 x.cut) ∧ Kd.cell.S 112 w v1 x.g.a ∧ Kd.cell.S 112 w v2 x.g.b ∧ Kd.cell.S 112 w v3 x.g.c := by
  obtain ⟨ad, cs, ea, hK, c0, c1⟩ := K_at h hi
  obtain ⟨v1, v2, v3, rfl, h1, h2, h3⟩ := hK
  exact ⟨ad, v1, v2, v3, ea, c0 _ rfl, c1 0 _ rfl, c1 1 _ rfl, c1 2 _ rfl, c1 3 _ rfl, h1, h2, h3⟩
theorem dbind_at {e : Nat} {w : World} {A : Option Addr} {i : Nat} {xs : List (Int × Trm)} {x : (Int × Trm)} (h : Kd.bind.C e w A xs) (hi : xs[i]? = some x) : ∃ ad v1, A = some ad ∧ w.cell? (ad.add (i * 2)) = some (.int .i64 x.1) ∧ w.cell? ⟨(ad.add (i * 2)).block, (ad.add (i * 2)).off + 1, none⟩ = some (v1) ∧ Kd.cell.S 112 w v1 x.2 := by
  obtain ⟨ad, cs, ea, hK, c0, c1⟩ := K_at h hi
  obtain ⟨v1, rfl, h1⟩ := bind_K.1 hK
  exact ⟨ad, v1, ea, c0 _ rfl, c1 0 _ rfl, h1⟩
theorem dtch_at {e : Nat} {w : World} {A : Option Addr} {i : Nat} {xs : List TCh} {x : TCh} (h : Kd.tch.C e w A xs) (hi : xs[i]? = some x) : ∃ ad v1 v2, A = some ad ∧ w.cell? (ad.add (i * 6)) = some (v1) ∧ w.cell? ⟨(ad.add (i * 6)).block, (ad.add (i * 6)).off + 1, none⟩ = some (.int .i64 x.mark) ∧ w.cell? ⟨(ad.add (i * 6)).block, (ad.add (i * 6)).off + 2, none⟩ = some (.int .i64 x.vars) ∧ w.cell? ⟨(ad.add (i * 6)).block, (ad.add (i * 6)).off + 3, none⟩ = some (v2) ∧ w.cell? ⟨(ad.add (i * 6)).block, (ad.add (i * 6)).off + 4, none⟩ = some (.int .i64 x.next) ∧ w.cell? ⟨(ad.add (i * 6)).block, (ad.add (i * 6)).off + 5, none⟩ = some (.int .i64 x.far) ∧ Kd.sgoal.S 219 w v1 x.goals ∧ Kd.cell.S 112 w v2 x.call := by
  obtain ⟨ad, cs, ea, hK, c0, c1⟩ := K_at h hi
  obtain ⟨v1, v2, rfl, h1, h2⟩ := hK
  exact ⟨ad, v1, v2, ea, c0 _ rfl, c1 0 _ rfl, c1 1 _ rfl, c1 2 _ rfl, c1 3 _ rfl, c1 4 _ rfl, h1, h2⟩
theorem dwork_at {e : Nat} {w : World} {A : Option Addr} {i : Nat} {xs : List Work} {x : Work} (h : Kd.work.C e w A xs) (hi : xs[i]? = some x) : ∃ ad v1 v2 v3 v4 v5 v6, A = some ad ∧ w.cell? (ad.add (i * 10)) = some (v1) ∧ w.cell? ⟨(ad.add (i * 10)).block, (ad.add (i * 10)).off + 1, none⟩ = some (.int .i64 x.want) ∧ w.cell? ⟨(ad.add (i * 10)).block, (ad.add (i * 10)).off + 2, none⟩ = some (.bool x.asked) ∧ w.cell? ⟨(ad.add (i * 10)).block, (ad.add (i * 10)).off + 3, none⟩ = some (.int .i64 x.slv.st) ∧ w.cell? ⟨(ad.add (i * 10)).block, (ad.add (i * 10)).off + 4, none⟩ = some (v2) ∧ w.cell? ⟨(ad.add (i * 10)).block, (ad.add (i * 10)).off + 5, none⟩ = some (v3) ∧ w.cell? ⟨(ad.add (i * 10)).block, (ad.add (i * 10)).off + 6, none⟩ = some (.int .i64 x.slv.vars) ∧ w.cell? ⟨(ad.add (i * 10)).block, (ad.add (i * 10)).off + 7, none⟩ = some (v4) ∧ w.cell? ⟨(ad.add (i * 10)).block, (ad.add (i * 10)).off + 8, none⟩ = some (v5) ∧ w.cell? ⟨(ad.add (i * 10)).block, (ad.add (i * 10)).off + 9, none⟩ = some (v6) ∧ Kd.sout.S 99 w v1 x.outs ∧ Kd.sgoal.S 219 w v2 x.slv.goals ∧ Kd.bind.S 216 w v3 x.slv.binds ∧ Kd.tch.S 183 w v4 x.slv.ch ∧ Kd.cell.S 112 w v5 x.slv.top ∧ Kd.cell.S 112 w v6 x.slv.out := by
  obtain ⟨ad, cs, ea, hK, c0, c1⟩ := K_at h hi
  obtain ⟨v1, v2, v3, v4, v5, v6, rfl, h1, h2, h3, h4, h5, h6⟩ := hK
  exact ⟨ad, v1, v2, v3, v4, v5, v6, ea, c0 _ rfl, c1 0 _ rfl, c1 1 _ rfl, c1 2 _ rfl, c1 3 _ rfl, c1 4 _ rfl, c1 5 _ rfl, c1 6 _ rfl, c1 7 _ rfl, c1 8 _ rfl, h1, h2, h3, h4, h5, h6⟩
theorem dnode_at {e : Nat} {w : World} {A : Option Addr} {i : Nat} {xs : List Nod} {x : Nod} (h : Kd.node.C e w A xs) (hi : xs[i]? = some x) : ∃ ad v1, A = some ad ∧ w.cell? (ad.add (i * 2)) = some (.bool x.up) ∧ w.cell? ⟨(ad.add (i * 2)).block, (ad.add (i * 2)).off + 1, none⟩ = some (v1) ∧ Kd.work.S 107 w v1 x.works := by
  obtain ⟨ad, cs, ea, hK, c0, c1⟩ := K_at h hi
  obtain ⟨v1, rfl, h1⟩ := hK
  exact ⟨ad, v1, ea, c0 _ rfl, c1 0 _ rfl, h1⟩
theorem dnmsg_at {e : Nat} {w : World} {A : Option Addr} {i : Nat} {xs : List NMsg} {x : NMsg} (h : Kd.nmsg.C e w A xs) (hi : xs[i]? = some x) : ∃ ad v1, A = some ad ∧ w.cell? (ad.add (i * 3)) = some (.int .i64 x.dst) ∧ w.cell? ⟨(ad.add (i * 3)).block, (ad.add (i * 3)).off + 1, none⟩ = some (.bool x.bent) ∧ w.cell? ⟨(ad.add (i * 3)).block, (ad.add (i * 3)).off + 2, none⟩ = some (v1) ∧ Kd.byte.S 5 w v1 x.bytes := by
  obtain ⟨ad, cs, ea, hK, c0, c1⟩ := K_at h hi
  obtain ⟨v1, rfl, h1⟩ := hK
  exact ⟨ad, v1, ea, c0 _ rfl, c1 0 _ rfl, c1 1 _ rfl, h1⟩
theorem dbyte_at {e : Nat} {w : World} {A : Option Addr} {i : Nat} {xs : List Int} {x : Int} (h : Kd.byte.C e w A xs) (hi : xs[i]? = some x) : ∃ ad, A = some ad ∧ w.cell? (ad.add i) = some (.int .u8 x) := by
  obtain ⟨ad, cs, ea, hK, c0, c1⟩ := K_at h hi
  obtain rfl : cs = [.int .u8 x] := hK
  have := c0 _ rfl
  rw [show i * Kd.byte.sz = i from Nat.mul_one i] at this
  exact ⟨ad, ea, this⟩
theorem kbyte_at {w : World} {A : Option Addr} {i : Nat} {xs : List Int} {x : Int} (h : KI.byte.C w A xs) (hi : xs[i]? = some x) : ∃ ad, A = some ad ∧ w.cell? (ad.add i) = some (.int .u8 x) := by
  obtain ⟨ad, cs, ea, hK, c0, c1⟩ := KI.C_at h hi
  obtain rfl : cs = [.int .u8 x] := hK
  have := c0 _ rfl
  rw [show i * KI.byte.sz = i from Nat.mul_one i] at this
  exact ⟨ad, ea, this⟩
end Go.Proofs.YtdoggcfdfkkedaaGreatDoor
