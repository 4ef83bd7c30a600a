/- The program's DskEvent returns what the reference's returns: the law's walk. Condition: what the library's variables hold. -/
import Derived.Test.YtjnangiggnmkoaaDoorCImp
namespace Go.Proofs.YtjnangiggnmkoaaDoor
open Go.RowKit
set_option maxRecDepth 100000
set_option maxHeartbeats 1000000
set_option linter.unusedVariables false
theorem eqEv_c (o : Option Ev) (w : World) : Calls Tryd.prog 7 #[.agg (evArr o), .agg (evArr o)] w fun e w' => e = .returned (.bool true) ∧ Below w.heap.size w w' := by
  obtain ⟨a, b, c, d, he⟩ : ∃ a b c d : Int, evArr o = #[.int .i64 a, .int .i64 b, .int .i64 c, .int .i64 d] := by cases o <;> exact ⟨_, _, _, _, rfl⟩
  rw [he]
  clear he
  go_enter Tryd.func7, Tryd.ntmps7
  go_wp2
  go_ret
  exact ⟨rfl, bel_alloc (bel_alloc (Below.refl _ _) _) _⟩
theorem law_c (s : ByteArray) (w : World) (hE : Env w) :
    Calls Tryd.prog 3 #[.string s] w fun e w' => e = .returned (.bool true) ∧ Below w.heap.size w w' := by
  by_cases hs : 1048576 < s.size
  · have h1 : decide ((1048576 : Int) < s.size) = true := decide_eq_true (by omega)
    go_enter Tryd.func3, Tryd.ntmps3
    go_wp2
    go_ret
    exact ⟨rfl, Below.refl _ _⟩
  · have h1 : decide ((1048576 : Int) < s.size) = false := decide_eq_false (by omega)
    have HS := Lib.hid (fun W => specEv_c s W (by omega))
    have HI := Lib.hid (fun W h => impEv_c s W (by omega) h)
    rw [evSpec_eq] at HS
    have HE := Lib.hid hE
    have HQ := Lib.hid (fun W => eqEv_c (evOf s) W)
    obtain ⟨a, b, c, d, he⟩ : ∃ a b c d : Int, evArr (evOf s) = #[.int .i64 a, .int .i64 b, .int .i64 c, .int .i64 d] := by cases evOf s <;> exact ⟨_, _, _, _, rfl⟩
    rw [he] at HS HI HQ
    obtain ⟨q, hq⟩ : ∃ q, (evOf s).isSome = q := ⟨_, rfl⟩
    rw [hq] at HS HI
    clear he hq hE
    go_enter Tryd.func3, Tryd.ntmps3
    go_wp2_with (first | (go_at_call 5; refine (HS.out _).mono ?_; rintro e w1 ⟨rfl, hb1⟩; have HB1 := Lib.hid hb1; clear hb1) | (go_at_call 6; refine (HI.out _ (HE.out.ext (bel_alloc HB1.out _))).mono ?_; rintro e w2 ⟨rfl, hb2⟩; have z0 : w2.cell? ⟨w1.heap.size, 0, none⟩ = some (.int .i64 a) := cell_keep hb2 (box_cell w1 _ _ 0); have z1 : w2.cell? ⟨w1.heap.size, 1, none⟩ = some (.int .i64 b) := cell_keep hb2 (box_cell w1 _ _ 1); have z2 : w2.cell? ⟨w1.heap.size, 2, none⟩ = some (.int .i64 c) := cell_keep hb2 (box_cell w1 _ _ 2); have z3 : w2.cell? ⟨w1.heap.size, 3, none⟩ = some (.int .i64 d) := cell_keep hb2 (box_cell w1 _ _ 3); have HB2 := Lib.hid (bel_trans (bel_alloc HB1.out _) hb2); have hlt : w1.heap.size < w2.heap.size := World.block_lt_of_cell? w2 _ z0; have z0' : ∀ o, (w2.alloc o).cell? ⟨w1.heap.size, 0, none⟩ = some (.int .i64 a) := fun o => cell_keep (bel_alloc (Below.refl _ _) o) z0; have z1' : ∀ o, (w2.alloc o).cell? ⟨w1.heap.size, 1, none⟩ = some (.int .i64 b) := fun o => cell_keep (bel_alloc (Below.refl _ _) o) z1; have z2' : ∀ o, (w2.alloc o).cell? ⟨w1.heap.size, 2, none⟩ = some (.int .i64 c) := fun o => cell_keep (bel_alloc (Below.refl _ _) o) z2; have z3' : ∀ o, (w2.alloc o).cell? ⟨w1.heap.size, 3, none⟩ = some (.int .i64 d) := fun o => cell_keep (bel_alloc (Below.refl _ _) o) z3; clear hb2) | (go_at_call 7; refine (HQ.out _).mono ?_; rintro e w3 ⟨rfl, hb3⟩))
    go_ret
    exact ⟨rfl, bel_trans (bel_alloc HB2.out _) hb3⟩
end Go.Proofs.YtjnangiggnmkoaaDoor
