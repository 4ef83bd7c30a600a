/- Contracts: the program's copies of terms: Clone, canonical, shifted; sameness. -/
import Derived.Test.YtjnangiggnmkoaaGreatDoorCImpF
import Derived.Lib.SliceRun
namespace Go.Proofs.YtjnangiggnmkoaaGreatDoor
open Go.RowKit
set_option maxRecDepth 100000
set_option maxHeartbeats 1000000
set_option linter.unusedVariables false
theorem clone_c (t : Trm) (A : Option Addr) (c : Nat) (w : World) (h : Kd.cell.C 47 w A t) (hl : t.length ≤ 1000000000) :
    Calls Tryz.prog 70 #[.slice A t.length c] w fun e w' => ∃ v, e = .returned v ∧ Kd.cell.O 47 w' w.heap.size v t ∧ Below w.heap.size w w' := by
  have hq : ∀ (W : World) (a : Option Addr) (n c n' c' : Nat), (binOp .eql 28 (.slice a n c) (.slice none n' c')).run Tryz.prog W = .ok (.bool a.isNone) W := fun W a n c n' c' => Lib.run_eql_slice_nil W _ _ a n c n' c' Tryz.underlying28
  cases A with
  | none =>
    obtain rfl : t = [] := by
      cases t with
      | nil => rfl
      | cons x t => obtain ⟨_, _, _, _, ea, _⟩ := h 0 x rfl; cases ea
    clear h
    go_enter Tryz.func70, Tryz.ntmps70
    go_wp2
    go_ret
    exact ⟨_, rfl, Kd.O_nil _ _ _ _, Below.refl _ _⟩
  | some ad =>
    have H := Lib.hid h
    clear h
    go_enter Tryz.func70, Tryz.ntmps70
    go_wp2_with (at_builtin; refine wp_append (d := Kd.cell) _ rfl (.tmp 5) (.tmp 6) 28 rfl w.heap.size 47 _ 32 Tryz.underlying28 infoCell rfl (by decide) _ [] rfl (Kd.O_empty Kd.cell _ w (Nat.le_refl _)) _ t _ _ rfl rfl (Kd.C_ext (bel_alloc (Below.refl _ _) _) H.out) ?c1 ?c2 ?c3 (fun q hq => by simp [Kd.cell] at hq) ?_; (case c1 => simp [maxLen]; omega); (case c2 => simp; omega); (case c3 => simp); intro v' w' ho hg hat; have hb := Lib.hid (bel_grown (bel_alloc (Below.refl _ w) _) (Kd.O_empty Kd.cell _ w (Nat.le_refl _)) hg); have ho' := Lib.hid ho; clear ho hg hat)
    go_ret
    exact ⟨_, rfl, by have := ho'.out; rwa [List.nil_append] at this, hb.out⟩
end Go.Proofs.YtjnangiggnmkoaaGreatDoor
