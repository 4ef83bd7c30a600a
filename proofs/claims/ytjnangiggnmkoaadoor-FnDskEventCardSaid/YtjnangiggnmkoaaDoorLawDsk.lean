/- A line is one thing, or nothing: the law's walk. Condition: what the library's variables hold. -/
import Derived.Test.YtjnangiggnmkoaaDoorCImp
import Derived.Test.YtjnangiggnmkoaaDoorDrawD
import Derived.Test.YtjnangiggnmkoaaDoorCaOk
namespace Go.Proofs.YtjnangiggnmkoaaDoor
open Go.RowKit
set_option maxRecDepth 100000
set_option maxHeartbeats 1000000
set_option linter.unusedVariables false
theorem split_app2 : ∀ (a b : Bs), splitSp (a ++ 32 :: b) = splitSp a ++ splitSp b
  | [], b => by simp [splitSp]
  | c :: a, b => by
    rw [List.cons_append]
    by_cases hc : c = 32
    · subst hc; rw [splitSp, if_pos rfl, split_app2 a b, splitSp, if_pos rfl]; rfl
    · rw [splitSp, if_neg hc, split_app2 a b, splitSp, if_neg hc]
      cases h : splitSp a with
      | nil => exact absurd h (splitSp_ne a)
      | cons x xs => rfl
theorem ev_long {ws : List Bs} (h : 5 ≤ ws.length) : evWords ws = none := by
  match ws, h with
  | a :: b :: c :: d :: e :: r, _ => rfl
theorem more_none (s : ByteArray) : evOf (s ++ ⟨#[32, 49, 32, 49, 32, 49, 32, 49]⟩) = none := by
  unfold evOf
  split
  · refine ev_long ?_
    rw [L_append, show L ⟨#[32, 49, 32, 49, 32, 49, 32, 49]⟩ = 32 :: [49, 32, 49, 32, 49, 32, 49] from rfl, split_app2, List.length_append, show (splitSp [49, 32, 49, 32, 49, 32, 49]).length = 4 by decide]
    have := List.length_pos_iff.2 (splitSp_ne (L s))
    omega
  · rfl
theorem evOf_kind {s : ByteArray} {e : Ev} (h : evOf s = some e) : 1 ≤ e.k ∧ e.k ≤ 8 := by
  unfold evOf at h
  split at h
  · match hw : splitSp (L s), h with
    | [], h => cases h
    | [x], h =>
      have h : (if kindOf x = 1 then some (⟨1, 0, 0, 0⟩ : Ev) else none) = some e := h
      split at h
      · obtain rfl := Option.some.inj h; exact ⟨by decide, by decide⟩
      · cases h
    | [x, a], h =>
      have h : (if 2 ≤ kindOf x ∧ kindOf x ≠ 6 then (numOf a).map fun n => (⟨kindOf x, n, 0, 0⟩ : Ev) else none) = some e := h
      split at h
      · cases ha : numOf a with
        | none => rw [ha] at h; cases h
        | some n => rw [ha] at h; obtain rfl := Option.some.inj h; have := kind_lt x; exact ⟨by show 1 ≤ kindOf x; omega, by show kindOf x ≤ 8; omega⟩
      · cases h
    | [x, a, p], h => cases h
    | [x, a, p, v], h =>
      have h : (if kindOf x = 6 then (numOf a).bind fun n => (numOf p).bind fun m => (numOf v).map fun r => (⟨6, n, m, r⟩ : Ev) else none) = some e := h
      split at h
      · cases ha : numOf a with
        | none => rw [ha] at h; cases h
        | some n =>
          cases hp : numOf p with
          | none => rw [ha, hp] at h; cases h
          | some m =>
            cases hv : numOf v with
            | none => rw [ha, hp, hv] at h; cases h
            | some r => rw [ha, hp, hv] at h; obtain rfl := Option.some.inj h; exact ⟨show 1 ≤ 6 by decide, show 6 ≤ 8 by decide⟩
      · cases h
    | x :: a :: b :: c :: d :: r, h => cases h
  · cases h
theorem lawDsk_c (w : World) (A : Option Addr) (n c : Nat) (bs : List Nat) (h : Bytes w A n c bs) (hE : Env w) :
    Calls Tryd.prog 4 #[.slice A n c] w fun e w' => e = .returned (.bool true) ∧ Below w.heap.size w w' := by
  by_cases hn : 1048576 < n
  · have h1 : decide ((1048576 : Int) < n) = true := decide_eq_true (by omega)
    go_enter Tryd.func4, Tryd.ntmps4
    go_wp2
    go_ret
    exact ⟨rfl, Below.refl _ _⟩
  · have h1 : decide ((1048576 : Int) < n) = false := decide_eq_false (by omega)
    have HD := Lib.hid (drawEv_c w A n c bs h)
    have HE := Lib.hid hE
    clear h hE
    go_enter Tryd.func4, Tryd.ntmps4
    go_upto_region 4 with (go_at_call 8; refine HD.out.mono ?_; rintro e w1 ⟨s, rfl, hs, hb1⟩; have HB1 := Lib.hid hb1; clear hb1)
    have HM := Lib.hid (fun W h => impEv_c (s ++ ⟨#[32, 49, 32, 49, 32, 49, 32, 49]⟩) W (by rw [ByteArray.size_append, show (ByteArray.mk #[32, 49, 32, 49, 32, 49, 32, 49]).size = 8 from rfl]; omega) h)
    rw [more_none] at HM
    have HM : Hid (∀ W, Env W → Calls Tryd.prog 6 #[.string (s ++ ⟨#[32, 49, 32, 49, 32, 49, 32, 49]⟩)] W fun e w' => e = .returned (.tuple #[.agg #[.int .i64 0, .int .i64 0, .int .i64 0, .int .i64 0], .bool false]) ∧ Below W.heap.size W w') := HM
    have HS := Lib.hid (fun W => specEv_c s W (by omega))
    have HI := Lib.hid (fun W h => impEv_c s W (by omega) h)
    rw [evSpec_eq] at HS
    cases ho : evOf s with
    | none =>
      rw [ho] at HS HI
      have HS : Hid (∀ W, Calls Tryd.prog 5 #[.string s] W fun e w' => e = .returned (.tuple #[.agg #[.int .i64 0, .int .i64 0, .int .i64 0, .int .i64 0], .bool false]) ∧ Below W.heap.size W w') := HS
      have HI : Hid (∀ W, Env W → Calls Tryd.prog 6 #[.string s] W fun e w' => e = .returned (.tuple #[.agg #[.int .i64 0, .int .i64 0, .int .i64 0, .int .i64 0], .bool false]) ∧ Below W.heap.size W w') := HI
      clear HD
      go_upto_region 6 with (first | (go_at_call 6; refine (HI.out _ (HE.out.ext HB1.out)).mono ?_; rintro e w2 ⟨rfl, hb2⟩; have HB2 := Lib.hid (bel_trans HB1.out hb2); clear hb2) | (go_at_call 5; refine (HS.out _).mono ?_; rintro e w3 ⟨rfl, hb3⟩; have hrow := box_keep (heap_alloc_new w2 _) hb3; have HB3 := Lib.hid (bel_trans (bel_alloc HB2.out _) hb3); clear hb3))
      generalize hW : w3.alloc (.cells #[.int .i64 0, .int .i64 0, .int .i64 0, .int .i64 0] 23) = W6
      have HB6 := Lib.hid (show Below w.heap.size w W6 by rw [← hW]; exact bel_alloc HB3.out _)
      have r1 := Lib.hid (show W6.heap[w2.heap.size]? = some (.cells #[.int .i64 0, .int .i64 0, .int .i64 0, .int .i64 0] 23 (0, 0)) by rw [← hW]; exact box_keep hrow (bel_alloc (Below.refl _ _) _))
      have r2 := Lib.hid (show W6.heap[w3.heap.size]? = some (.cells #[.int .i64 0, .int .i64 0, .int .i64 0, .int .i64 0] 23 (0, 0)) by rw [← hW]; exact heap_alloc_new w3 _)
      clear hrow hW HB3 HB2 HB1 HS HI
      generalize w2.heap.size = b1 at *
      generalize w3.heap.size = b2 at *
      have a0 := cell_of_row W6 b1 0 _ _ _ r1.out
      have a1 := cell_of_row W6 b1 1 _ _ _ r1.out
      have a2 := cell_of_row W6 b1 2 _ _ _ r1.out
      have a3 := cell_of_row W6 b1 3 _ _ _ r1.out
      have d0 := cell_of_row W6 b2 0 _ _ _ r2.out
      have d1 := cell_of_row W6 b2 1 _ _ _ r2.out
      have d2 := cell_of_row W6 b2 2 _ _ _ r2.out
      have d3 := cell_of_row W6 b2 3 _ _ _ r2.out
      go_wp2_with (first | (go_at_call 6; refine (HM.out _ (HE.out.ext HB6.out)).mono ?_; rintro e w7 ⟨rfl, hb7⟩; have r7 := box_keep r1.out hb7; have HB7 := Lib.hid (bel_trans HB6.out hb7); clear hb7; have m0 : ∀ o, (w7.alloc o).cell? ⟨b1, 0, none⟩ = some (.int .i64 0) := fun o => cell_keep (bel_alloc (Below.refl _ _) o) (cell_of_row w7 b1 0 _ _ _ r7); have m1 : ∀ o, (w7.alloc o).cell? ⟨b1, 1, none⟩ = some (.int .i64 0) := fun o => cell_keep (bel_alloc (Below.refl _ _) o) (cell_of_row w7 b1 1 _ _ _ r7); have m2 : ∀ o, (w7.alloc o).cell? ⟨b1, 2, none⟩ = some (.int .i64 0) := fun o => cell_keep (bel_alloc (Below.refl _ _) o) (cell_of_row w7 b1 2 _ _ _ r7); have m3 : ∀ o, (w7.alloc o).cell? ⟨b1, 3, none⟩ = some (.int .i64 0) := fun o => cell_keep (bel_alloc (Below.refl _ _) o) (cell_of_row w7 b1 3 _ _ _ r7); clear r7) | (go_at_call 9; refine (caOk_c _).mono ?_; rintro e w8 ⟨rfl, hb8⟩; have HB8 := Lib.hid (bel_trans (bel_alloc HB7.out _) hb8); clear hb8))
      go_ret
      exact ⟨rfl, HB8.out⟩
    | some e =>
      obtain ⟨hk1, hk8⟩ := evOf_kind ho
      obtain ⟨k, a, p, v⟩ := e
      have hk1 : 1 ≤ k := hk1
      have hk8 : k ≤ 8 := hk8
      have hk1' : (1 : Int) ≤ k := by omega
      have hk8' : (k : Int) ≤ 8 := by omega
      rw [ho] at HS HI
      have HS : Hid (∀ W, Calls Tryd.prog 5 #[.string s] W fun e w' => e = .returned (.tuple #[.agg #[.int .i64 (k : Int), .int .i64 (a : Int), .int .i64 (p : Int), .int .i64 (v : Int)], .bool true]) ∧ Below W.heap.size W w') := HS
      have HI : Hid (∀ W, Env W → Calls Tryd.prog 6 #[.string s] W fun e w' => e = .returned (.tuple #[.agg #[.int .i64 (k : Int), .int .i64 (a : Int), .int .i64 (p : Int), .int .i64 (v : Int)], .bool true]) ∧ Below W.heap.size W w') := HI
      clear HD
      go_upto_region 6 with (first | (go_at_call 6; refine (HI.out _ (HE.out.ext HB1.out)).mono ?_; rintro e w2 ⟨rfl, hb2⟩; have HB2 := Lib.hid (bel_trans HB1.out hb2); clear hb2) | (go_at_call 5; refine (HS.out _).mono ?_; rintro e w3 ⟨rfl, hb3⟩; have hrow := box_keep (heap_alloc_new w2 _) hb3; have HB3 := Lib.hid (bel_trans (bel_alloc HB2.out _) hb3); clear hb3))
      generalize hW : w3.alloc (.cells #[.int .i64 (k : Int), .int .i64 (a : Int), .int .i64 (p : Int), .int .i64 (v : Int)] 23) = W6
      have HB6 := Lib.hid (show Below w.heap.size w W6 by rw [← hW]; exact bel_alloc HB3.out _)
      have r1 := Lib.hid (show W6.heap[w2.heap.size]? = some (.cells #[.int .i64 (k : Int), .int .i64 (a : Int), .int .i64 (p : Int), .int .i64 (v : Int)] 23 (0, 0)) by rw [← hW]; exact box_keep hrow (bel_alloc (Below.refl _ _) _))
      have r2 := Lib.hid (show W6.heap[w3.heap.size]? = some (.cells #[.int .i64 (k : Int), .int .i64 (a : Int), .int .i64 (p : Int), .int .i64 (v : Int)] 23 (0, 0)) by rw [← hW]; exact heap_alloc_new w3 _)
      clear hrow hW HB3 HB2 HB1 HS HI
      generalize w2.heap.size = b1 at *
      generalize w3.heap.size = b2 at *
      have a0 := cell_of_row W6 b1 0 _ _ _ r1.out
      have a1 := cell_of_row W6 b1 1 _ _ _ r1.out
      have a2 := cell_of_row W6 b1 2 _ _ _ r1.out
      have a3 := cell_of_row W6 b1 3 _ _ _ r1.out
      have d0 := cell_of_row W6 b2 0 _ _ _ r2.out
      have d1 := cell_of_row W6 b2 1 _ _ _ r2.out
      have d2 := cell_of_row W6 b2 2 _ _ _ r2.out
      have d3 := cell_of_row W6 b2 3 _ _ _ r2.out
      go_wp2_with (first | (go_at_call 6; refine (HM.out _ (HE.out.ext HB6.out)).mono ?_; rintro e w7 ⟨rfl, hb7⟩; have r7 := box_keep r1.out hb7; have HB7 := Lib.hid (bel_trans HB6.out hb7); clear hb7; have m0 : ∀ o, (w7.alloc o).cell? ⟨b1, 0, none⟩ = some (.int .i64 (k : Int)) := fun o => cell_keep (bel_alloc (Below.refl _ _) o) (cell_of_row w7 b1 0 _ _ _ r7); have m1 : ∀ o, (w7.alloc o).cell? ⟨b1, 1, none⟩ = some (.int .i64 (a : Int)) := fun o => cell_keep (bel_alloc (Below.refl _ _) o) (cell_of_row w7 b1 1 _ _ _ r7); have m2 : ∀ o, (w7.alloc o).cell? ⟨b1, 2, none⟩ = some (.int .i64 (p : Int)) := fun o => cell_keep (bel_alloc (Below.refl _ _) o) (cell_of_row w7 b1 2 _ _ _ r7); have m3 : ∀ o, (w7.alloc o).cell? ⟨b1, 3, none⟩ = some (.int .i64 (v : Int)) := fun o => cell_keep (bel_alloc (Below.refl _ _) o) (cell_of_row w7 b1 3 _ _ _ r7); clear r7) | (go_at_call 9; refine (caOk_c _).mono ?_; rintro e w8 ⟨rfl, hb8⟩; have HB8 := Lib.hid (bel_trans (bel_alloc HB7.out _) hb8); clear hb8))
      go_ret
      exact ⟨rfl, bel_alloc HB7.out _⟩
end Go.Proofs.YtjnangiggnmkoaaDoor
