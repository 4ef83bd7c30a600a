/- Contracts: the program's free variables. -/
import Derived.Test.YtjnangiggnmkoaaGreatDoorCImpOk
namespace Go.Proofs.YtjnangiggnmkoaaGreatDoor
open Go.RowKit
set_option maxRecDepth 100000
set_option maxHeartbeats 1000000
set_option linter.unusedVariables false
theorem own_form {α : Type} {d : Kd α} {e base : Nat} {w : World} {v : Value} {xs : List α} (h : d.O e w base v xs) : (v = .slice none 0 0 ∧ xs = []) ∨ ∃ g cap, v = .slice (some ⟨g, 0, none⟩) xs.length cap ∧ base ≤ g := by
  obtain ⟨cs, ⟨_, h1⟩, _⟩ := h
  rcases h1 with ⟨rfl, hn⟩ | ⟨g, cap, cur, rfl, hb, _⟩
  · exact .inl ⟨rfl, List.eq_nil_of_length_eq_zero hn⟩
  · exact .inr ⟨g, cap, rfl, hb⟩
theorem cells_own {e base : Nat} {w : World} {g cap : Nat} {xs : List Int} (h : (Kd.int .i64).O e w base (.slice (some ⟨g, 0, none⟩) xs.length cap) xs) : ∀ j, j < xs.length → w.cell? ⟨g, 0 + j, none⟩ = some (.int .i64 (xs.getD j 0)) := fun j hj => by
  obtain ⟨A, c, ev, _, _, hC⟩ := Kd.O_read h
  injection ev with eA _ _
  obtain ⟨ad, ea, hc⟩ := int_at hC (List.getElem?_eq_getElem hj)
  rw [← eA] at ea
  injection ea with ea
  subst ea
  rw [List.getD_eq_getElem?_getD, List.getElem?_eq_getElem hj]
  have : (⟨g, 0, none⟩ : Addr).add j = ⟨g, 0 + j, none⟩ := by unfold Addr.add; split <;> simp_all
  rw [← this]; exact hc
theorem imHas_c (xs : List Int) (v : Value) (base : Nat) (n : Int) (w : World) (h : (Kd.int .i64).O 3 w base v xs) (hl : xs.length ≤ 1000000000) :
    Calls Tryz.prog 90 #[v, .int .i64 n] w fun e w' => e = .returned (.bool (decide (n ∈ xs))) ∧ w' = w := by
  rcases own_form h with ⟨rfl, rfl⟩ | ⟨g, cap, rfl, _⟩
  · refine (Tryz.slices_Contains_int_empty none 0 n w).mono ?_
    rintro e w' ⟨rfl, rfl⟩
    exact ⟨by simp, rfl⟩
  · refine (Tryz.slices_Contains_int g 0 xs.length cap xs n w (Nat.le_refl _) (by omega) (cells_own h)).mono ?_
    rintro e w' ⟨rfl, rfl⟩
    exact ⟨by rw [List.take_length, List.contains_eq_mem], rfl⟩
theorem litg {α : Type} (d : Kd α) (e : Nat) {w : World} {o : Obj} {x : α} {cs : List Value} (h : d.K (w.alloc o) x cs) : d.C e ((w.alloc o).alloc (.cells cs.toArray e)) (some ⟨w.heap.size + 1, 0, none⟩) [x] := by
  have := Kd.C_lit d e h
  rwa [show (w.alloc o).heap.size = w.heap.size + 1 from by show (w.heap.push o).size = _; rw [Array.size_push]] at this
theorem imFree_c (t : Trm) (A : Option Addr) (c : Nat) (w : World) (h : Kd.cell.C 47 w A t) (hl : t.length ≤ 1000000000) :
    Calls Tryz.prog 69 #[.slice A t.length c] w fun e w' => ∃ v, e = .returned v ∧ (Kd.int .i64).O 3 w' w.heap.size v (free t) ∧ Below w.heap.size w w' := by
  have H := Lib.hid h
  clear h
  go_enter Tryz.func69, Tryz.ntmps69
  go_wp2
  go_loopw [3, 8] (fun v3 v8 wr => ∃ (k : Nat) (D : List Int), v8 = .int .i64 k ∧ k ≤ t.length ∧ D.length ≤ k ∧ Hid ((t.take k).foldl freeStep [] = D) ∧ Hid ((Kd.int .i64).O 3 wr w.heap.size v3 D) ∧ Hid (Below w.heap.size w wr)) (fun _ v8 _ => t.length - (intOf v8).toNat)
  case atStart => exact ⟨0, [], rfl, Nat.zero_le _, Nat.zero_le _, Lib.hid rfl, Lib.hid (Kd.O_nil (Kd.int .i64) _ w _), Lib.hid (Below.refl _ _)⟩
  case round =>
    obtain ⟨k, D, rfl, hk, hD, HS, HO, HB⟩ := hrel
    by_cases hlt : k < t.length
    · obtain ⟨cc, hc⟩ : ∃ cc, t[k]? = some cc := ⟨_, List.getElem?_eq_getElem hlt⟩
      obtain ⟨ad, rfl, a1, a2, a3⟩ := cell_at (Kd.C_ext HB.out H.out) hc
      have HT := Lib.hid (free_take hc)
      rw [HS.out] at HT
      have HH := Lib.hid (fun o => imHas_c D _ _ cc.n (wr.alloc o) (Kd.O_alloc o HO.out) (by omega))
      clear hc
      by_cases h1 : cc.k = 1
      · have e1 : (cc.k == 1) = true := beq_iff_eq.2 h1
        by_cases hm : cc.n ∈ D
        · have HN := Lib.hid (show (t.take (k + 1)).foldl freeStep [] = D by rw [HT.out, freeStep, if_neg (fun h => h.2 hm)])
          rw [decide_eq_true hm] at HH
          clear hm h1
          go_wp2_with (go_at_call 90; refine (HH.out _).mono ?_; rintro e w1 ⟨rfl, rfl⟩)
          exact ⟨⟨k + 1, D, by go_num, by omega, by omega, HN, Lib.hid (Kd.O_alloc _ HO.out), Lib.hid (bel_alloc HB.out _)⟩, by simp [intOf]; omega⟩
        · have HN := Lib.hid (show (t.take (k + 1)).foldl freeStep [] = D ++ [cc.n] by rw [HT.out, freeStep, if_pos ⟨h1, hm⟩])
          rw [decide_eq_false hm] at HH
          clear hm h1
          go_wp2_with (first | (go_at_call 90; refine (HH.out _).mono ?_; rintro e w1 ⟨rfl, rfl⟩) | (at_builtin; refine wp_append (d := Kd.int .i64) _ rfl (.tmp 22) (.tmp 25) 62 rfl w.heap.size 3 _ 8 Tryz.underlying62 infoInt rfl (by decide) _ D rfl (Kd.O_alloc _ (Kd.O_alloc _ HO.out)) _ [cc.n] _ _ rfl rfl (litg (Kd.int .i64) _ (x := cc.n) (cs := [.int .i64 cc.n]) rfl) ?c1 ?c2 ?c3 (fun q hq => by simp [Kd.int] at hq) ?_; (case c1 => simp [maxLen]; omega); (case c2 => simp; omega); (case c3 => simp; have := HB.out.size; omega); intro v' w' ho hg hat; have hb := Lib.hid (bel_grown (bel_alloc (bel_alloc HB.out _) _) (Kd.O_alloc _ (Kd.O_alloc _ HO.out)) hg); have ho' := Lib.hid ho; clear ho hg hat))
          exact ⟨⟨k + 1, D ++ [cc.n], by go_num, by omega, by simp; omega, HN, ho', hb⟩, by simp [intOf]; omega⟩
      · have e1 : (cc.k == 1) = false := beq_eq_false_iff_ne.2 h1
        have HN := Lib.hid (show (t.take (k + 1)).foldl freeStep [] = D by rw [HT.out, freeStep, if_neg (fun h => h1 h.1)])
        clear h1
        go_wp2
        exact ⟨⟨k + 1, D, by go_num, by omega, by omega, HN, Lib.hid (Kd.O_alloc _ HO.out), Lib.hid (bel_alloc HB.out _)⟩, by simp [intOf]; omega⟩
    · have HV := Lib.hid (show free t = D by rw [← HS.out, List.take_of_length_le (by omega)]; rfl)
      go_wp2
      go_ret
      exact ⟨_, rfl, by rw [HV.out]; exact HO.out, HB.out⟩
end Go.Proofs.YtjnangiggnmkoaaGreatDoor
