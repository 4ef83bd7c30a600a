/- Lemmas and contracts for FnExactWldOk, part 6. -/
import Derived.Test.YtdoggcfdfkkedaaGreatDoorW05
import Derived.Lib.SliceRun
import Derived.Test.YtdoggcfdfkkedaaGreatDoorW04
import Derived.Test.YtdoggcfdfkkedaaGreatDoorW03
namespace Go.Proofs.YtdoggcfdfkkedaaGreatDoor
open Go.RowKit
set_option maxRecDepth 100000
set_option maxHeartbeats 4000000
set_option linter.unusedVariables false
theorem own_form {α : Type} {d : Kd α} {e base : Nat} {w : World} {v : Value} {xs : List α} (h : d.O e w base v xs) : (v = .slice none 0 0 ∧ xs = []) ∨ ∃ g cap, v = .slice (some ⟨g, 0, none⟩) xs.length cap ∧ base ≤ g := by
  obtain ⟨cs, ⟨_, h1⟩, _⟩ := h
  rcases h1 with ⟨rfl, hn⟩ | ⟨g, cap, cur, rfl, hb, _⟩
  · exact .inl ⟨rfl, List.eq_nil_of_length_eq_zero hn⟩
  · exact .inr ⟨g, cap, rfl, hb⟩
theorem cells_own {e base : Nat} {w : World} {g cap : Nat} {xs : List Int} (h : (Kd.int .i64).O e w base (.slice (some ⟨g, 0, none⟩) xs.length cap) xs) : ∀ j, j < xs.length → w.cell? ⟨g, 0 + j, none⟩ = some (.int .i64 (xs.getD j 0)) := fun j hj => by
  obtain ⟨A, c, ev, _, _, hC⟩ := Kd.O_read h
  injection ev with eA _ _
  obtain ⟨ad, ea, hc⟩ := int_at hC (List.getElem?_eq_getElem hj)
  rw [← eA] at ea
  injection ea with ea
  subst ea
  rw [List.getD_eq_getElem?_getD, List.getElem?_eq_getElem hj]
  have : (⟨g, 0, none⟩ : Addr).add j = ⟨g, 0 + j, none⟩ := by unfold Addr.add; split <;> simp_all
  rw [← this]; exact hc
theorem imHas_c (xs : List Int) (v : Value) (base : Nat) (n : Int) (w : World) (h : (Kd.int .i64).O 3 w base v xs) (hl : xs.length ≤ 1000000000) :
    Calls Tryz.prog 142 #[v, .int .i64 n] w fun e w' => e = .returned (.bool (decide (n ∈ xs))) ∧ w' = w := by
  rcases own_form h with ⟨rfl, rfl⟩ | ⟨g, cap, rfl, _⟩
  · refine (Tryz.slices_Contains_int_empty none 0 n w).mono ?_
    rintro e w' ⟨rfl, rfl⟩
    exact ⟨by simp, rfl⟩
  · refine (Tryz.slices_Contains_int g 0 xs.length cap xs n w (Nat.le_refl _) (by omega) (cells_own h)).mono ?_
    rintro e w' ⟨rfl, rfl⟩
    exact ⟨by rw [List.take_length, List.contains_eq_mem], rfl⟩
theorem litg {α : Type} (d : Kd α) (e : Nat) {w : World} {o : Obj} {x : α} {cs : List Value} (h : d.K (w.alloc o) x cs) : d.C e ((w.alloc o).alloc (.cells cs.toArray e)) (some ⟨w.heap.size + 1, 0, none⟩) [x] := by
  have := Kd.C_lit d e h
  rwa [show (w.alloc o).heap.size = w.heap.size + 1 from by show (w.heap.push o).size = _; rw [Array.size_push]] at this
theorem imFree_c (t : Trm) (A : Option Addr) (c : Nat) (w : World) (h : Kd.cell.C 112 w A t) (hl : t.length ≤ 1000000000) :
    Calls Tryz.prog 103 #[.slice A t.length c] w fun e w' => ∃ v, e = .returned v ∧ (Kd.int .i64).O 3 w' w.heap.size v (free t) ∧ Below w.heap.size w w' := by
  have H := Lib.hid h
  clear h
  go_enter Tryz.func103, Tryz.ntmps103
  go_wp2
  go_loopw [3, 8] (fun v3 v8 wr => ∃ (k : Nat) (D : List Int), v8 = .int .i64 k ∧ k ≤ t.length ∧ D.length ≤ k ∧ Hid ((t.take k).foldl freeStep [] = D) ∧ Hid ((Kd.int .i64).O 3 wr w.heap.size v3 D) ∧ Hid (Below w.heap.size w wr)) (fun _ v8 _ => t.length - (intOf v8).toNat)
  case atStart => exact ⟨0, [], rfl, Nat.zero_le _, Nat.zero_le _, Lib.hid rfl, Lib.hid (Kd.O_nil (Kd.int .i64) _ w _), Lib.hid (Below.refl _ _)⟩
  case round =>
    obtain ⟨k, D, rfl, hk, hD, HS, HO, HB⟩ := hrel
    by_cases hlt : k < t.length
    · obtain ⟨cc, hc⟩ : ∃ cc, t[k]? = some cc := ⟨_, List.getElem?_eq_getElem hlt⟩
      obtain ⟨ad, rfl, a1, a2, a3⟩ := cell_at (Kd.C_ext HB.out H.out) hc
      have HT := Lib.hid (free_take hc)
      rw [HS.out] at HT
      have HH := Lib.hid (fun o => imHas_c D _ _ cc.n (wr.alloc o) (Kd.O_alloc o HO.out) (by omega))
      clear hc
      by_cases h1 : cc.k = 1
      · have e1 : (cc.k == 1) = true := beq_iff_eq.2 h1
        by_cases hm : cc.n ∈ D
        · have HN := Lib.hid (show (t.take (k + 1)).foldl freeStep [] = D by rw [HT.out, freeStep, if_neg (fun h => h.2 hm)])
          rw [decide_eq_true hm] at HH
          clear hm h1
          go_wp2_with (go_at_call 142; refine (HH.out _).mono ?_; rintro e w1 ⟨rfl, rfl⟩)
          exact ⟨⟨k + 1, D, by go_num, by omega, by omega, HN, Lib.hid (Kd.O_alloc _ HO.out), Lib.hid (bel_alloc HB.out _)⟩, by simp [intOf]; omega⟩
        · have HN := Lib.hid (show (t.take (k + 1)).foldl freeStep [] = D ++ [cc.n] by rw [HT.out, freeStep, if_pos ⟨h1, hm⟩])
          rw [decide_eq_false hm] at HH
          clear hm h1
          go_wp2_with (first | (go_at_call 142; refine (HH.out _).mono ?_; rintro e w1 ⟨rfl, rfl⟩) | (at_builtin; refine wp_append (d := Kd.int .i64) _ rfl (.tmp 22) (.tmp 25) 140 rfl w.heap.size 3 _ 8 Tryz.underlying140 infoInt rfl (by decide) _ D rfl (Kd.O_alloc _ (Kd.O_alloc _ HO.out)) _ [cc.n] _ _ rfl rfl (litg (Kd.int .i64) _ (x := cc.n) (cs := [.int .i64 cc.n]) rfl) ?c1 ?c2 ?c3 (fun q hq => by simp [Kd.int] at hq) ?_; (case c1 => simp [maxLen]; omega); (case c2 => simp; omega); (case c3 => simp; have := HB.out.size; omega); intro v' w' ho hg hat; have hb := Lib.hid (bel_grown (bel_alloc (bel_alloc HB.out _) _) (Kd.O_alloc _ (Kd.O_alloc _ HO.out)) hg); have ho' := Lib.hid ho; clear ho hg hat))
          exact ⟨⟨k + 1, D ++ [cc.n], by go_num, by omega, by simp; omega, HN, ho', hb⟩, by simp [intOf]; omega⟩
      · have e1 : (cc.k == 1) = false := beq_eq_false_iff_ne.2 h1
        have HN := Lib.hid (show (t.take (k + 1)).foldl freeStep [] = D by rw [HT.out, freeStep, if_neg (fun h => h1 h.1)])
        clear h1
        go_wp2
        exact ⟨⟨k + 1, D, by go_num, by omega, by omega, HN, Lib.hid (Kd.O_alloc _ HO.out), Lib.hid (bel_alloc HB.out _)⟩, by simp [intOf]; omega⟩
    · have HV := Lib.hid (show free t = D by rw [← HS.out, List.take_of_length_le (by omega)]; rfl)
      go_wp2
      go_ret
      exact ⟨_, rfl, by rw [HV.out]; exact HO.out, HB.out⟩
end Go.Proofs.YtdoggcfdfkkedaaGreatDoor
namespace Go.Proofs.YtdoggcfdfkkedaaGreatDoor
open Go.RowKit
set_option maxRecDepth 100000
set_option maxHeartbeats 4000000
set_option linter.unusedVariables false
theorem clone_c (t : Trm) (A : Option Addr) (c : Nat) (w : World) (h : Kd.cell.C 112 w A t) (hl : t.length ≤ 1000000000) :
    Calls Tryz.prog 104 #[.slice A t.length c] w fun e w' => ∃ v, e = .returned v ∧ Kd.cell.O 112 w' w.heap.size v t ∧ Below w.heap.size w w' := by
  have hq : ∀ (W : World) (a : Option Addr) (n c n' c' : Nat), (binOp .eql 39 (.slice a n c) (.slice none n' c')).run Tryz.prog W = .ok (.bool a.isNone) W := fun W a n c n' c' => Lib.run_eql_slice_nil W _ _ a n c n' c' Tryz.underlying39
  cases A with
  | none =>
    obtain rfl : t = [] := by
      cases t with
      | nil => rfl
      | cons x t => obtain ⟨_, _, _, _, ea, _⟩ := h 0 x rfl; cases ea
    clear h
    go_enter Tryz.func104, Tryz.ntmps104
    go_wp2
    go_ret
    exact ⟨_, rfl, Kd.O_nil _ _ _ _, Below.refl _ _⟩
  | some ad =>
    have H := Lib.hid h
    clear h
    go_enter Tryz.func104, Tryz.ntmps104
    go_wp2_with (at_builtin; refine wp_append (d := Kd.cell) _ rfl (.tmp 5) (.tmp 6) 39 rfl w.heap.size 112 _ 32 Tryz.underlying39 infoCell rfl (by decide) _ [] rfl (Kd.O_empty Kd.cell _ w (Nat.le_refl _)) _ t _ _ rfl rfl (Kd.C_ext (bel_alloc (Below.refl _ _) _) H.out) ?c1 ?c2 ?c3 (fun q hq => by simp [Kd.cell] at hq) ?_; (case c1 => simp [maxLen]; omega); (case c2 => simp; omega); (case c3 => simp); intro v' w' ho hg hat; have hb := Lib.hid (bel_grown (bel_alloc (Below.refl _ w) _) (Kd.O_empty Kd.cell _ w (Nat.le_refl _)) hg); have ho' := Lib.hid ho; clear ho hg hat)
    go_ret
    exact ⟨_, rfl, by have := ho'.out; rwa [List.nil_append] at this, hb.out⟩
end Go.Proofs.YtdoggcfdfkkedaaGreatDoor
namespace Go.Proofs.YtdoggcfdfkkedaaGreatDoor
open Go.RowKit
set_option maxRecDepth 100000
set_option maxHeartbeats 2000000
set_option linter.unusedVariables false
theorem getI_none (s : Binds) (A : Option Addr) (c : Nat) (v : Int) (w : World) (h : Kd.bind.C 216 w A s) (hl : s.length ≤ 1000000000) (hnd : (s.map (·.1)).Nodup) (hg : getB s v = none) :
    Calls Tryz.prog 171 #[.slice A s.length c, .int .i64 v] w fun e w' => e = .returned (.slice none 0 0) ∧ Below w.heap.size w w' :=
  (getI_c s A c v w h hl hnd).mono fun e w' hp => by
    rw [hg] at hp
    obtain ⟨r, he, hb, hr⟩ := hp
    have hr : r = .slice none 0 0 := hr
    exact ⟨by rw [he, hr], hb⟩
theorem getI_some (s : Binds) (A : Option Addr) (c : Nat) (v : Int) (t : Trm) (w : World) (h : Kd.bind.C 216 w A s) (hl : s.length ≤ 1000000000) (hnd : (s.map (·.1)).Nodup) (hg : getB s v = some t) :
    Calls Tryz.prog 171 #[.slice A s.length c, .int .i64 v] w fun e w' => ∃ r, e = .returned r ∧ Kd.cell.S 112 w' r t ∧ Below w.heap.size w w' :=
  (getI_c s A c v w h hl hnd).mono fun e w' hp => by
    rw [hg] at hp
    obtain ⟨r, he, hb, hr⟩ := hp
    exact ⟨r, he, hr, hb⟩
theorem nil_eq : ∀ (W : World) (a : Option Addr) (n c n' c' : Nat), (binOp .eql 39 (.slice a n c) (.slice none n' c')).run Tryz.prog W = .ok (.bool a.isNone) W := fun W a n c n' c' => Lib.run_eql_slice_nil W _ _ a n c n' c' Tryz.underlying39
theorem walkI_c (n : Nat) (s : Binds) (A : Option Addr) (c : Nat) (t x : Trm) (tv : Value) (w : World) (h : Kd.bind.C 216 w A s) (hl : s.length ≤ 1000000000) (hnd : (s.map (·.1)).Nodup) (ht : Kd.cell.S 112 w tv t) (hw : walkB n s t = some x) (hne : ∀ v t, getB s v = some t → t ≠ []) :
    Calls Tryz.prog 143 #[.slice A s.length c, tv] w fun e w' => ∃ r, e = .returned r ∧ Kd.cell.S 112 w' r x ∧ Below w.heap.size w w' := by
  have H := Lib.hid h
  have HT := Lib.hid ht
  have HW := Lib.hid hw
  have HNe := Lib.hid hne
  have HD := Lib.hid hnd
  have hq := nil_eq
  clear h ht hw hne hnd
  go_enter Tryz.func143, Tryz.ntmps143
  go_wp2
  go_loopg [1] n (fun k v1 wr => ∃ u, Hid (walkB k s u = some x) ∧ Hid (Kd.cell.S 112 wr v1 u) ∧ Hid (Below w.heap.size w wr))
  case atStart => exact ⟨t, HW, HT, Lib.hid (Below.refl _ _)⟩
  case round =>
    obtain ⟨u, HU, HS, HB⟩ := hrel
    obtain ⟨k, rfl⟩ : ∃ k, gk = k + 1 := by
      cases gk with
      | zero => have := HU.out; simp [walkB] at this
      | succ k => exact ⟨k, rfl⟩
    obtain ⟨cc, r, rfl⟩ : ∃ cc r, u = cc :: r := by
      cases u with
      | nil => have := HU.out; simp [walkB] at this
      | cons cc r => exact ⟨cc, r, rfl⟩
    obtain ⟨ad, nx, kx, rfl, hn1, hn2, hn3, hn4⟩ := S_open HS.out
    obtain ⟨a1, a2, a3⟩ := S_cells HS.out
    by_cases h1 : cc.k = 1
    · have e1 : (cc.k == 1) = true := beq_iff_eq.2 h1
      cases hg : getB s cc.n with
      | none =>
        have HG := Lib.hid (fun W hb => getI_none s A c cc.n W (Kd.C_ext (w' := W) hb H.out) hl HD.out hg)
        have HX := Lib.hid (show x = cc :: r by have := HU.out; unfold walkB at this; dsimp only at this; rw [if_pos h1, hg] at this; exact (Option.some.inj this).symm)
        clear h1 hg
        go_wp2_with (go_at_call 171; refine (HG.out _ HB.out).mono ?_; rintro e w1 ⟨rfl, hb⟩; have HB1 := Lib.hid (bel_trans HB.out hb); have Hb := Lib.hid hb; clear hb)
        go_ret
        exact ⟨_, rfl, by rw [HX.out]; exact Kd.S_ext Hb.out HS.out, HB1.out⟩
      | some u' =>
        have HG := Lib.hid (fun W hb => getI_some s A c cc.n u' W (Kd.C_ext (w' := W) hb H.out) hl HD.out hg)
        have HX := Lib.hid (show walkB k s u' = some x by have := HU.out; unfold walkB at this; dsimp only at this; rw [if_pos h1, hg] at this; exact this)
        obtain ⟨c', r', rfl⟩ : ∃ c' r', u' = c' :: r' := by
          cases u' with
          | nil => exact absurd rfl (HNe.out _ _ hg)
          | cons c' r' => exact ⟨c', r', rfl⟩
        clear h1 hg
        go_wp2_with (go_at_call 171; refine (HG.out _ HB.out).mono ?_; rintro e w1 ⟨rv, rfl, hS1, hb⟩; have HS1 := Lib.hid hS1; obtain ⟨ad', ny, ky, rfl, hm1, hm2, hm3, hm4⟩ := S_open hS1; have HB1 := Lib.hid (bel_trans HB.out hb); clear hb hS1)
        go_roundg k
        case measure => omega
        case rel => exact ⟨_, HX, HS1, HB1⟩
    · have e1 : (cc.k == 1) = false := beq_eq_false_iff_ne.2 h1
      have HX := Lib.hid (show x = cc :: r by have := HU.out; unfold walkB at this; dsimp only at this; rw [if_neg h1] at this; exact (Option.some.inj this).symm)
      clear h1
      go_wp2
      go_ret
      exact ⟨_, rfl, by rw [HX.out]; exact HS.out, HB.out⟩
theorem argsI_c (c0 : Cell) (r : Trm) (tv : Value) (w : World) (ht : Kd.cell.S 112 w tv (c0 :: r)) (hok : trmOk (c0 :: r) = true) :
    Calls Tryz.prog 145 #[tv] w fun e w' => ∃ v, e = .returned v ∧ Kd.trm.O 39 w' w.heap.size v (argsOf (ar c0).toNat r) ∧ Below w.heap.size w w' := by
  obtain ⟨h1, h40, hall⟩ := trmOk_iff.1 hok
  have m : Ms (ar c0).toNat r := by rw [show 1 = 0 + 1 by rfl, Ms_cons, Nat.zero_add] at h1; exact h1
  have hr := ar_of_ok (List.all_eq_true.1 hall c0 List.mem_cons_self)
  obtain ⟨q, hq⟩ := Int.eq_ofNat_of_zero_le hr.1
  have hq3 : q ≤ 3 := by omega
  rw [hq, Int.toNat_natCast] at m ⊢
  obtain ⟨ad, nx, kx, rfl, hn1, hn2, hn3, hn4⟩ := S_open ht
  obtain ⟨a1, a2, a3⟩ := S_cells ht
  have HT := Lib.hid ht
  have HM := Lib.hid m
  have HAll := Lib.hid (show ∀ c ∈ r, cellOk c = true from fun c hc => List.all_eq_true.1 hall c (List.mem_cons_of_mem _ hc))
  have HA := Lib.hid (fun W => arity_c c0 W)
  rw [hq] at HA
  rw [List.length_cons] at h40
  clear h1 hall ht hok m hr hq
  go_enter Tryz.func145, Tryz.ntmps145
  go_wp2_with (first | (refine wp_sub_l AppI.cell rfl rfl HT.out rfl rfl (by omega) (by simp; omega) ?_; intro v4 hv4; have HV4 := Lib.hid hv4; clear hv4) | (go_at_call 170; (with_reducible refine (HA.out _).mono ?_); rintro e w1 ⟨rfl, hb⟩; have HB1 := Lib.hid hb; clear hb))
  go_loopw [3, 4, 12] (fun v3 v4 v12 wr => ∃ (k : Nat) (D : List Trm) (u : Trm), v12 = .int .i64 k ∧ k ≤ q ∧ D.length = k ∧ Hid (argsOf q r = D ++ argsOf (q - k) u) ∧ Hid (Ms (q - k) u) ∧ Hid (∀ c ∈ u, c ∈ r) ∧ u.length ≤ 40 ∧ Hid (Kd.cell.S 112 wr v4 u) ∧ Hid (Kd.trm.O 39 wr w.heap.size v3 D) ∧ Hid (Below w.heap.size w wr)) (fun _ _ v12 _ => q - (intOf v12).toNat)
  case atStart => exact ⟨0, [], r, rfl, Nat.zero_le _, rfl, Lib.hid (by simp), Lib.hid (by rw [Nat.sub_zero]; exact HM.out), Lib.hid (fun c h => h), by omega, Lib.hid (Kd.S_ext HB1.out HV4.out), Lib.hid (Kd.O_nil _ _ _ _), HB1⟩
  case round =>
    obtain ⟨k, D, u, rfl, hk, hD, HE, HMu, HCu, hu40, HS, HO, HB⟩ := hrel
    by_cases hlt : k < q
    · obtain ⟨x, y, rfl, hx, hy⟩ := Ms_split (m := 1) (n := q - (k + 1)) (t := u) (by have := HMu.out; rwa [show q - k = 1 + (q - (k + 1)) by omega] at this)
      have HX := Lib.hid hx
      have HY := Lib.hid hy
      have HE2 := Lib.hid (show argsOf q r = (D ++ [x]) ++ argsOf (q - (k + 1)) y by
        have := HE.out
        rwa [show q - k = (q - (k + 1)) + 1 by omega, argsOf, fst1_pre y hx, rst1_pre y hx, List.append_cons] at this)
      obtain ⟨UB, cU, rfl, u1, u2, hUC⟩ := HS.out
      have hlu : x.length ≤ (x ++ y).length := by rw [List.length_append]; omega
      have HZ := Lib.hid (size_c (x ++ y) UB cU wr hUC (List.all_eq_true.2 (fun c hc => HAll.out c (HCu.out c hc))) hu40)
      rw [size_pre y hx] at HZ
      obtain ⟨nu, hnu⟩ : ∃ nu, (x ++ y).length = nu := ⟨_, rfl⟩
      have HNu := Lib.hid hnu
      have HS' := Lib.hid HS.out
      clear HS
      rw [hnu] at HZ HS' hu40 hlu u1 ⊢
      clear hx hy hUC hnu
      go_wp2_with (first | (go_at_call 141; (with_reducible refine HZ.out.mono ?_); rintro e w2 ⟨rfl, hb⟩; have HB2 := Lib.hid hb; clear hb)
                         | (refine wp_sub_h AppI.cell rfl rfl (Kd.S_ext HB2.out HS'.out) rfl rfl (by omega) (by rw [HNu.out]; omega) ?_; intro v7 hv7; rw [Int.toNat_natCast, List.take_left' rfl] at hv7; have HV7 := Lib.hid hv7; obtain ⟨XB, cX, rfl, x1, x2, -⟩ := hv7)
                         | (at_builtin; refine wp_app AppI.trm rfl rfl (Kd.O_alloc _ (Kd.O_ext HB2.out HO.out)) rfl (Kd.S_lit Kd.trm _ (x := x) (cs := [.slice XB x.length cX]) ⟨_, rfl, HV7.out⟩ rfl) rfl ?c1 ?c2 ?_; (case c1 => simp; omega); (case c2 => have h1 := HB.out.size; have h2 := HB2.out.size; simp; omega); intro v8 w3 hg; have HG := Lib.hid hg; clear hg)
                         | (refine wp_sub_l AppI.cell rfl rfl ((HG.out.but (Kd.O_alloc _ (Kd.O_ext HB2.out HO.out))).S (Kd.S_alloc _ (Kd.S_ext HB2.out HS'.out)) cellE) rfl rfl (by omega) (by rw [HNu.out]; omega) ?_; intro v9 hv9; rw [Int.toNat_natCast, List.drop_left' rfl] at hv9; have HV9 := Lib.hid hv9; clear hv9))
      refine ⟨⟨k + 1, D ++ [x], y, by go_num, by omega, by simp; omega, HE2, HY, Lib.hid (fun c hc => HCu.out c (List.mem_append_right _ hc)), ?_, HV9, Lib.hid HG.out.own, Lib.hid (HG.out.below (bel_alloc (bel_trans HB.out HB2.out) _) (Kd.O_alloc _ (Kd.O_ext HB2.out HO.out)))⟩, by simp [intOf]; omega⟩
      have := HNu.out
      rw [List.length_append] at this
      omega
    · have HV := Lib.hid (show argsOf q r = D by have := HE.out; rwa [show q - k = 0 by omega, argsOf, List.append_nil] at this)
      go_wp2
      go_ret
      exact ⟨_, rfl, by rw [HV.out]; exact HO.out, HB.out⟩
end Go.Proofs.YtdoggcfdfkkedaaGreatDoor
namespace Go.Proofs.YtdoggcfdfkkedaaGreatDoor
set_option linter.unusedVariables false
inductive Fl (s : Binds) : Trm → Nat → Trm → Prop
  | nil : Fl s [] 0 []
  | keep {c : Cell} {t o : Trm} {k : Nat} (h : c.k = 1 → getB s c.n = none) (f : Fl s t k o) : Fl s (c :: t) (k + 1) (c :: o)
  | bound {c : Cell} {t u o : Trm} {k : Nat} (h : c.k = 1) (g : getB s c.n = some u) (f : Fl s (u ++ t) k o) : Fl s (c :: t) (k + 1) o
theorem Fl_fun {s : Binds} {t o : Trm} {k : Nat} (h : Fl s t k o) : ∀ {k' : Nat} {o' : Trm}, Fl s t k' o' → o = o' ∧ k = k' := by
  induction h with
  | nil => intro k' o' h'; cases h'; exact ⟨rfl, rfl⟩
  | keep hc f ih =>
    intro k' o' h'
    cases h' with
    | keep hc' f' => obtain ⟨rfl, rfl⟩ := ih f'; exact ⟨rfl, rfl⟩
    | bound hk g f' => rw [hc hk] at g; cases g
  | bound hk g f ih =>
    intro k' o' h'
    cases h' with
    | keep hc' f' => rw [hc' hk] at g; cases g
    | bound hk' g' f' =>
      rw [g] at g'
      obtain rfl := Option.some.inj g'
      obtain ⟨rfl, rfl⟩ := ih f'
      exact ⟨rfl, rfl⟩
theorem Fl_app {s : Binds} {t o : Trm} {k : Nat} (h : Fl s t k o) {r o' : Trm} {k' : Nat} (h' : Fl s r k' o') : Fl s (t ++ r) (k + k') (o ++ o') := by
  induction h with
  | nil => rw [Nat.zero_add]; exact h'
  | keep hc f ih => rw [Nat.add_right_comm]; exact .keep hc ih
  | bound hk g f ih => rw [Nat.add_right_comm]; exact .bound hk g (by have := ih; rw [List.append_assoc] at this; exact this)
theorem Fl_split {s : Binds} : ∀ {k : Nat} {t r o : Trm}, Fl s (t ++ r) k o → ∃ k1 o1 k2 o2, Fl s t k1 o1 ∧ Fl s r k2 o2 ∧ k = k1 + k2 ∧ o = o1 ++ o2 := by
  intro k
  induction k with
  | zero =>
    intro t r o h
    cases t with
    | nil => exact ⟨0, [], 0, o, .nil, h, rfl, rfl⟩
    | cons c t => cases h
  | succ k ih =>
    intro t r o h
    cases t with
    | nil => exact ⟨0, [], _, o, .nil, h, (Nat.zero_add _).symm, rfl⟩
    | cons c t =>
      cases h with
      | keep hc f =>
        obtain ⟨k1, o1, k2, o2, f1, f2, rfl, rfl⟩ := ih f
        exact ⟨k1 + 1, c :: o1, k2, o2, .keep hc f1, f2, by omega, rfl⟩
      | bound hk g f =>
        have f := (show Fl s (_ ++ (t ++ r)) k o from f)
        rw [← List.append_assoc] at f
        obtain ⟨k1, o1, k2, o2, f1, f2, rfl, rfl⟩ := ih f
        exact ⟨k1 + 1, o1, k2, o2, .bound hk g f1, f2, by omega, rfl⟩
theorem Fl_rank {s : Binds} {ρ : Int → Nat} (hρ : ∀ v t, getB s v = some t → ∀ x ∈ vars t, ρ x < ρ v) : ∀ (K : Nat) (t : Trm), (∀ x ∈ vars t, ρ x < K) → ∃ k o, Fl s t k o := by
  intro K
  induction K with
  | zero =>
    intro t
    induction t with
    | nil => intro _; exact ⟨0, [], .nil⟩
    | cons c t ih =>
      intro h
      by_cases hc : c.k = 1
      · exact absurd (h c.n (by rw [vars_cons_var hc]; exact List.mem_cons_self)) (by omega)
      · obtain ⟨k, o, f⟩ := ih (fun x hx => h x (by rw [vars_cons_fun hc]; exact hx))
        exact ⟨k + 1, c :: o, .keep (fun e => absurd e hc) f⟩
  | succ K ihK =>
    intro t
    induction t with
    | nil => intro _; exact ⟨0, [], .nil⟩
    | cons c t ih =>
      intro h
      by_cases hc : c.k = 1
      · obtain ⟨k, o, f⟩ := ih (fun x hx => h x (by rw [vars_cons_var hc]; exact List.mem_cons_of_mem _ hx))
        have hr := h c.n (by rw [vars_cons_var hc]; exact List.mem_cons_self)
        cases hg : getB s c.n with
        | none => exact ⟨k + 1, c :: o, .keep (fun _ => hg) f⟩
        | some u =>
          obtain ⟨k1, o1, f1⟩ := ihK u (fun x hx => by have := hρ _ _ hg x hx; omega)
          exact ⟨_, _, .bound hc hg (Fl_app f1 f)⟩
      · obtain ⟨k, o, f⟩ := ih (fun x hx => h x (by rw [vars_cons_fun hc]; exact hx))
        exact ⟨k + 1, c :: o, .keep (fun e => absurd e hc) f⟩
theorem Fl_ex {s : Binds} (h : Bok s) (t : Trm) : ∃ k o, Fl s t k o := by
  obtain ⟨_, ρ, hρ⟩ := h
  have : ∃ K, ∀ x ∈ vars t, ρ x < K := ⟨Rmax ρ (vars t), fun x hx => Rmax_ge hx⟩
  obtain ⟨K, hK⟩ := this
  exact Fl_rank hρ K t hK
theorem Fl_len {s : Binds} (h : ∀ v u, getB s v = some u → 0 < u.length) {t o : Trm} {k : Nat} (f : Fl s t k o) : t.length ≤ o.length := by
  induction f with
  | nil => exact Nat.le_refl _
  | keep hc f ih => simp only [List.length_cons]; omega
  | bound hk g f ih =>
    have := h _ _ g
    rw [List.length_append] at ih
    rw [List.length_cons]
    omega
open Classical in
noncomputable def flat (s : Binds) (t : Trm) : Trm := if h : ∃ k o, Fl s t k o then Classical.choose (Classical.choose_spec h) else []
theorem flat_eq {s : Binds} {t o : Trm} {k : Nat} (f : Fl s t k o) : flat s t = o := by
  have h : ∃ k o, Fl s t k o := ⟨k, o, f⟩
  unfold flat
  rw [dif_pos h]
  exact (Fl_fun (Classical.choose_spec (Classical.choose_spec h)) f).1
theorem flat_fl {s : Binds} (h : Bok s) (t : Trm) : ∃ k, Fl s t k (flat s t) := by
  obtain ⟨k, o, f⟩ := Fl_ex h t
  exact ⟨k, by rw [flat_eq f]; exact f⟩
theorem Binv.pos {V : List Int} {s : Binds} (h : Binv V s) : ∀ v u, getB s v = some u → 0 < u.length := fun v u hg => Ms_pos (m := 0) (trmOk_iff.1 (h.trm v u hg)).1
end Go.Proofs.YtdoggcfdfkkedaaGreatDoor
namespace Go.Proofs.YtdoggcfdfkkedaaGreatDoor
open Go.RowKit
set_option maxRecDepth 100000
set_option maxHeartbeats 2000000
set_option linter.unusedVariables false
def Far (w : World) (u v : Value) : Prop := ∀ k, v.ownBlock = some k → u.ownBlock ≠ some k ∧ k < w.heap.size
theorem sliced_in {A : Option Addr} {l k n c s : Nat} : ∀ j, (sliced A l k c s).ownBlock = some j → (Value.slice A n c).ownBlock = some j := by
  intro j h
  unfold sliced at h
  cases A with
  | none => split at h <;> simp [Value.ownBlock] at h
  | some ad =>
    split at h
    · simp [Value.ownBlock] at h ⊢; exact h
    · simp [Value.ownBlock] at h ⊢; rw [add_block] at h; exact h
theorem Far.ext {w w' : World} {u v : Value} (h : Far w u v) (hb : w.heap.size ≤ w'.heap.size) : Far w' u v := fun k hk => ⟨(h k hk).1, Nat.lt_of_lt_of_le (h k hk).2 hb⟩
theorem Far.grew {α : Type} {d : Kd α} {e base : Nat} {w w' : World} {u u' v : Value} {ys : List α} (h : Far w u v) (hg : Grew d e base u ys w u' w') : Far w' u' v := fun k hk => by
  have h1 := h k hk
  refine ⟨fun e => ?_, Nat.lt_of_lt_of_le h1.2 hg.grown.size⟩
  rcases hg.at' with ha | ha
  · rw [ha] at e; exact h1.1 e
  · rw [ha] at e; have := Option.some.inj e; omega
theorem S_far {α : Type} {d : Kd α} {e : Nat} {w w' : World} {u v : Value} {xs : List α} (hd : d.E = []) (h : d.S e w v xs) (hf : Far w u v) (hg : w.grownBy w' u.ownBlock) : d.S e w' v xs := by
  obtain ⟨A, c, rfl, h1, h2, hC⟩ := h
  refine ⟨A, c, rfl, h1, h2, fun i x hx => ?_⟩
  obtain ⟨ad, cs, cells, fz, rfl, hh, hK, hc⟩ := hC i x hx
  have hk := hf ad.block rfl
  have hb := hg.block ad.block hk.2 (fun e => hk.1 e.symm)
  exact ⟨ad, cs, cells, fz, rfl, hb.trans hh, d.mov (fun k c q f _ hq => by rw [hd] at hq; cases hq) hK, fun j u hu => (World.cell?_of_block (by rw [add_block]; exact hb)).trans (hc j u hu)⟩
theorem wp_sub_l' {α : Type} {P : Program} {w : World} {d : Kd α} {t e : TypeId} {ops : Array Oper} {rest : List Oper} {o : Oper} {a : Act} {Q : Exit → Act → World → Prop} (I : AppI P t e d) (hgd : o.guard = none) {x lo : Operand} (ho : o.op = .slice t x (some lo) none none)
    {A : Option Addr} {c : Nat} {xs : List α} (hy : d.S e w (.slice A xs.length c) xs) (hx : a.eval x = .slice A xs.length c) {l : Int} (hl : a.eval lo = .int .i64 l) (h0 : 0 ≤ l) (h2 : l ≤ xs.length)
    (h : ∀ v', d.S e w v' (xs.drop l.toNat) → (∀ j, v'.ownBlock = some j → (Value.slice A xs.length c).ownBlock = some j) → wpList P ops Q rest (a.put o.dst v') w) : wpList P ops Q (o :: rest) a w :=
  wpList_plain hgd fun K hK => by
    have hy' := hy
    obtain ⟨A', c', ev, hc, hm, hC⟩ := hy
    injection ev with e1 _ e3
    subst e1
    subst e3
    have ht : P.underlying t = some (.slice (P.elem t)) := by rw [I.elem]; exact I.und
    have hr := run_slice_l (w := w) t A xs.length c ht .i64 l h0 h2
    rw [I.size] at hr
    unfold Oper.wp execOp
    simp only [ho, Option.map_some, Option.map_none, hl, hx, Sem.run_bind, Sem.run_pure, run_sliceAt_slice (h := ht), hr, Result.andThen_ok]
    exact hK _ _ (h _ (by have := Kd.S_sliced hy' (show l.toNat ≤ xs.length by omega) (Nat.le_refl _); rwa [List.take_of_length_le (by rw [List.length_drop]; exact Nat.le_refl _)] at this) sliced_in)
theorem O_empty_at {α : Type} (d : Kd α) (e : Nat) (w : World) {base g : Nat} (hg : w.heap.size = g) (hb : base ≤ w.heap.size) : d.O e (w.alloc (.cells #[] e)) base (.slice (some ⟨g, 0, none⟩) 0 0) [] := by subst hg; exact Kd.O_empty d e w hb
theorem size_alloc1 (w : World) (o : Obj) : (w.alloc o).heap.size = w.heap.size + 1 := by show (w.heap.push o).size = _; exact Array.size_push _
def FullPost (w : World) (o : Trm) (e : Ending) (w' : World) : Prop := ∃ v, e = .returned (.tuple #[v, .bool (decide (o.length ≤ 40))]) ∧ Kd.cell.O 112 w' w.heap.size v (if o.length ≤ 40 then o else []) ∧ Below w.heap.size w w'
theorem FullPost.yes {w w' : World} {o : Trm} {v : Value} (h : o.length ≤ 40) (hO : Kd.cell.O 112 w' w.heap.size v o) (hb : Below w.heap.size w w') : FullPost w o (.returned (.tuple #[v, .bool true])) w' :=
  ⟨v, by rw [decide_eq_true h], by rw [if_pos h]; exact hO, hb⟩
theorem FullPost.no {w w' : World} {o : Trm} {v : Value} (h : ¬ o.length ≤ 40) (hO : Kd.cell.O 112 w' w.heap.size v []) (hb : Below w.heap.size w w') : FullPost w o (.returned (.tuple #[v, .bool false])) w' :=
  ⟨v, by rw [decide_eq_false h], by rw [if_neg h]; exact hO, hb⟩
theorem size_alloc2 (w : World) (o o' : Obj) : ((w.alloc o).alloc o').heap.size = w.heap.size + 1 + 1 := by rw [size_alloc1, size_alloc1]
theorem box3 {w w3 : World} {cs : Array Value} {T : Nat} {o' : Obj} (hb : Below ((w.alloc (.cells cs T)).alloc o').heap.size ((w.alloc (.cells cs T)).alloc o') w3) : w3.heap[w.heap.size]? = some (.cells cs T (0, 0)) := by
  have h := heap_alloc_new w (.cells cs T)
  have h2 : ((w.alloc (.cells cs T)).alloc o').heap[w.heap.size]? = some (.cells cs T (0, 0)) := by
    rw [← h]; exact Lib.alloc_old _ _ _ (by rw [size_alloc1]; omega)
  exact box_keep h2 hb
theorem fullS_c (s : Binds) (t o : Trm) (n : Nat) (sv tv : Value) (w : World) (f : Fl s t n o) (hs : Kd.bind.S 216 w sv s) (ht : Kd.cell.S 112 w tv t) (hl : s.length ≤ 1000000000) (h40 : t.length ≤ 40) (hu : ∀ v u, getB s v = some u → 0 < u.length ∧ u.length ≤ 40) :
    Calls Tryz.prog 125 #[sv, tv] w (FullPost w o) := by
  have HF := Lib.hid f
  have HU := Lib.hid hu
  have HT := Lib.hid ht
  have HS := Lib.hid hs
  obtain ⟨SB, cS, rfl, s1, s2, -⟩ := hs
  obtain ⟨TB, cT, rfl, t1, t2, -⟩ := ht
  have HG := Lib.hid (fun v W hb => get_c s SB cS v W (by obtain ⟨A, c, e, _, _, hC⟩ := Kd.S_ext (w' := W) hb HS.out; injection e with e1 _ _; subst e1; exact hC) hl)
  clear f hu
  go_enter Tryz.func125, Tryz.ntmps125
  go_wp2_with (at_builtin; refine wp_app AppI.cell rfl rfl (O_empty_at Kd.cell _ (w.alloc (.cells #[] 112)) (size_alloc1 _ _) (base := (w.alloc (.cells #[] 112)).heap.size) (Nat.le_refl _)) rfl (Kd.S_alloc _ (Kd.S_alloc _ HT.out)) rfl ?c1 ?c2 ?_; (case c1 => simp; omega); (case c2 => exact (bel_alloc (Below.refl _ (w.alloc (.cells #[] 112))) _).size); intro v7 w1 hg; have HGr := Lib.hid hg; clear hg)
  have HB1 := Lib.hid (HGr.out.below (bel_alloc (Below.refl _ (w.alloc (.cells #[] 112))) _) (O_empty_at Kd.cell _ (w.alloc (.cells #[] 112)) (size_alloc1 _ _) (base := (w.alloc (.cells #[] 112)).heap.size) (Nat.le_refl _)))
  have HO1 := Lib.hid (Kd.O_ext HB1.out (Kd.O_empty Kd.cell 112 w (Nat.le_refl _)))
  have HS1 := Lib.hid (show Kd.cell.S 112 w1 v7 t from Kd.O_read HGr.out.own)
  have HFa := Lib.hid (show Far w1 (.slice (some ⟨w.heap.size, 0, none⟩) 0 0) v7 from fun k hk => by
    have := Kd.O_lt HGr.out.own k hk
    rw [size_alloc1] at this
    refine ⟨fun e => ?_, this.2⟩
    have := Option.some.inj e
    dsimp only at this
    omega)
  have HBw := Lib.hid (bel_trans (bel_alloc (Below.refl w.heap.size w) _) HB1.out)
  clear HGr HB1
  go_loopg [6, 7] n (fun k v6 v7 wr => ∃ (out todo o' : Trm), Hid (Fl s todo k o') ∧ Hid (out ++ o' = o) ∧ Hid (Kd.cell.O 112 wr w.heap.size v6 out) ∧ Hid (Kd.cell.S 112 wr v7 todo) ∧ Hid (Far wr v6 v7) ∧ Hid (Below w.heap.size w wr) ∧ out.length + todo.length ≤ 40)
  case atStart => exact ⟨[], t, o, HF, Lib.hid rfl, HO1, HS1, HFa, HBw, by simpa using h40⟩
  case round =>
    clear HF HT HO1 HS1 HFa HBw t1 t2 h40
    obtain ⟨out, todo, o', HFl, HOo, HOr, HSr, HFr, HBr, hlen⟩ := hrel
    match todo, HFl, HSr, hlen with
    | [], HFl, HSr, hlen =>
      obtain ⟨OB, oc, rfl, o1, o2, -⟩ := Kd.O_read HOr.out
      obtain ⟨TB2, tc, rfl, q1, q2, -⟩ := HSr.out
      have HV := Lib.hid (show out = o by have h := HFl.out; cases h; have := HOo.out; rwa [List.append_nil] at this)
      have hol := Lib.hid (show o.length ≤ 40 by rw [← HV.out]; simpa using hlen)
      go_wp2
      go_ret2
      exact .yes hol.out (HV.out ▸ HOr.out) HBr.out
    | cc :: r, HFl, HSr, hlen =>
      obtain ⟨OB, oc, rfl, o1, o2, -⟩ := Kd.O_read HOr.out
      obtain ⟨TB2, tc, rfl, q1, q2, hC⟩ := HSr.out
      obtain ⟨ad, rfl, x1, x2, x3⟩ := cell_hd hC
      have hrl : (cc :: r).length = r.length + 1 := rfl
      obtain ⟨N1, hN1⟩ : ∃ N1, (cc :: r).length = N1 := ⟨_, rfl⟩
      have HN1 := Lib.hid hN1
      rw [hN1] at q1 hrl hlen ⊢
      have HSr := Lib.hid (show Kd.cell.S 112 wr (.slice (some ad) (cc :: r).length tc) (cc :: r) from HSr.out)
      have hFr := HFr.out
      rw [hN1] at hFr
      have HFr := Lib.hid hFr
      clear hC hN1 hFr
      have hcases : (cc.k == 1) = false ∨ ((cc.k == 1) = true ∧ getB s cc.n = none) ∨ ((cc.k == 1) = true ∧ ∃ u, getB s cc.n = some u) := by
        by_cases h : cc.k = 1
        · cases hg : getB s cc.n with
          | none => exact .inr (.inl ⟨beq_iff_eq.2 h, rfl⟩)
          | some u => exact .inr (.inr ⟨beq_iff_eq.2 h, u, rfl⟩)
        · exact .inl (beq_eq_false_iff_ne.2 h)
      rcases hcases with e1 | ⟨e1, hg⟩ | ⟨e1, u, hg⟩
      · obtain ⟨g2, oo, hgk, ho2, f2⟩ : ∃ g2 oo, gk = g2 + 1 ∧ o' = cc :: oo ∧ Fl s r g2 oo := by
          have h := HFl.out
          cases h with
          | keep hc f => exact ⟨_, _, rfl, rfl, f⟩
          | bound hk g f => exact absurd (beq_iff_eq.2 hk) (by rw [e1]; simp)
        have Hgk := Lib.hid hgk
        have HFl2 := Lib.hid f2
        have HOo2 := Lib.hid (show (out ++ [cc]) ++ oo = o by rw [List.append_assoc]; show out ++ cc :: oo = o; rw [← ho2]; exact HOo.out)
        clear hgk ho2 f2
        have e9 : decide ((40 : Int) < (out.length : Int) + 1 + (r.length : Int)) = false := decide_eq_false (by omega)
        go_wp2_with (first | (refine wp_sub_l' AppI.cell rfl rfl (Kd.S_alloc _ HSr.out) ?hx rfl (by omega) (by rw [List.length_cons]; omega) ?_; (case hx => rw [HN1.out]; rfl); intro v7b hv7 hin; have HIn := Lib.hid (show Far wr (.slice OB out.length oc) v7b from fun k hk => HFr.out k (hin k hk)); have HV7 := Lib.hid (show Kd.cell.S 112 _ v7b r from hv7); obtain ⟨TB3, tc3, rfl, z1, z2, -⟩ := HV7.out; clear hv7 hin)
                           | (at_builtin; refine wp_app AppI.cell rfl rfl (Kd.O_alloc _ (Kd.O_alloc _ (Kd.O_alloc _ HOr.out))) rfl (Kd.S_lit Kd.cell _ (x := cc) (cs := [.int .i64 cc.k, .int .i64 cc.n, .string cc.s]) rfl (size_alloc2 _ _ _).symm) rfl ?c1 ?c2 ?_; (case c1 => simp; omega); (case c2 => exact Nat.le_trans HBr.out.size (bel_alloc (bel_alloc (bel_alloc (Below.refl _ wr) _) _) _).size); intro v6b w4 hg; have HGr := Lib.hid hg; obtain ⟨OB2, oc2, rfl, z3, z4, -⟩ := Kd.O_read hg.own; clear hg))
        have hl2 : (out ++ [cc]).length = out.length + 1 := by simp
        have HG2 := HGr.out
        rw [hl2] at HG2
        have HG3 := Lib.hid HG2
        clear HG2 HGr
        go_roundg g2
        case measure => rw [Hgk.out]; omega
        case rel => exact ⟨out ++ [cc], r, oo, HFl2, HOo2, Lib.hid HG3.out.own, Lib.hid (S_far rfl (Kd.S_alloc _ (Kd.S_alloc _ HV7.out)) (HIn.out.ext (bel_alloc (bel_alloc (bel_alloc (Below.refl _ wr) _) _) _).size) HG3.out.grown), Lib.hid (Far.grew (HIn.out.ext (bel_alloc (bel_alloc (bel_alloc (Below.refl _ wr) _) _) _).size) HG3.out), Lib.hid (HG3.out.below (bel_alloc (bel_alloc (bel_alloc HBr.out _) _) _) (Kd.O_alloc _ (Kd.O_alloc _ (Kd.O_alloc _ HOr.out)))), by rw [hl2]; omega⟩
      · obtain ⟨g2, oo, hgk, ho2, f2⟩ : ∃ g2 oo, gk = g2 + 1 ∧ o' = cc :: oo ∧ Fl s r g2 oo := by
          have h := HFl.out
          cases h with
          | keep hc f => exact ⟨_, _, rfl, rfl, f⟩
          | bound hk g f => rw [hg] at g; cases g
        have Hgk := Lib.hid hgk
        have HFl2 := Lib.hid f2
        have HOo2 := Lib.hid (show (out ++ [cc]) ++ oo = o by rw [List.append_assoc]; show out ++ cc :: oo = o; rw [← ho2]; exact HOo.out)
        have HGt := Lib.hid (HG.out cc.n)
        rw [hg] at HGt
        clear hgk ho2 f2 hg
        have e9 : decide ((40 : Int) < (out.length : Int) + 1 + (r.length : Int)) = false := decide_eq_false (by omega)
        go_wp2_with (first | (refine wp_sub_l' AppI.cell rfl rfl (Kd.S_alloc _ HSr.out) ?hx rfl (by omega) (by rw [List.length_cons]; omega) ?_; (case hx => rw [HN1.out]; rfl); intro v7b hv7 hin; have HIn := Lib.hid (show Far wr (.slice OB out.length oc) v7b from fun k hk => HFr.out k (hin k hk)); have HV7 := Lib.hid (show Kd.cell.S 112 _ v7b r from hv7); obtain ⟨TB3, tc3, rfl, z1, z2, -⟩ := HV7.out; clear hv7 hin)
                           | (go_at_call 157; (with_reducible refine (HGt.out _ (bel_alloc (bel_alloc HBr.out _) _)).mono ?_); rintro e w3 ⟨rv, rfl, hr, hb3⟩; have HB3 := Lib.hid hb3; have HRv := Lib.hid hr; obtain ⟨RA, rc, rfl, y1, y2, -⟩ := hr; have hbx := box3 hb3; have c0 := Lib.cell_of_heap hbx 0; have c1 := Lib.cell_of_heap hbx 1; have c2 := Lib.cell_of_heap hbx 2; clear hb3 hbx)
                           | (at_builtin; refine wp_app AppI.cell rfl rfl (Kd.O_alloc _ (Kd.O_ext HB3.out (Kd.O_alloc _ (Kd.O_alloc _ HOr.out)))) rfl (Kd.S_lit Kd.cell _ (x := cc) (cs := [.int .i64 cc.k, .int .i64 cc.n, .string cc.s]) rfl rfl) rfl ?c1 ?c2 ?_; (case c1 => simp; omega); (case c2 => exact Nat.le_trans HBr.out.size (bel_alloc (bel_trans (bel_alloc (bel_alloc (Below.refl _ wr) _) _) HB3.out) _).size); intro v6b w4 hg; have HGr := Lib.hid hg; obtain ⟨OB2, oc2, rfl, z3, z4, -⟩ := Kd.O_read hg.own; clear hg))
        have hl2 : (out ++ [cc]).length = out.length + 1 := by simp
        have HG2 := HGr.out
        rw [hl2] at HG2
        have HG3 := Lib.hid HG2
        clear HG2 HGr
        go_roundg g2
        case measure => rw [Hgk.out]; omega
        case rel => exact ⟨out ++ [cc], r, oo, HFl2, HOo2, Lib.hid HG3.out.own, Lib.hid (S_far rfl (Kd.S_alloc _ (Kd.S_ext HB3.out (Kd.S_alloc _ HV7.out))) (HIn.out.ext (bel_alloc (bel_trans (bel_alloc (bel_alloc (Below.refl _ wr) _) _) HB3.out) _).size) HG3.out.grown), Lib.hid (Far.grew (HIn.out.ext (bel_alloc (bel_trans (bel_alloc (bel_alloc (Below.refl _ wr) _) _) HB3.out) _).size) HG3.out), Lib.hid (HG3.out.below (bel_alloc (bel_trans HBr.out (bel_trans (bel_alloc (bel_alloc (Below.refl _ wr) _) _) HB3.out)) _) (Kd.O_alloc _ (Kd.O_ext HB3.out (Kd.O_alloc _ (Kd.O_alloc _ HOr.out))))), by rw [hl2]; omega⟩
      · obtain ⟨g2, hgk, f2⟩ : ∃ g2, gk = g2 + 1 ∧ Fl s (u ++ r) g2 o' := by
          have h := HFl.out
          cases h with
          | keep hc f => rw [hc (beq_iff_eq.1 e1)] at hg; cases hg
          | bound hk g f => rw [g] at hg; obtain rfl := Option.some.inj hg; exact ⟨_, rfl, f⟩
        have Hgk := Lib.hid hgk
        have HFl2 := Lib.hid f2
        have hup := HU.out _ _ hg
        have hu0 : 0 < u.length := hup.1
        have hu4 : u.length ≤ 40 := hup.2
        have hge := Lib.hid (Fl_len (fun v u h => (HU.out v u h).1) f2)
        have HGt := Lib.hid (HG.out cc.n)
        rw [hg] at HGt
        have HGt := Lib.hid (show ∀ W, Below w.heap.size w W → Calls Tryz.prog 157 #[.slice SB s.length cS, .int .i64 cc.n] W fun e w' => ∃ r, e = .returned r ∧ Kd.cell.S 112 w' r u ∧ Below W.heap.size W w' from HGt.out)
        clear hgk f2 hg hup
        have hcut : decide ((40 : Int) < (out.length : Int) + ((u.length : Int) + (r.length : Int))) = true ∨ decide ((40 : Int) < (out.length : Int) + ((u.length : Int) + (r.length : Int))) = false := by
          cases decide ((40 : Int) < (out.length : Int) + ((u.length : Int) + (r.length : Int))) <;> simp
        rcases hcut with e9 | e9
        all_goals
          have hq9 := Lib.hid e9
          go_wp2_with (first | (refine wp_sub_l' AppI.cell rfl rfl (Kd.S_alloc _ HSr.out) ?hx rfl (by omega) (by rw [List.length_cons]; omega) ?_; (case hx => rw [HN1.out]; rfl); intro v7b hv7 hin; have HIn := Lib.hid (show Far wr (.slice OB out.length oc) v7b from fun k hk => HFr.out k (hin k hk)); have HV7 := Lib.hid (show Kd.cell.S 112 _ v7b r from hv7); obtain ⟨TB3, tc3, rfl, z1, z2, -⟩ := HV7.out; clear hv7 hin)
                             | (go_at_call 157; (with_reducible refine (HGt.out _ (bel_alloc (bel_alloc HBr.out _) _)).mono ?_); rintro e w3 ⟨rv, rfl, hr, hb3⟩; have HB3 := Lib.hid (bel_trans (bel_alloc (bel_alloc (Below.refl _ wr) _) _) hb3); have HV3 := Lib.hid (Kd.S_ext hb3 (Kd.S_alloc _ HV7.out)); have HRv := Lib.hid hr; obtain ⟨RA, rc, rfl, y1, y2, -⟩ := hr; clear hb3)
                             | (at_builtin; refine wp_app AppI.cell rfl rfl (Kd.O_empty Kd.cell _ w3 (Nat.le_refl _)) rfl (Kd.S_alloc _ HRv.out) rfl ?c1 ?c2 ?_; (case c1 => simp; omega); (case c2 => exact (bel_alloc (Below.refl _ w3) _).size); intro v8 w5 hg5; have HG5 := Lib.hid hg5; have HB5 := Lib.hid (hg5.below (bel_alloc (Below.refl _ w3) _) (Kd.O_empty Kd.cell _ w3 (Nat.le_refl _))); clear hg5)
                             | (at_builtin; refine wp_app AppI.cell rfl rfl HG5.out.own rfl (Kd.S_ext HB5.out HV3.out) rfl ?c1 ?c2 ?_; (case c1 => simp; omega); (case c2 => exact HB5.out.size); intro v9 w6 hg6; have HB6 := Lib.hid (hg6.below HB5.out HG5.out.own); have HO6 := Lib.hid (show Kd.cell.O 112 w6 w3.heap.size v9 (u ++ r) from hg6.own); obtain ⟨NB, nc, rfl, n1, n2, -⟩ := Kd.O_read HO6.out; clear hg6))
        · go_ret2
          exact .no (by
              have h1 := of_decide_eq_true hq9.out
              have h2 := hge.out
              rw [← HOo.out, List.length_append]
              rw [List.length_append] at h2
              omega) (Kd.O_empty Kd.cell _ w6 (Nat.le_trans HBr.out.size (Nat.le_trans HB3.out.size HB6.out.size))) (bel_alloc (bel_trans HBr.out (bel_trans HB3.out HB6.out)) _)
        · have hl2 : (u ++ r).length = u.length + r.length := List.length_append
          have h6 := HO6.out
          rw [hl2] at h6
          have H6 := Lib.hid h6
          clear h6
          go_roundg g2
          case measure => rw [Hgk.out]; omega
          case rel => exact ⟨out, u ++ r, o', HFl2, HOo, Lib.hid (Kd.O_ext (bel_trans HB3.out HB6.out) HOr.out), Lib.hid (by have := Kd.O_read H6.out; exact this), Lib.hid (fun k hk => by
              have h1 := Kd.O_lt H6.out k hk
              refine ⟨fun e => ?_, h1.2⟩
              have h2 := (Kd.O_lt HOr.out k e).2
              have h3 := HB3.out.size
              omega), Lib.hid (bel_trans HBr.out (bel_trans HB3.out HB6.out)), by have := of_decide_eq_false hq9.out; rw [hl2]; omega⟩
end Go.Proofs.YtdoggcfdfkkedaaGreatDoor
