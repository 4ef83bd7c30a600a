/- Contracts: the program's walk and arguments. -/
import Derived.Test.YtjnangiggnmkoaaGreatDoorImGet
import Derived.Test.YtjnangiggnmkoaaGreatDoorCUnify
import Derived.Test.YtjnangiggnmkoaaGreatDoorCImpC
namespace Go.Proofs.YtjnangiggnmkoaaGreatDoor
open Go.RowKit
set_option maxRecDepth 100000
set_option maxHeartbeats 2000000
set_option linter.unusedVariables false
theorem getI_none (s : Binds) (A : Option Addr) (c : Nat) (v : Int) (w : World) (h : Kd.bind.C 115 w A s) (hl : s.length ≤ 1000000000) (hnd : (s.map (·.1)).Nodup) (hg : getB s v = none) :
    Calls Tryz.prog 91 #[.slice A s.length c, .int .i64 v] w fun e w' => e = .returned (.slice none 0 0) ∧ Below w.heap.size w w' :=
  (getI_c s A c v w h hl hnd).mono fun e w' hp => by
    rw [hg] at hp
    obtain ⟨r, he, hb, hr⟩ := hp
    have hr : r = .slice none 0 0 := hr
    exact ⟨by rw [he, hr], hb⟩
theorem getI_some (s : Binds) (A : Option Addr) (c : Nat) (v : Int) (t : Trm) (w : World) (h : Kd.bind.C 115 w A s) (hl : s.length ≤ 1000000000) (hnd : (s.map (·.1)).Nodup) (hg : getB s v = some t) :
    Calls Tryz.prog 91 #[.slice A s.length c, .int .i64 v] w fun e w' => ∃ r, e = .returned r ∧ Kd.cell.S 47 w' r t ∧ Below w.heap.size w w' :=
  (getI_c s A c v w h hl hnd).mono fun e w' hp => by
    rw [hg] at hp
    obtain ⟨r, he, hb, hr⟩ := hp
    exact ⟨r, he, hr, hb⟩
theorem nil_eq : ∀ (W : World) (a : Option Addr) (n c n' c' : Nat), (binOp .eql 28 (.slice a n c) (.slice none n' c')).run Tryz.prog W = .ok (.bool a.isNone) W := fun W a n c n' c' => Lib.run_eql_slice_nil W _ _ a n c n' c' Tryz.underlying28
theorem walkI_c (n : Nat) (s : Binds) (A : Option Addr) (c : Nat) (t x : Trm) (tv : Value) (w : World) (h : Kd.bind.C 115 w A s) (hl : s.length ≤ 1000000000) (hnd : (s.map (·.1)).Nodup) (ht : Kd.cell.S 47 w tv t) (hw : walkB n s t = some x) (hne : ∀ v t, getB s v = some t → t ≠ []) :
    Calls Tryz.prog 72 #[.slice A s.length c, tv] w fun e w' => ∃ r, e = .returned r ∧ Kd.cell.S 47 w' r x ∧ Below w.heap.size w w' := by
  have H := Lib.hid h
  have HT := Lib.hid ht
  have HW := Lib.hid hw
  have HNe := Lib.hid hne
  have HD := Lib.hid hnd
  have hq := nil_eq
  clear h ht hw hne hnd
  go_enter Tryz.func72, Tryz.ntmps72
  go_wp2
  go_loopg [1] n (fun k v1 wr => ∃ u, Hid (walkB k s u = some x) ∧ Hid (Kd.cell.S 47 wr v1 u) ∧ Hid (Below w.heap.size w wr))
  case atStart => exact ⟨t, HW, HT, Lib.hid (Below.refl _ _)⟩
  case round =>
    obtain ⟨u, HU, HS, HB⟩ := hrel
    obtain ⟨k, rfl⟩ : ∃ k, gk = k + 1 := by
      cases gk with
      | zero => have := HU.out; simp [walkB] at this
      | succ k => exact ⟨k, rfl⟩
    obtain ⟨cc, r, rfl⟩ : ∃ cc r, u = cc :: r := by
      cases u with
      | nil => have := HU.out; simp [walkB] at this
      | cons cc r => exact ⟨cc, r, rfl⟩
    obtain ⟨ad, nx, kx, rfl, hn1, hn2, hn3, hn4⟩ := S_open HS.out
    obtain ⟨a1, a2, a3⟩ := S_cells HS.out
    by_cases h1 : cc.k = 1
    · have e1 : (cc.k == 1) = true := beq_iff_eq.2 h1
      cases hg : getB s cc.n with
      | none =>
        have HG := Lib.hid (fun W hb => getI_none s A c cc.n W (Kd.C_ext (w' := W) hb H.out) hl HD.out hg)
        have HX := Lib.hid (show x = cc :: r by have := HU.out; unfold walkB at this; dsimp only at this; rw [if_pos h1, hg] at this; exact (Option.some.inj this).symm)
        clear h1 hg
        go_wp2_with (go_at_call 91; refine (HG.out _ HB.out).mono ?_; rintro e w1 ⟨rfl, hb⟩; have HB1 := Lib.hid (bel_trans HB.out hb); have Hb := Lib.hid hb; clear hb)
        go_ret
        exact ⟨_, rfl, by rw [HX.out]; exact Kd.S_ext Hb.out HS.out, HB1.out⟩
      | some u' =>
        have HG := Lib.hid (fun W hb => getI_some s A c cc.n u' W (Kd.C_ext (w' := W) hb H.out) hl HD.out hg)
        have HX := Lib.hid (show walkB k s u' = some x by have := HU.out; unfold walkB at this; dsimp only at this; rw [if_pos h1, hg] at this; exact this)
        obtain ⟨c', r', rfl⟩ : ∃ c' r', u' = c' :: r' := by
          cases u' with
          | nil => exact absurd rfl (HNe.out _ _ hg)
          | cons c' r' => exact ⟨c', r', rfl⟩
        clear h1 hg
        go_wp2_with (go_at_call 91; refine (HG.out _ HB.out).mono ?_; rintro e w1 ⟨rv, rfl, hS1, hb⟩; have HS1 := Lib.hid hS1; obtain ⟨ad', ny, ky, rfl, hm1, hm2, hm3, hm4⟩ := S_open hS1; have HB1 := Lib.hid (bel_trans HB.out hb); clear hb hS1)
        go_roundg k
        case measure => omega
        case rel => exact ⟨_, HX, HS1, HB1⟩
    · have e1 : (cc.k == 1) = false := beq_eq_false_iff_ne.2 h1
      have HX := Lib.hid (show x = cc :: r by have := HU.out; unfold walkB at this; dsimp only at this; rw [if_neg h1] at this; exact (Option.some.inj this).symm)
      clear h1
      go_wp2
      go_ret
      exact ⟨_, rfl, by rw [HX.out]; exact HS.out, HB.out⟩
/-- The arguments of a term that is ok: parts of its own memory. -/
theorem argsI_c (c0 : Cell) (r : Trm) (tv : Value) (w : World) (ht : Kd.cell.S 47 w tv (c0 :: r)) (hok : trmOk (c0 :: r) = true) :
    Calls Tryz.prog 64 #[tv] w fun e w' => ∃ v, e = .returned v ∧ Kd.trm.O 28 w' w.heap.size v (argsOf (ar c0).toNat r) ∧ Below w.heap.size w w' := by
  obtain ⟨h1, h40, hall⟩ := trmOk_iff.1 hok
  have m : Ms (ar c0).toNat r := by rw [show 1 = 0 + 1 by rfl, Ms_cons, Nat.zero_add] at h1; exact h1
  have hr := ar_of_ok (List.all_eq_true.1 hall c0 List.mem_cons_self)
  obtain ⟨q, hq⟩ := Int.eq_ofNat_of_zero_le hr.1
  have hq3 : q ≤ 3 := by omega
  rw [hq, Int.toNat_natCast] at m ⊢
  obtain ⟨ad, nx, kx, rfl, hn1, hn2, hn3, hn4⟩ := S_open ht
  obtain ⟨a1, a2, a3⟩ := S_cells ht
  have HT := Lib.hid ht
  have HM := Lib.hid m
  have HAll := Lib.hid (show ∀ c ∈ r, cellOk c = true from fun c hc => List.all_eq_true.1 hall c (List.mem_cons_of_mem _ hc))
  have HA := Lib.hid (fun W => arity_c c0 W)
  rw [hq] at HA
  rw [List.length_cons] at h40
  clear h1 hall ht hok m hr hq
  go_enter Tryz.func64, Tryz.ntmps64
  go_wp2_with (first | (refine wp_sub_l AppI.cell rfl rfl HT.out rfl rfl (by omega) (by simp; omega) ?_; intro v4 hv4; have HV4 := Lib.hid hv4; clear hv4) | (go_at_call 65; (with_reducible refine (HA.out _).mono ?_); rintro e w1 ⟨rfl, hb⟩; have HB1 := Lib.hid hb; clear hb))
  go_loopw [3, 4, 12] (fun v3 v4 v12 wr => ∃ (k : Nat) (D : List Trm) (u : Trm), v12 = .int .i64 k ∧ k ≤ q ∧ D.length = k ∧ Hid (argsOf q r = D ++ argsOf (q - k) u) ∧ Hid (Ms (q - k) u) ∧ Hid (∀ c ∈ u, c ∈ r) ∧ u.length ≤ 40 ∧ Hid (Kd.cell.S 47 wr v4 u) ∧ Hid (Kd.trm.O 28 wr w.heap.size v3 D) ∧ Hid (Below w.heap.size w wr)) (fun _ _ v12 _ => q - (intOf v12).toNat)
  case atStart => exact ⟨0, [], r, rfl, Nat.zero_le _, rfl, Lib.hid (by simp), Lib.hid (by rw [Nat.sub_zero]; exact HM.out), Lib.hid (fun c h => h), by omega, Lib.hid (Kd.S_ext HB1.out HV4.out), Lib.hid (Kd.O_nil _ _ _ _), HB1⟩
  case round =>
    obtain ⟨k, D, u, rfl, hk, hD, HE, HMu, HCu, hu40, HS, HO, HB⟩ := hrel
    by_cases hlt : k < q
    · obtain ⟨x, y, rfl, hx, hy⟩ := Ms_split (m := 1) (n := q - (k + 1)) (t := u) (by have := HMu.out; rwa [show q - k = 1 + (q - (k + 1)) by omega] at this)
      have HX := Lib.hid hx
      have HY := Lib.hid hy
      have HE2 := Lib.hid (show argsOf q r = (D ++ [x]) ++ argsOf (q - (k + 1)) y by
        have := HE.out
        rwa [show q - k = (q - (k + 1)) + 1 by omega, argsOf, fst1_pre y hx, rst1_pre y hx, List.append_cons] at this)
      obtain ⟨UB, cU, rfl, u1, u2, hUC⟩ := HS.out
      have hlu : x.length ≤ (x ++ y).length := by rw [List.length_append]; omega
      have HZ := Lib.hid (size_c (x ++ y) UB cU wr hUC (List.all_eq_true.2 (fun c hc => HAll.out c (HCu.out c hc))) hu40)
      rw [size_pre y hx] at HZ
      obtain ⟨nu, hnu⟩ : ∃ nu, (x ++ y).length = nu := ⟨_, rfl⟩
      have HNu := Lib.hid hnu
      have HS' := Lib.hid HS.out
      clear HS
      rw [hnu] at HZ HS' hu40 hlu u1 ⊢
      clear hx hy hUC hnu
      go_wp2_with (first | (go_at_call 61; (with_reducible refine HZ.out.mono ?_); rintro e w2 ⟨rfl, hb⟩; have HB2 := Lib.hid hb; clear hb)
                         | (refine wp_sub_h AppI.cell rfl rfl (Kd.S_ext HB2.out HS'.out) rfl rfl (by omega) (by rw [HNu.out]; omega) ?_; intro v7 hv7; rw [Int.toNat_natCast, List.take_left' rfl] at hv7; have HV7 := Lib.hid hv7; obtain ⟨XB, cX, rfl, x1, x2, -⟩ := hv7)
                         | (at_builtin; refine wp_app AppI.trm rfl rfl (Kd.O_alloc _ (Kd.O_ext HB2.out HO.out)) rfl (Kd.S_lit Kd.trm _ (x := x) (cs := [.slice XB x.length cX]) ⟨_, rfl, HV7.out⟩ rfl) rfl ?c1 ?c2 ?_; (case c1 => simp; omega); (case c2 => have h1 := HB.out.size; have h2 := HB2.out.size; simp; omega); intro v8 w3 hg; have HG := Lib.hid hg; clear hg)
                         | (refine wp_sub_l AppI.cell rfl rfl ((HG.out.but (Kd.O_alloc _ (Kd.O_ext HB2.out HO.out))).S (Kd.S_alloc _ (Kd.S_ext HB2.out HS'.out)) cellE) rfl rfl (by omega) (by rw [HNu.out]; omega) ?_; intro v9 hv9; rw [Int.toNat_natCast, List.drop_left' rfl] at hv9; have HV9 := Lib.hid hv9; clear hv9))
      refine ⟨⟨k + 1, D ++ [x], y, by go_num, by omega, by simp; omega, HE2, HY, Lib.hid (fun c hc => HCu.out c (List.mem_append_right _ hc)), ?_, HV9, Lib.hid HG.out.own, Lib.hid (HG.out.below (bel_alloc (bel_trans HB.out HB2.out) _) (Kd.O_alloc _ (Kd.O_ext HB2.out HO.out)))⟩, by simp [intOf]; omega⟩
      have := HNu.out
      rw [List.length_append] at this
      omega
    · have HV := Lib.hid (show argsOf q r = D by have := HE.out; rwa [show q - k = 0 by omega, argsOf, List.append_nil] at this)
      go_wp2
      go_ret
      exact ⟨_, rfl, by rw [HV.out]; exact HO.out, HB.out⟩
end Go.Proofs.YtjnangiggnmkoaaGreatDoor
