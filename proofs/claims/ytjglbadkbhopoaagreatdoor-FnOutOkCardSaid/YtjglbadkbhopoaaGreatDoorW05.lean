/- Lemmas and contracts for FnOutOk, part 5. -/
import Derived.Lib.SliceRun
import Derived.Test.YtjglbadkbhopoaaGreatDoorW04
import Derived.Test.YtjglbadkbhopoaaGreatDoorW03
import Derived.Test.YtjglbadkbhopoaaGreatDoorW02
import Derived.Maps.Own
import Derived.Maps.OwnOps
import Derived.Maps.OwnSet
import Derived.Maps.Views
namespace Go.Proofs.YtjglbadkbhopoaaGreatDoor
open Go.RowKit
set_option maxRecDepth 100000
set_option maxHeartbeats 4000000
set_option linter.unusedVariables false
theorem clone_c (t : Trm) (A : Option Addr) (c : Nat) (w : World) (h : Kd.cell.C 47 w A t) (hl : t.length ≤ 1000000000) :
    Calls Tryz.prog 46 #[.slice A t.length c] w fun e w' => ∃ v, e = .returned v ∧ Kd.cell.O 47 w' w.heap.size v t ∧ Below w.heap.size w w' := by
  have hq : ∀ (W : World) (a : Option Addr) (n c n' c' : Nat), (binOp .eql 23 (.slice a n c) (.slice none n' c')).run Tryz.prog W = .ok (.bool a.isNone) W := fun W a n c n' c' => Lib.run_eql_slice_nil W _ _ a n c n' c' Tryz.underlying23
  cases A with
  | none =>
    obtain rfl : t = [] := by
      cases t with
      | nil => rfl
      | cons x t => obtain ⟨_, _, _, _, ea, _⟩ := h 0 x rfl; cases ea
    clear h
    go_enter Tryz.func46, Tryz.ntmps46
    go_wp2
    go_ret
    exact ⟨_, rfl, Kd.O_nil _ _ _ _, Below.refl _ _⟩
  | some ad =>
    have H := Lib.hid h
    clear h
    go_enter Tryz.func46, Tryz.ntmps46
    go_wp2_with (at_builtin; refine wp_append (d := Kd.cell) _ rfl (.tmp 5) (.tmp 6) 23 rfl w.heap.size 47 _ 32 Tryz.underlying23 infoCell rfl (by decide) _ [] rfl (Kd.O_empty Kd.cell _ w (Nat.le_refl _)) _ t _ _ rfl rfl (Kd.C_ext (bel_alloc (Below.refl _ _) _) H.out) ?c1 ?c2 ?c3 (fun q hq => by simp [Kd.cell] at hq) ?_; (case c1 => simp [maxLen]; omega); (case c2 => simp; omega); (case c3 => simp); intro v' w' ho hg hat; have hb := Lib.hid (bel_grown (bel_alloc (Below.refl _ w) _) (Kd.O_empty Kd.cell _ w (Nat.le_refl _)) hg); have ho' := Lib.hid ho; clear ho hg hat)
    go_ret
    exact ⟨_, rfl, by have := ho'.out; rwa [List.nil_append] at this, hb.out⟩
end Go.Proofs.YtjglbadkbhopoaaGreatDoor
namespace Go.Proofs.YtjglbadkbhopoaaGreatDoor
open Go.RowKit
set_option maxRecDepth 100000
set_option maxHeartbeats 2000000
set_option linter.unusedVariables false
theorem getI_none (s : Binds) (A : Option Addr) (c : Nat) (v : Int) (w : World) (h : Kd.bind.C 107 w A s) (hl : s.length ≤ 1000000000) (hnd : (s.map (·.1)).Nodup) (hg : getB s v = none) :
    Calls Tryz.prog 104 #[.slice A s.length c, .int .i64 v] w fun e w' => e = .returned (.slice none 0 0) ∧ Below w.heap.size w w' :=
  (getI_c s A c v w h hl hnd).mono fun e w' hp => by
    rw [hg] at hp
    obtain ⟨r, he, hb, hr⟩ := hp
    have hr : r = .slice none 0 0 := hr
    exact ⟨by rw [he, hr], hb⟩
theorem getI_some (s : Binds) (A : Option Addr) (c : Nat) (v : Int) (t : Trm) (w : World) (h : Kd.bind.C 107 w A s) (hl : s.length ≤ 1000000000) (hnd : (s.map (·.1)).Nodup) (hg : getB s v = some t) :
    Calls Tryz.prog 104 #[.slice A s.length c, .int .i64 v] w fun e w' => ∃ r, e = .returned r ∧ Kd.cell.S 47 w' r t ∧ Below w.heap.size w w' :=
  (getI_c s A c v w h hl hnd).mono fun e w' hp => by
    rw [hg] at hp
    obtain ⟨r, he, hb, hr⟩ := hp
    exact ⟨r, he, hr, hb⟩
theorem nil_eq : ∀ (W : World) (a : Option Addr) (n c n' c' : Nat), (binOp .eql 23 (.slice a n c) (.slice none n' c')).run Tryz.prog W = .ok (.bool a.isNone) W := fun W a n c n' c' => Lib.run_eql_slice_nil W _ _ a n c n' c' Tryz.underlying23
theorem walkI_c (n : Nat) (s : Binds) (A : Option Addr) (c : Nat) (t x : Trm) (tv : Value) (w : World) (h : Kd.bind.C 107 w A s) (hl : s.length ≤ 1000000000) (hnd : (s.map (·.1)).Nodup) (ht : Kd.cell.S 47 w tv t) (hw : walkB n s t = some x) (hne : ∀ v t, getB s v = some t → t ≠ []) :
    Calls Tryz.prog 75 #[.slice A s.length c, tv] w fun e w' => ∃ r, e = .returned r ∧ Kd.cell.S 47 w' r x ∧ Below w.heap.size w w' := by
  have H := Lib.hid h
  have HT := Lib.hid ht
  have HW := Lib.hid hw
  have HNe := Lib.hid hne
  have HD := Lib.hid hnd
  have hq := nil_eq
  clear h ht hw hne hnd
  go_enter Tryz.func75, Tryz.ntmps75
  go_wp2
  go_loopg [1] n (fun k v1 wr => ∃ u, Hid (walkB k s u = some x) ∧ Hid (Kd.cell.S 47 wr v1 u) ∧ Hid (Below w.heap.size w wr))
  case atStart => exact ⟨t, HW, HT, Lib.hid (Below.refl _ _)⟩
  case round =>
    obtain ⟨u, HU, HS, HB⟩ := hrel
    obtain ⟨k, rfl⟩ : ∃ k, gk = k + 1 := by
      cases gk with
      | zero => have := HU.out; simp [walkB] at this
      | succ k => exact ⟨k, rfl⟩
    obtain ⟨cc, r, rfl⟩ : ∃ cc r, u = cc :: r := by
      cases u with
      | nil => have := HU.out; simp [walkB] at this
      | cons cc r => exact ⟨cc, r, rfl⟩
    obtain ⟨ad, nx, kx, rfl, hn1, hn2, hn3, hn4⟩ := S_open HS.out
    obtain ⟨a1, a2, a3⟩ := S_cells HS.out
    by_cases h1 : cc.k = 1
    · have e1 : (cc.k == 1) = true := beq_iff_eq.2 h1
      cases hg : getB s cc.n with
      | none =>
        have HG := Lib.hid (fun W hb => getI_none s A c cc.n W (Kd.C_ext (w' := W) hb H.out) hl HD.out hg)
        have HX := Lib.hid (show x = cc :: r by have := HU.out; unfold walkB at this; dsimp only at this; rw [if_pos h1, hg] at this; exact (Option.some.inj this).symm)
        clear h1 hg
        go_wp2_with (go_at_call 104; refine (HG.out _ HB.out).mono ?_; rintro e w1 ⟨rfl, hb⟩; have HB1 := Lib.hid (bel_trans HB.out hb); have Hb := Lib.hid hb; clear hb)
        go_ret
        exact ⟨_, rfl, by rw [HX.out]; exact Kd.S_ext Hb.out HS.out, HB1.out⟩
      | some u' =>
        have HG := Lib.hid (fun W hb => getI_some s A c cc.n u' W (Kd.C_ext (w' := W) hb H.out) hl HD.out hg)
        have HX := Lib.hid (show walkB k s u' = some x by have := HU.out; unfold walkB at this; dsimp only at this; rw [if_pos h1, hg] at this; exact this)
        obtain ⟨c', r', rfl⟩ : ∃ c' r', u' = c' :: r' := by
          cases u' with
          | nil => exact absurd rfl (HNe.out _ _ hg)
          | cons c' r' => exact ⟨c', r', rfl⟩
        clear h1 hg
        go_wp2_with (go_at_call 104; refine (HG.out _ HB.out).mono ?_; rintro e w1 ⟨rv, rfl, hS1, hb⟩; have HS1 := Lib.hid hS1; obtain ⟨ad', ny, ky, rfl, hm1, hm2, hm3, hm4⟩ := S_open hS1; have HB1 := Lib.hid (bel_trans HB.out hb); clear hb hS1)
        go_roundg k
        case measure => omega
        case rel => exact ⟨_, HX, HS1, HB1⟩
    · have e1 : (cc.k == 1) = false := beq_eq_false_iff_ne.2 h1
      have HX := Lib.hid (show x = cc :: r by have := HU.out; unfold walkB at this; dsimp only at this; rw [if_neg h1] at this; exact (Option.some.inj this).symm)
      clear h1
      go_wp2
      go_ret
      exact ⟨_, rfl, by rw [HX.out]; exact HS.out, HB.out⟩
theorem argsI_c (c0 : Cell) (r : Trm) (tv : Value) (w : World) (ht : Kd.cell.S 47 w tv (c0 :: r)) (hok : trmOk (c0 :: r) = true) :
    Calls Tryz.prog 63 #[tv] w fun e w' => ∃ v, e = .returned v ∧ Kd.trm.O 23 w' w.heap.size v (argsOf (ar c0).toNat r) ∧ Below w.heap.size w w' := by
  obtain ⟨h1, h40, hall⟩ := trmOk_iff.1 hok
  have m : Ms (ar c0).toNat r := by rw [show 1 = 0 + 1 by rfl, Ms_cons, Nat.zero_add] at h1; exact h1
  have hr := ar_of_ok (List.all_eq_true.1 hall c0 List.mem_cons_self)
  obtain ⟨q, hq⟩ := Int.eq_ofNat_of_zero_le hr.1
  have hq3 : q ≤ 3 := by omega
  rw [hq, Int.toNat_natCast] at m ⊢
  obtain ⟨ad, nx, kx, rfl, hn1, hn2, hn3, hn4⟩ := S_open ht
  obtain ⟨a1, a2, a3⟩ := S_cells ht
  have HT := Lib.hid ht
  have HM := Lib.hid m
  have HAll := Lib.hid (show ∀ c ∈ r, cellOk c = true from fun c hc => List.all_eq_true.1 hall c (List.mem_cons_of_mem _ hc))
  have HA := Lib.hid (fun W => arity_c c0 W)
  rw [hq] at HA
  rw [List.length_cons] at h40
  clear h1 hall ht hok m hr hq
  go_enter Tryz.func63, Tryz.ntmps63
  go_wp2_with (first | (refine wp_sub_l AppI.cell rfl rfl HT.out rfl rfl (by omega) (by simp; omega) ?_; intro v4 hv4; have HV4 := Lib.hid hv4; clear hv4) | (go_at_call 64; (with_reducible refine (HA.out _).mono ?_); rintro e w1 ⟨rfl, hb⟩; have HB1 := Lib.hid hb; clear hb))
  go_loopw [3, 4, 12] (fun v3 v4 v12 wr => ∃ (k : Nat) (D : List Trm) (u : Trm), v12 = .int .i64 k ∧ k ≤ q ∧ D.length = k ∧ Hid (argsOf q r = D ++ argsOf (q - k) u) ∧ Hid (Ms (q - k) u) ∧ Hid (∀ c ∈ u, c ∈ r) ∧ u.length ≤ 40 ∧ Hid (Kd.cell.S 47 wr v4 u) ∧ Hid (Kd.trm.O 23 wr w.heap.size v3 D) ∧ Hid (Below w.heap.size w wr)) (fun _ _ v12 _ => q - (intOf v12).toNat)
  case atStart => exact ⟨0, [], r, rfl, Nat.zero_le _, rfl, Lib.hid (by simp), Lib.hid (by rw [Nat.sub_zero]; exact HM.out), Lib.hid (fun c h => h), by omega, Lib.hid (Kd.S_ext HB1.out HV4.out), Lib.hid (Kd.O_nil _ _ _ _), HB1⟩
  case round =>
    obtain ⟨k, D, u, rfl, hk, hD, HE, HMu, HCu, hu40, HS, HO, HB⟩ := hrel
    by_cases hlt : k < q
    · obtain ⟨x, y, rfl, hx, hy⟩ := Ms_split (m := 1) (n := q - (k + 1)) (t := u) (by have := HMu.out; rwa [show q - k = 1 + (q - (k + 1)) by omega] at this)
      have HX := Lib.hid hx
      have HY := Lib.hid hy
      have HE2 := Lib.hid (show argsOf q r = (D ++ [x]) ++ argsOf (q - (k + 1)) y by
        have := HE.out
        rwa [show q - k = (q - (k + 1)) + 1 by omega, argsOf, fst1_pre y hx, rst1_pre y hx, List.append_cons] at this)
      obtain ⟨UB, cU, rfl, u1, u2, hUC⟩ := HS.out
      have hlu : x.length ≤ (x ++ y).length := by rw [List.length_append]; omega
      have HZ := Lib.hid (size_c (x ++ y) UB cU wr hUC (List.all_eq_true.2 (fun c hc => HAll.out c (HCu.out c hc))) hu40)
      rw [size_pre y hx] at HZ
      obtain ⟨nu, hnu⟩ : ∃ nu, (x ++ y).length = nu := ⟨_, rfl⟩
      have HNu := Lib.hid hnu
      have HS' := Lib.hid HS.out
      clear HS
      rw [hnu] at HZ HS' hu40 hlu u1 ⊢
      clear hx hy hUC hnu
      go_wp2_with (first | (go_at_call 60; (with_reducible refine HZ.out.mono ?_); rintro e w2 ⟨rfl, hb⟩; have HB2 := Lib.hid hb; clear hb)
                         | (refine wp_sub_h AppI.cell rfl rfl (Kd.S_ext HB2.out HS'.out) rfl rfl (by omega) (by rw [HNu.out]; omega) ?_; intro v7 hv7; rw [Int.toNat_natCast, List.take_left' rfl] at hv7; have HV7 := Lib.hid hv7; obtain ⟨XB, cX, rfl, x1, x2, -⟩ := hv7)
                         | (at_builtin; refine wp_app AppI.trm rfl rfl (Kd.O_alloc _ (Kd.O_ext HB2.out HO.out)) rfl (Kd.S_lit Kd.trm _ (x := x) (cs := [.slice XB x.length cX]) ⟨_, rfl, HV7.out⟩ rfl) rfl ?c1 ?c2 ?_; (case c1 => simp; omega); (case c2 => have h1 := HB.out.size; have h2 := HB2.out.size; simp; omega); intro v8 w3 hg; have HG := Lib.hid hg; clear hg)
                         | (refine wp_sub_l AppI.cell rfl rfl ((HG.out.but (Kd.O_alloc _ (Kd.O_ext HB2.out HO.out))).S (Kd.S_alloc _ (Kd.S_ext HB2.out HS'.out)) cellE) rfl rfl (by omega) (by rw [HNu.out]; omega) ?_; intro v9 hv9; rw [Int.toNat_natCast, List.drop_left' rfl] at hv9; have HV9 := Lib.hid hv9; clear hv9))
      refine ⟨⟨k + 1, D ++ [x], y, by go_num, by omega, by simp; omega, HE2, HY, Lib.hid (fun c hc => HCu.out c (List.mem_append_right _ hc)), ?_, HV9, Lib.hid HG.out.own, Lib.hid (HG.out.below (bel_alloc (bel_trans HB.out HB2.out) _) (Kd.O_alloc _ (Kd.O_ext HB2.out HO.out)))⟩, by simp [intOf]; omega⟩
      have := HNu.out
      rw [List.length_append] at this
      omega
    · have HV := Lib.hid (show argsOf q r = D by have := HE.out; rwa [show q - k = 0 by omega, argsOf, List.append_nil] at this)
      go_wp2
      go_ret
      exact ⟨_, rfl, by rw [HV.out]; exact HO.out, HB.out⟩
end Go.Proofs.YtjglbadkbhopoaaGreatDoor
namespace Go.Proofs.YtjglbadkbhopoaaGreatDoor
set_option linter.unusedVariables false
inductive Fl (s : Binds) : Trm → Nat → Trm → Prop
  | nil : Fl s [] 0 []
  | keep {c : Cell} {t o : Trm} {k : Nat} (h : c.k = 1 → getB s c.n = none) (f : Fl s t k o) : Fl s (c :: t) (k + 1) (c :: o)
  | bound {c : Cell} {t u o : Trm} {k : Nat} (h : c.k = 1) (g : getB s c.n = some u) (f : Fl s (u ++ t) k o) : Fl s (c :: t) (k + 1) o
theorem Fl_fun {s : Binds} {t o : Trm} {k : Nat} (h : Fl s t k o) : ∀ {k' : Nat} {o' : Trm}, Fl s t k' o' → o = o' ∧ k = k' := by
  induction h with
  | nil => intro k' o' h'; cases h'; exact ⟨rfl, rfl⟩
  | keep hc f ih =>
    intro k' o' h'
    cases h' with
    | keep hc' f' => obtain ⟨rfl, rfl⟩ := ih f'; exact ⟨rfl, rfl⟩
    | bound hk g f' => rw [hc hk] at g; cases g
  | bound hk g f ih =>
    intro k' o' h'
    cases h' with
    | keep hc' f' => rw [hc' hk] at g; cases g
    | bound hk' g' f' =>
      rw [g] at g'
      obtain rfl := Option.some.inj g'
      obtain ⟨rfl, rfl⟩ := ih f'
      exact ⟨rfl, rfl⟩
theorem Fl_app {s : Binds} {t o : Trm} {k : Nat} (h : Fl s t k o) {r o' : Trm} {k' : Nat} (h' : Fl s r k' o') : Fl s (t ++ r) (k + k') (o ++ o') := by
  induction h with
  | nil => rw [Nat.zero_add]; exact h'
  | keep hc f ih => rw [Nat.add_right_comm]; exact .keep hc ih
  | bound hk g f ih => rw [Nat.add_right_comm]; exact .bound hk g (by have := ih; rw [List.append_assoc] at this; exact this)
theorem Fl_split {s : Binds} : ∀ {k : Nat} {t r o : Trm}, Fl s (t ++ r) k o → ∃ k1 o1 k2 o2, Fl s t k1 o1 ∧ Fl s r k2 o2 ∧ k = k1 + k2 ∧ o = o1 ++ o2 := by
  intro k
  induction k with
  | zero =>
    intro t r o h
    cases t with
    | nil => exact ⟨0, [], 0, o, .nil, h, rfl, rfl⟩
    | cons c t => cases h
  | succ k ih =>
    intro t r o h
    cases t with
    | nil => exact ⟨0, [], _, o, .nil, h, (Nat.zero_add _).symm, rfl⟩
    | cons c t =>
      cases h with
      | keep hc f =>
        obtain ⟨k1, o1, k2, o2, f1, f2, rfl, rfl⟩ := ih f
        exact ⟨k1 + 1, c :: o1, k2, o2, .keep hc f1, f2, by omega, rfl⟩
      | bound hk g f =>
        have f := (show Fl s (_ ++ (t ++ r)) k o from f)
        rw [← List.append_assoc] at f
        obtain ⟨k1, o1, k2, o2, f1, f2, rfl, rfl⟩ := ih f
        exact ⟨k1 + 1, o1, k2, o2, .bound hk g f1, f2, by omega, rfl⟩
theorem Fl_rank {s : Binds} {ρ : Int → Nat} (hρ : ∀ v t, getB s v = some t → ∀ x ∈ vars t, ρ x < ρ v) : ∀ (K : Nat) (t : Trm), (∀ x ∈ vars t, ρ x < K) → ∃ k o, Fl s t k o := by
  intro K
  induction K with
  | zero =>
    intro t
    induction t with
    | nil => intro _; exact ⟨0, [], .nil⟩
    | cons c t ih =>
      intro h
      by_cases hc : c.k = 1
      · exact absurd (h c.n (by rw [vars_cons_var hc]; exact List.mem_cons_self)) (by omega)
      · obtain ⟨k, o, f⟩ := ih (fun x hx => h x (by rw [vars_cons_fun hc]; exact hx))
        exact ⟨k + 1, c :: o, .keep (fun e => absurd e hc) f⟩
  | succ K ihK =>
    intro t
    induction t with
    | nil => intro _; exact ⟨0, [], .nil⟩
    | cons c t ih =>
      intro h
      by_cases hc : c.k = 1
      · obtain ⟨k, o, f⟩ := ih (fun x hx => h x (by rw [vars_cons_var hc]; exact List.mem_cons_of_mem _ hx))
        have hr := h c.n (by rw [vars_cons_var hc]; exact List.mem_cons_self)
        cases hg : getB s c.n with
        | none => exact ⟨k + 1, c :: o, .keep (fun _ => hg) f⟩
        | some u =>
          obtain ⟨k1, o1, f1⟩ := ihK u (fun x hx => by have := hρ _ _ hg x hx; omega)
          exact ⟨_, _, .bound hc hg (Fl_app f1 f)⟩
      · obtain ⟨k, o, f⟩ := ih (fun x hx => h x (by rw [vars_cons_fun hc]; exact hx))
        exact ⟨k + 1, c :: o, .keep (fun e => absurd e hc) f⟩
theorem Fl_ex {s : Binds} (h : Bok s) (t : Trm) : ∃ k o, Fl s t k o := by
  obtain ⟨_, ρ, hρ⟩ := h
  have : ∃ K, ∀ x ∈ vars t, ρ x < K := ⟨Rmax ρ (vars t), fun x hx => Rmax_ge hx⟩
  obtain ⟨K, hK⟩ := this
  exact Fl_rank hρ K t hK
theorem Fl_len {s : Binds} (h : ∀ v u, getB s v = some u → 0 < u.length) {t o : Trm} {k : Nat} (f : Fl s t k o) : t.length ≤ o.length := by
  induction f with
  | nil => exact Nat.le_refl _
  | keep hc f ih => simp only [List.length_cons]; omega
  | bound hk g f ih =>
    have := h _ _ g
    rw [List.length_append] at ih
    rw [List.length_cons]
    omega
theorem Fl_ms {s : Binds} (h : ∀ v u, getB s v = some u → Ms 1 u) {t o : Trm} {k : Nat} (f : Fl s t k o) : ∀ {m : Nat}, Ms m t → Ms m o := by
  induction f with
  | nil => intro m hm; exact hm
  | keep hc f ih =>
    intro m hm
    cases m with
    | zero => rw [Ms_zero] at hm; cases hm
    | succ m => rw [Ms_cons] at hm ⊢; exact ih hm
  | bound hk g f ih =>
    intro m hm
    cases m with
    | zero => rw [Ms_zero] at hm; cases hm
    | succ m =>
      rw [Ms_cons, ar_var hk, Nat.add_zero] at hm
      rw [Nat.add_comm]
      exact ih (Ms_app (h _ _ g) hm)
theorem Fl_cells {s : Binds} {p : Cell → Prop} (h : ∀ v u, getB s v = some u → ∀ c ∈ u, p c) {t o : Trm} {k : Nat} (f : Fl s t k o) : (∀ c ∈ t, p c) → ∀ c ∈ o, p c := by
  induction f with
  | nil => exact id
  | keep hc f ih =>
    intro ht c hc
    rcases List.mem_cons.1 hc with rfl | hc
    · exact ht _ List.mem_cons_self
    · exact ih (fun x hx => ht x (List.mem_cons_of_mem _ hx)) c hc
  | bound hk g f ih =>
    intro ht
    exact ih (fun x hx => by
      rcases List.mem_append.1 hx with hx | hx
      · exact h _ _ g x hx
      · exact ht x (List.mem_cons_of_mem _ hx))
open Classical in
noncomputable def flat (s : Binds) (t : Trm) : Trm := if h : ∃ k o, Fl s t k o then Classical.choose (Classical.choose_spec h) else []
theorem flat_eq {s : Binds} {t o : Trm} {k : Nat} (f : Fl s t k o) : flat s t = o := by
  have h : ∃ k o, Fl s t k o := ⟨k, o, f⟩
  unfold flat
  rw [dif_pos h]
  exact (Fl_fun (Classical.choose_spec (Classical.choose_spec h)) f).1
theorem flat_fl {s : Binds} (h : Bok s) (t : Trm) : ∃ k, Fl s t k (flat s t) := by
  obtain ⟨k, o, f⟩ := Fl_ex h t
  exact ⟨k, by rw [flat_eq f]; exact f⟩
theorem Binv.pos {V : List Int} {s : Binds} (h : Binv V s) : ∀ v u, getB s v = some u → 0 < u.length := fun v u hg => Ms_pos (m := 0) (trmOk_iff.1 (h.trm v u hg)).1
theorem flat_ok {V : List Int} {s : Binds} (h : Binv V s) {t : Trm} (ht : trmOk t = true) (hl : (flat s t).length ≤ 40) : trmOk (flat s t) = true := by
  obtain ⟨k, f⟩ := flat_fl h.bok t
  obtain ⟨h1, _, h3⟩ := trmOk_iff.1 ht
  refine trmOk_iff.2 ⟨Fl_ms (fun v u hg => (trmOk_iff.1 (h.trm v u hg)).1) f h1, hl, List.all_eq_true.2 ?_⟩
  exact Fl_cells (p := fun c => cellOk c = true) (fun v u hg => List.all_eq_true.1 (trmOk_iff.1 (h.trm v u hg)).2.2) f (List.all_eq_true.1 h3)
end Go.Proofs.YtjglbadkbhopoaaGreatDoor
namespace Go.Proofs.YtjglbadkbhopoaaGreatDoor
open Go.RowKit
set_option maxRecDepth 100000
set_option maxHeartbeats 2000000
set_option linter.unusedVariables false
def Far (w : World) (u v : Value) : Prop := ∀ k, v.ownBlock = some k → u.ownBlock ≠ some k ∧ k < w.heap.size
theorem sliced_in {A : Option Addr} {l k n c s : Nat} : ∀ j, (sliced A l k c s).ownBlock = some j → (Value.slice A n c).ownBlock = some j := by
  intro j h
  unfold sliced at h
  cases A with
  | none => split at h <;> simp [Value.ownBlock] at h
  | some ad =>
    split at h
    · simp [Value.ownBlock] at h ⊢; exact h
    · simp [Value.ownBlock] at h ⊢; rw [add_block] at h; exact h
theorem Far.ext {w w' : World} {u v : Value} (h : Far w u v) (hb : w.heap.size ≤ w'.heap.size) : Far w' u v := fun k hk => ⟨(h k hk).1, Nat.lt_of_lt_of_le (h k hk).2 hb⟩
theorem Far.grew {α : Type} {d : Kd α} {e base : Nat} {w w' : World} {u u' v : Value} {ys : List α} (h : Far w u v) (hg : Grew d e base u ys w u' w') : Far w' u' v := fun k hk => by
  have h1 := h k hk
  refine ⟨fun e => ?_, Nat.lt_of_lt_of_le h1.2 hg.grown.size⟩
  rcases hg.at' with ha | ha
  · rw [ha] at e; exact h1.1 e
  · rw [ha] at e; have := Option.some.inj e; omega
theorem S_far {α : Type} {d : Kd α} {e : Nat} {w w' : World} {u v : Value} {xs : List α} (hd : d.E = []) (h : d.S e w v xs) (hf : Far w u v) (hg : w.grownBy w' u.ownBlock) : d.S e w' v xs := by
  obtain ⟨A, c, rfl, h1, h2, hC⟩ := h
  refine ⟨A, c, rfl, h1, h2, fun i x hx => ?_⟩
  obtain ⟨ad, cs, cells, fz, rfl, hh, hK, hc⟩ := hC i x hx
  have hk := hf ad.block rfl
  have hb := hg.block ad.block hk.2 (fun e => hk.1 e.symm)
  exact ⟨ad, cs, cells, fz, rfl, hb.trans hh, d.mov (fun k c q f _ hq => by rw [hd] at hq; cases hq) hK, fun j u hu => (World.cell?_of_block (by rw [add_block]; exact hb)).trans (hc j u hu)⟩
theorem wp_sub_l' {α : Type} {P : Program} {w : World} {d : Kd α} {t e : TypeId} {ops : Array Oper} {rest : List Oper} {o : Oper} {a : Act} {Q : Exit → Act → World → Prop} (I : AppI P t e d) (hgd : o.guard = none) {x lo : Operand} (ho : o.op = .slice t x (some lo) none none)
    {A : Option Addr} {c : Nat} {xs : List α} (hy : d.S e w (.slice A xs.length c) xs) (hx : a.eval x = .slice A xs.length c) {l : Int} (hl : a.eval lo = .int .i64 l) (h0 : 0 ≤ l) (h2 : l ≤ xs.length)
    (h : ∀ v', d.S e w v' (xs.drop l.toNat) → (∀ j, v'.ownBlock = some j → (Value.slice A xs.length c).ownBlock = some j) → wpList P ops Q rest (a.put o.dst v') w) : wpList P ops Q (o :: rest) a w :=
  wpList_plain hgd fun K hK => by
    have hy' := hy
    obtain ⟨A', c', ev, hc, hm, hC⟩ := hy
    injection ev with e1 _ e3
    subst e1
    subst e3
    have ht : P.underlying t = some (.slice (P.elem t)) := by rw [I.elem]; exact I.und
    have hr := run_slice_l (w := w) t A xs.length c ht .i64 l h0 h2
    rw [I.size] at hr
    unfold Oper.wp execOp
    simp only [ho, Option.map_some, Option.map_none, hl, hx, Sem.run_bind, Sem.run_pure, run_sliceAt_slice (h := ht), hr, Result.andThen_ok]
    exact hK _ _ (h _ (by have := Kd.S_sliced hy' (show l.toNat ≤ xs.length by omega) (Nat.le_refl _); rwa [List.take_of_length_le (by rw [List.length_drop]; exact Nat.le_refl _)] at this) sliced_in)
theorem O_empty_at {α : Type} (d : Kd α) (e : Nat) (w : World) {base g : Nat} (hg : w.heap.size = g) (hb : base ≤ w.heap.size) : d.O e (w.alloc (.cells #[] e)) base (.slice (some ⟨g, 0, none⟩) 0 0) [] := by subst hg; exact Kd.O_empty d e w hb
theorem size_alloc1 (w : World) (o : Obj) : (w.alloc o).heap.size = w.heap.size + 1 := by show (w.heap.push o).size = _; exact Array.size_push _
def FullPost (w : World) (o : Trm) (e : Ending) (w' : World) : Prop := ∃ v, e = .returned (.tuple #[v, .bool (decide (o.length ≤ 40))]) ∧ Kd.cell.O 47 w' w.heap.size v (if o.length ≤ 40 then o else []) ∧ Below w.heap.size w w'
theorem FullPost.yes {w w' : World} {o : Trm} {v : Value} (h : o.length ≤ 40) (hO : Kd.cell.O 47 w' w.heap.size v o) (hb : Below w.heap.size w w') : FullPost w o (.returned (.tuple #[v, .bool true])) w' :=
  ⟨v, by rw [decide_eq_true h], by rw [if_pos h]; exact hO, hb⟩
theorem FullPost.no {w w' : World} {o : Trm} {v : Value} (h : ¬ o.length ≤ 40) (hO : Kd.cell.O 47 w' w.heap.size v []) (hb : Below w.heap.size w w') : FullPost w o (.returned (.tuple #[v, .bool false])) w' :=
  ⟨v, by rw [decide_eq_false h], by rw [if_neg h]; exact hO, hb⟩
theorem size_alloc2 (w : World) (o o' : Obj) : ((w.alloc o).alloc o').heap.size = w.heap.size + 1 + 1 := by rw [size_alloc1, size_alloc1]
theorem box3 {w w3 : World} {cs : Array Value} {T : Nat} {o' : Obj} (hb : Below ((w.alloc (.cells cs T)).alloc o').heap.size ((w.alloc (.cells cs T)).alloc o') w3) : w3.heap[w.heap.size]? = some (.cells cs T (0, 0)) := by
  have h := heap_alloc_new w (.cells cs T)
  have h2 : ((w.alloc (.cells cs T)).alloc o').heap[w.heap.size]? = some (.cells cs T (0, 0)) := by
    rw [← h]; exact Lib.alloc_old _ _ _ (by rw [size_alloc1]; omega)
  exact box_keep h2 hb
theorem fullS_c (s : Binds) (t o : Trm) (n : Nat) (sv tv : Value) (w : World) (f : Fl s t n o) (hs : Kd.bind.S 107 w sv s) (ht : Kd.cell.S 47 w tv t) (hl : s.length ≤ 1000000000) (h40 : t.length ≤ 40) (hu : ∀ v u, getB s v = some u → 0 < u.length ∧ u.length ≤ 40) :
    Calls Tryz.prog 124 #[sv, tv] w (FullPost w o) := by
  have HF := Lib.hid f
  have HU := Lib.hid hu
  have HT := Lib.hid ht
  have HS := Lib.hid hs
  obtain ⟨SB, cS, rfl, s1, s2, -⟩ := hs
  obtain ⟨TB, cT, rfl, t1, t2, -⟩ := ht
  have HG := Lib.hid (fun v W hb => get_c s SB cS v W (by obtain ⟨A, c, e, _, _, hC⟩ := Kd.S_ext (w' := W) hb HS.out; injection e with e1 _ _; subst e1; exact hC) hl)
  clear f hu
  go_enter Tryz.func124, Tryz.ntmps124
  go_wp2_with (at_builtin; refine wp_app AppI.cell rfl rfl (O_empty_at Kd.cell _ (w.alloc (.cells #[] 47)) (size_alloc1 _ _) (base := (w.alloc (.cells #[] 47)).heap.size) (Nat.le_refl _)) rfl (Kd.S_alloc _ (Kd.S_alloc _ HT.out)) rfl ?c1 ?c2 ?_; (case c1 => simp; omega); (case c2 => exact (bel_alloc (Below.refl _ (w.alloc (.cells #[] 47))) _).size); intro v7 w1 hg; have HGr := Lib.hid hg; clear hg)
  have HB1 := Lib.hid (HGr.out.below (bel_alloc (Below.refl _ (w.alloc (.cells #[] 47))) _) (O_empty_at Kd.cell _ (w.alloc (.cells #[] 47)) (size_alloc1 _ _) (base := (w.alloc (.cells #[] 47)).heap.size) (Nat.le_refl _)))
  have HO1 := Lib.hid (Kd.O_ext HB1.out (Kd.O_empty Kd.cell 47 w (Nat.le_refl _)))
  have HS1 := Lib.hid (show Kd.cell.S 47 w1 v7 t from Kd.O_read HGr.out.own)
  have HFa := Lib.hid (show Far w1 (.slice (some ⟨w.heap.size, 0, none⟩) 0 0) v7 from fun k hk => by
    have := Kd.O_lt HGr.out.own k hk
    rw [size_alloc1] at this
    refine ⟨fun e => ?_, this.2⟩
    have := Option.some.inj e
    dsimp only at this
    omega)
  have HBw := Lib.hid (bel_trans (bel_alloc (Below.refl w.heap.size w) _) HB1.out)
  clear HGr HB1
  go_loopg [6, 7] n (fun k v6 v7 wr => ∃ (out todo o' : Trm), Hid (Fl s todo k o') ∧ Hid (out ++ o' = o) ∧ Hid (Kd.cell.O 47 wr w.heap.size v6 out) ∧ Hid (Kd.cell.S 47 wr v7 todo) ∧ Hid (Far wr v6 v7) ∧ Hid (Below w.heap.size w wr) ∧ out.length + todo.length ≤ 40)
  case atStart => exact ⟨[], t, o, HF, Lib.hid rfl, HO1, HS1, HFa, HBw, by simpa using h40⟩
  case round =>
    clear HF HT HO1 HS1 HFa HBw t1 t2 h40
    obtain ⟨out, todo, o', HFl, HOo, HOr, HSr, HFr, HBr, hlen⟩ := hrel
    match todo, HFl, HSr, hlen with
    | [], HFl, HSr, hlen =>
      obtain ⟨OB, oc, rfl, o1, o2, -⟩ := Kd.O_read HOr.out
      obtain ⟨TB2, tc, rfl, q1, q2, -⟩ := HSr.out
      have HV := Lib.hid (show out = o by have h := HFl.out; cases h; have := HOo.out; rwa [List.append_nil] at this)
      have hol := Lib.hid (show o.length ≤ 40 by rw [← HV.out]; simpa using hlen)
      go_wp2
      go_ret2
      exact .yes hol.out (HV.out ▸ HOr.out) HBr.out
    | cc :: r, HFl, HSr, hlen =>
      obtain ⟨OB, oc, rfl, o1, o2, -⟩ := Kd.O_read HOr.out
      obtain ⟨TB2, tc, rfl, q1, q2, hC⟩ := HSr.out
      obtain ⟨ad, rfl, x1, x2, x3⟩ := cell_hd hC
      have hrl : (cc :: r).length = r.length + 1 := rfl
      obtain ⟨N1, hN1⟩ : ∃ N1, (cc :: r).length = N1 := ⟨_, rfl⟩
      have HN1 := Lib.hid hN1
      rw [hN1] at q1 hrl hlen ⊢
      have HSr := Lib.hid (show Kd.cell.S 47 wr (.slice (some ad) (cc :: r).length tc) (cc :: r) from HSr.out)
      have hFr := HFr.out
      rw [hN1] at hFr
      have HFr := Lib.hid hFr
      clear hC hN1 hFr
      have hcases : (cc.k == 1) = false ∨ ((cc.k == 1) = true ∧ getB s cc.n = none) ∨ ((cc.k == 1) = true ∧ ∃ u, getB s cc.n = some u) := by
        by_cases h : cc.k = 1
        · cases hg : getB s cc.n with
          | none => exact .inr (.inl ⟨beq_iff_eq.2 h, rfl⟩)
          | some u => exact .inr (.inr ⟨beq_iff_eq.2 h, u, rfl⟩)
        · exact .inl (beq_eq_false_iff_ne.2 h)
      rcases hcases with e1 | ⟨e1, hg⟩ | ⟨e1, u, hg⟩
      · obtain ⟨g2, oo, hgk, ho2, f2⟩ : ∃ g2 oo, gk = g2 + 1 ∧ o' = cc :: oo ∧ Fl s r g2 oo := by
          have h := HFl.out
          cases h with
          | keep hc f => exact ⟨_, _, rfl, rfl, f⟩
          | bound hk g f => exact absurd (beq_iff_eq.2 hk) (by rw [e1]; simp)
        have Hgk := Lib.hid hgk
        have HFl2 := Lib.hid f2
        have HOo2 := Lib.hid (show (out ++ [cc]) ++ oo = o by rw [List.append_assoc]; show out ++ cc :: oo = o; rw [← ho2]; exact HOo.out)
        clear hgk ho2 f2
        have e9 : decide ((40 : Int) < (out.length : Int) + 1 + (r.length : Int)) = false := decide_eq_false (by omega)
        go_wp2_with (first | (refine wp_sub_l' AppI.cell rfl rfl (Kd.S_alloc _ HSr.out) ?hx rfl (by omega) (by rw [List.length_cons]; omega) ?_; (case hx => rw [HN1.out]; rfl); intro v7b hv7 hin; have HIn := Lib.hid (show Far wr (.slice OB out.length oc) v7b from fun k hk => HFr.out k (hin k hk)); have HV7 := Lib.hid (show Kd.cell.S 47 _ v7b r from hv7); obtain ⟨TB3, tc3, rfl, z1, z2, -⟩ := HV7.out; clear hv7 hin)
                           | (at_builtin; refine wp_app AppI.cell rfl rfl (Kd.O_alloc _ (Kd.O_alloc _ (Kd.O_alloc _ HOr.out))) rfl (Kd.S_lit Kd.cell _ (x := cc) (cs := [.int .i64 cc.k, .int .i64 cc.n, .string cc.s]) rfl (size_alloc2 _ _ _).symm) rfl ?c1 ?c2 ?_; (case c1 => simp; omega); (case c2 => exact Nat.le_trans HBr.out.size (bel_alloc (bel_alloc (bel_alloc (Below.refl _ wr) _) _) _).size); intro v6b w4 hg; have HGr := Lib.hid hg; obtain ⟨OB2, oc2, rfl, z3, z4, -⟩ := Kd.O_read hg.own; clear hg))
        have hl2 : (out ++ [cc]).length = out.length + 1 := by simp
        have HG2 := HGr.out
        rw [hl2] at HG2
        have HG3 := Lib.hid HG2
        clear HG2 HGr
        go_roundg g2
        case measure => rw [Hgk.out]; omega
        case rel => exact ⟨out ++ [cc], r, oo, HFl2, HOo2, Lib.hid HG3.out.own, Lib.hid (S_far rfl (Kd.S_alloc _ (Kd.S_alloc _ HV7.out)) (HIn.out.ext (bel_alloc (bel_alloc (bel_alloc (Below.refl _ wr) _) _) _).size) HG3.out.grown), Lib.hid (Far.grew (HIn.out.ext (bel_alloc (bel_alloc (bel_alloc (Below.refl _ wr) _) _) _).size) HG3.out), Lib.hid (HG3.out.below (bel_alloc (bel_alloc (bel_alloc HBr.out _) _) _) (Kd.O_alloc _ (Kd.O_alloc _ (Kd.O_alloc _ HOr.out)))), by rw [hl2]; omega⟩
      · obtain ⟨g2, oo, hgk, ho2, f2⟩ : ∃ g2 oo, gk = g2 + 1 ∧ o' = cc :: oo ∧ Fl s r g2 oo := by
          have h := HFl.out
          cases h with
          | keep hc f => exact ⟨_, _, rfl, rfl, f⟩
          | bound hk g f => rw [hg] at g; cases g
        have Hgk := Lib.hid hgk
        have HFl2 := Lib.hid f2
        have HOo2 := Lib.hid (show (out ++ [cc]) ++ oo = o by rw [List.append_assoc]; show out ++ cc :: oo = o; rw [← ho2]; exact HOo.out)
        have HGt := Lib.hid (HG.out cc.n)
        rw [hg] at HGt
        clear hgk ho2 f2 hg
        have e9 : decide ((40 : Int) < (out.length : Int) + 1 + (r.length : Int)) = false := decide_eq_false (by omega)
        go_wp2_with (first | (refine wp_sub_l' AppI.cell rfl rfl (Kd.S_alloc _ HSr.out) ?hx rfl (by omega) (by rw [List.length_cons]; omega) ?_; (case hx => rw [HN1.out]; rfl); intro v7b hv7 hin; have HIn := Lib.hid (show Far wr (.slice OB out.length oc) v7b from fun k hk => HFr.out k (hin k hk)); have HV7 := Lib.hid (show Kd.cell.S 47 _ v7b r from hv7); obtain ⟨TB3, tc3, rfl, z1, z2, -⟩ := HV7.out; clear hv7 hin)
                           | (go_at_call 86; (with_reducible refine (HGt.out _ (bel_alloc (bel_alloc HBr.out _) _)).mono ?_); rintro e w3 ⟨rv, rfl, hr, hb3⟩; have HB3 := Lib.hid hb3; have HRv := Lib.hid hr; obtain ⟨RA, rc, rfl, y1, y2, -⟩ := hr; have hbx := box3 hb3; have c0 := Lib.cell_of_heap hbx 0; have c1 := Lib.cell_of_heap hbx 1; have c2 := Lib.cell_of_heap hbx 2; clear hb3 hbx)
                           | (at_builtin; refine wp_app AppI.cell rfl rfl (Kd.O_alloc _ (Kd.O_ext HB3.out (Kd.O_alloc _ (Kd.O_alloc _ HOr.out)))) rfl (Kd.S_lit Kd.cell _ (x := cc) (cs := [.int .i64 cc.k, .int .i64 cc.n, .string cc.s]) rfl rfl) rfl ?c1 ?c2 ?_; (case c1 => simp; omega); (case c2 => exact Nat.le_trans HBr.out.size (bel_alloc (bel_trans (bel_alloc (bel_alloc (Below.refl _ wr) _) _) HB3.out) _).size); intro v6b w4 hg; have HGr := Lib.hid hg; obtain ⟨OB2, oc2, rfl, z3, z4, -⟩ := Kd.O_read hg.own; clear hg))
        have hl2 : (out ++ [cc]).length = out.length + 1 := by simp
        have HG2 := HGr.out
        rw [hl2] at HG2
        have HG3 := Lib.hid HG2
        clear HG2 HGr
        go_roundg g2
        case measure => rw [Hgk.out]; omega
        case rel => exact ⟨out ++ [cc], r, oo, HFl2, HOo2, Lib.hid HG3.out.own, Lib.hid (S_far rfl (Kd.S_alloc _ (Kd.S_ext HB3.out (Kd.S_alloc _ HV7.out))) (HIn.out.ext (bel_alloc (bel_trans (bel_alloc (bel_alloc (Below.refl _ wr) _) _) HB3.out) _).size) HG3.out.grown), Lib.hid (Far.grew (HIn.out.ext (bel_alloc (bel_trans (bel_alloc (bel_alloc (Below.refl _ wr) _) _) HB3.out) _).size) HG3.out), Lib.hid (HG3.out.below (bel_alloc (bel_trans HBr.out (bel_trans (bel_alloc (bel_alloc (Below.refl _ wr) _) _) HB3.out)) _) (Kd.O_alloc _ (Kd.O_ext HB3.out (Kd.O_alloc _ (Kd.O_alloc _ HOr.out))))), by rw [hl2]; omega⟩
      · obtain ⟨g2, hgk, f2⟩ : ∃ g2, gk = g2 + 1 ∧ Fl s (u ++ r) g2 o' := by
          have h := HFl.out
          cases h with
          | keep hc f => rw [hc (beq_iff_eq.1 e1)] at hg; cases hg
          | bound hk g f => rw [g] at hg; obtain rfl := Option.some.inj hg; exact ⟨_, rfl, f⟩
        have Hgk := Lib.hid hgk
        have HFl2 := Lib.hid f2
        have hup := HU.out _ _ hg
        have hu0 : 0 < u.length := hup.1
        have hu4 : u.length ≤ 40 := hup.2
        have hge := Lib.hid (Fl_len (fun v u h => (HU.out v u h).1) f2)
        have HGt := Lib.hid (HG.out cc.n)
        rw [hg] at HGt
        have HGt := Lib.hid (show ∀ W, Below w.heap.size w W → Calls Tryz.prog 86 #[.slice SB s.length cS, .int .i64 cc.n] W fun e w' => ∃ r, e = .returned r ∧ Kd.cell.S 47 w' r u ∧ Below W.heap.size W w' from HGt.out)
        clear hgk f2 hg hup
        have hcut : decide ((40 : Int) < (out.length : Int) + ((u.length : Int) + (r.length : Int))) = true ∨ decide ((40 : Int) < (out.length : Int) + ((u.length : Int) + (r.length : Int))) = false := by
          cases decide ((40 : Int) < (out.length : Int) + ((u.length : Int) + (r.length : Int))) <;> simp
        rcases hcut with e9 | e9
        all_goals
          have hq9 := Lib.hid e9
          go_wp2_with (first | (refine wp_sub_l' AppI.cell rfl rfl (Kd.S_alloc _ HSr.out) ?hx rfl (by omega) (by rw [List.length_cons]; omega) ?_; (case hx => rw [HN1.out]; rfl); intro v7b hv7 hin; have HIn := Lib.hid (show Far wr (.slice OB out.length oc) v7b from fun k hk => HFr.out k (hin k hk)); have HV7 := Lib.hid (show Kd.cell.S 47 _ v7b r from hv7); obtain ⟨TB3, tc3, rfl, z1, z2, -⟩ := HV7.out; clear hv7 hin)
                             | (go_at_call 86; (with_reducible refine (HGt.out _ (bel_alloc (bel_alloc HBr.out _) _)).mono ?_); rintro e w3 ⟨rv, rfl, hr, hb3⟩; have HB3 := Lib.hid (bel_trans (bel_alloc (bel_alloc (Below.refl _ wr) _) _) hb3); have HV3 := Lib.hid (Kd.S_ext hb3 (Kd.S_alloc _ HV7.out)); have HRv := Lib.hid hr; obtain ⟨RA, rc, rfl, y1, y2, -⟩ := hr; clear hb3)
                             | (at_builtin; refine wp_app AppI.cell rfl rfl (Kd.O_empty Kd.cell _ w3 (Nat.le_refl _)) rfl (Kd.S_alloc _ HRv.out) rfl ?c1 ?c2 ?_; (case c1 => simp; omega); (case c2 => exact (bel_alloc (Below.refl _ w3) _).size); intro v8 w5 hg5; have HG5 := Lib.hid hg5; have HB5 := Lib.hid (hg5.below (bel_alloc (Below.refl _ w3) _) (Kd.O_empty Kd.cell _ w3 (Nat.le_refl _))); clear hg5)
                             | (at_builtin; refine wp_app AppI.cell rfl rfl HG5.out.own rfl (Kd.S_ext HB5.out HV3.out) rfl ?c1 ?c2 ?_; (case c1 => simp; omega); (case c2 => exact HB5.out.size); intro v9 w6 hg6; have HB6 := Lib.hid (hg6.below HB5.out HG5.out.own); have HO6 := Lib.hid (show Kd.cell.O 47 w6 w3.heap.size v9 (u ++ r) from hg6.own); obtain ⟨NB, nc, rfl, n1, n2, -⟩ := Kd.O_read HO6.out; clear hg6))
        · go_ret2
          exact .no (by
              have h1 := of_decide_eq_true hq9.out
              have h2 := hge.out
              rw [← HOo.out, List.length_append]
              rw [List.length_append] at h2
              omega) (Kd.O_empty Kd.cell _ w6 (Nat.le_trans HBr.out.size (Nat.le_trans HB3.out.size HB6.out.size))) (bel_alloc (bel_trans HBr.out (bel_trans HB3.out HB6.out)) _)
        · have hl2 : (u ++ r).length = u.length + r.length := List.length_append
          have h6 := HO6.out
          rw [hl2] at h6
          have H6 := Lib.hid h6
          clear h6
          go_roundg g2
          case measure => rw [Hgk.out]; omega
          case rel => exact ⟨out, u ++ r, o', HFl2, HOo, Lib.hid (Kd.O_ext (bel_trans HB3.out HB6.out) HOr.out), Lib.hid (by have := Kd.O_read H6.out; exact this), Lib.hid (fun k hk => by
              have h1 := Kd.O_lt H6.out k hk
              refine ⟨fun e => ?_, h1.2⟩
              have h2 := (Kd.O_lt HOr.out k e).2
              have h3 := HB3.out.size
              omega), Lib.hid (bel_trans HBr.out (bel_trans HB3.out HB6.out)), by have := of_decide_eq_false hq9.out; rw [hl2]; omega⟩
end Go.Proofs.YtjglbadkbhopoaaGreatDoor
namespace Go.Proofs.YtjglbadkbhopoaaGreatDoor
open Go.RowKit
set_option maxRecDepth 100000
set_option maxHeartbeats 2000000
set_option linter.unusedVariables false
theorem getI_old0 {w0 w : World} (s : Binds) (A : Option Addr) (c : Nat) (v : Int) (h : Kd.bind.C 107 w0 A s) (hb : Below w0.heap.size w0 w) (hl : s.length ≤ 1000000000) (hnd : (s.map (·.1)).Nodup) (hg : getB s v = none) :
    Calls Tryz.prog 104 #[.slice A s.length c, .int .i64 v] w fun e w' => e = .returned (.slice none 0 0) ∧ Below w.heap.size w w' := by
  refine (getI_c2 s A c v w (Kd.C_ext hb h) hl hnd).mono ?_
  rintro e w' ⟨r, rfl, h2, h3⟩
  rw [hg] at h3
  exact ⟨by rw [show r = .slice none 0 0 from h3], h2⟩
theorem getI_old1 {w0 w : World} (s : Binds) (A : Option Addr) (c : Nat) (v : Int) (t : Trm) (h : Kd.bind.C 107 w0 A s) (hb : Below w0.heap.size w0 w) (hl : s.length ≤ 1000000000) (hnd : (s.map (·.1)).Nodup) (hg : getB s v = some t) :
    Calls Tryz.prog 104 #[.slice A s.length c, .int .i64 v] w fun e w' => ∃ r, e = .returned r ∧ Kd.cell.S 47 w0 r t ∧ Below w.heap.size w w' := by
  refine (getI_c2 s A c v w (Kd.C_ext hb h) hl hnd).mono ?_
  rintro e w' ⟨r, rfl, h2, h3⟩
  rw [hg] at h3
  obtain ⟨-, ad, j, hA, hc, b, hj, hbt⟩ := h3
  obtain ⟨ad', B', c', hA', -, hc', q1, q2, hC⟩ := bind_at h hj
  rw [hA] at hA'
  injection hA' with hA'
  subst hA'
  have hk := cell_keep hb hc'
  rw [hc] at hk
  have hr := Option.some.inj hk
  subst hbt
  exact ⟨r, rfl, ⟨B', c', hr, q1, q2, hC⟩, h2⟩
def FillPost (w0 : World) (D o : Trm) (e : Ending) (w' : World) : Prop := ∃ v D', e = .returned v ∧ Kd.cell.O 47 w' w0.heap.size v D' ∧ Below w0.heap.size w0 w' ∧ D'.length ≤ 41 ∧ (D' = D ++ o ∨ (40 < D'.length ∧ 40 < (D ++ o).length))
theorem FillPost.mk' {w0 w' : World} {D o D' : Trm} {v : Value} (hO : Kd.cell.O 47 w' w0.heap.size v D') (hb : Below w0.heap.size w0 w') (hl : D'.length ≤ 41) (h : D' = D ++ o ∨ (40 < D'.length ∧ 40 < (D ++ o).length)) : FillPost w0 D o (.returned v) w' := ⟨v, D', rfl, hO, hb, hl, h⟩
theorem fillI_c (w0 : World) (s : Binds) (A : Option Addr) (c : Nat) (h : Kd.bind.C 107 w0 A s) (hl : s.length ≤ 1000000000) (hnd : (s.map (·.1)).Nodup) (hu : ∀ v u, getB s v = some u → 0 < u.length ∧ u.length ≤ 40) :
    ∀ (N k : Nat) (t o D : Trm) (tv dv : Value) (w : World), k < N → Fl s t k o → Kd.cell.S 47 w0 tv t → t.length ≤ 40 → Kd.cell.O 47 w w0.heap.size dv D → Below w0.heap.size w0 w → D.length ≤ 41 →
    Calls Tryz.prog 107 #[.slice A s.length c, dv, tv] w (FillPost w0 D o) := by
  intro N
  induction N with
  | zero => intro k _ _ _ _ _ _ hk; omega
  | succ N ih =>
    intro k t o D tv dv w hk hF hS ht40 hO hb hD
    have IH := Lib.hid ih
    have HF := Lib.hid hF
    have HS := Lib.hid hS
    have HO := Lib.hid hO
    have HB := Lib.hid hb
    have Hk := Lib.hid hk
    have HU := Lib.hid hu
    have HDl := Lib.hid hD
    have HG0 := Lib.hid (fun v w hb hg => getI_old0 (w := w) s A c v h hb hl hnd hg)
    have HG1 := Lib.hid (fun v u w hb hg => getI_old1 (w := w) s A c v u h hb hl hnd hg)
    obtain ⟨TB, tc, rfl, t1, t2, -⟩ := hS
    obtain ⟨DB, dc, rfl, d1, d2, -⟩ := Kd.O_read hO
    clear ih hF hO hb hk hu hD hnd
    go_enter Tryz.func107, Tryz.ntmps107
    go_wp2
    go_loopw [1, 12] (fun v1 v12 wr => ∃ (i k' : Nat) (o' D' : Trm), v12 = .int .i64 i ∧ i ≤ t.length ∧ Hid (k' < N + 1) ∧ Hid (Fl s (t.drop i) k' o') ∧ Hid (D' ++ o' = D ++ o ∨ (40 < D'.length ∧ 40 < (D ++ o).length)) ∧ D'.length ≤ 41 ∧ Hid (Kd.cell.O 47 wr w0.heap.size v1 D') ∧ Hid (Below w0.heap.size w0 wr)) (fun _ v12 _ => t.length - (intOf v12).toNat)
    case atStart => exact ⟨0, k, o, D, rfl, Nat.zero_le _, Hk, HF, Lib.hid (.inl rfl), HDl.out, HO, HB⟩
    case round =>
      clear HF HO HB Hk d1 d2
      obtain ⟨i, k', o', D', rfl, hi, Hk, HFi, HDo, hD', HOr, HBr⟩ := hrel
      obtain ⟨OB, oc, rfl, p1, p2, -⟩ := Kd.O_read HOr.out
      by_cases hlt : i < t.length
      · obtain ⟨cc, hc⟩ : ∃ cc, t[i]? = some cc := ⟨_, List.getElem?_eq_getElem hlt⟩
        obtain ⟨A', c', ev, _, _, hC⟩ := Kd.S_ext HBr.out HS.out
        injection ev with u1 u2 u3
        obtain ⟨ad, had, x1, x2, x3⟩ := cell_at hC hc
        have had2 := u1.trans had
        have hdr : t.drop i = cc :: t.drop (i + 1) := by rw [List.drop_eq_getElem_cons hlt, (List.getElem?_eq_some_iff.1 hc).2]
        rw [hdr] at HFi
        clear u1 u2 u3 had hC hc hdr
        subst had2
        by_cases hov : 40 < D'.length
        · have e0 : decide ((40 : Int) < (D'.length : Int)) = true := decide_eq_true (by omega)
          go_wp2
          go_ret
          refine .mk' (Kd.O_alloc _ HOr.out) (bel_alloc HBr.out _) hD' (.inr ⟨hov, ?_⟩)
          rcases HDo.out with h | h
          · rw [← h, List.length_append]; omega
          · exact h.2
        · have e0 : decide ((40 : Int) < (D'.length : Int)) = false := decide_eq_false (by omega)
          have HEx := Lib.hid (show D' ++ o' = D ++ o from HDo.out.resolve_right (fun h => hov h.1))
          have hD40 : D'.length ≤ 40 := by omega
          clear hov HDo
          have hcases : (cc.k == 1) = false ∨ ((cc.k == 1) = true ∧ getB s cc.n = none) ∨ ((cc.k == 1) = true ∧ ∃ u, getB s cc.n = some u) := by
            by_cases h : cc.k = 1
            · cases hg : getB s cc.n with
              | none => exact .inr (.inl ⟨beq_iff_eq.2 h, rfl⟩)
              | some u => exact .inr (.inr ⟨beq_iff_eq.2 h, u, rfl⟩)
            · exact .inl (beq_eq_false_iff_ne.2 h)
          have hkeep : ((cc.k == 1) = false ∨ getB s cc.n = none) → ∃ k2 o2, k' = k2 + 1 ∧ o' = cc :: o2 ∧ Fl s (t.drop (i + 1)) k2 o2 := fun hh => by
            have hf := HFi.out
            cases hf with
            | keep hc f => exact ⟨_, _, rfl, rfl, f⟩
            | bound hk g f =>
              rcases hh with hh | hh
              · rw [beq_iff_eq.2 hk] at hh; cases hh
              · rw [hh] at g; cases g
          rcases hcases with e1 | ⟨e1, hg⟩ | ⟨e1, u, hg⟩
          · obtain ⟨k2, o2', hk2, ho2, f2⟩ := hkeep (.inl e1)
            have HF2 := Lib.hid f2
            have HE2 := Lib.hid (show (D' ++ [cc]) ++ o2' = D ++ o by rw [List.append_assoc, ← HEx.out, ho2]; rfl)
            have Hk2 := Lib.hid (show k2 < N + 1 by have := Hk.out; omega)
            clear hkeep hk2 ho2 f2
            go_wp2_with (at_builtin; refine wp_app AppI.cell rfl rfl (Kd.O_alloc _ (Kd.O_alloc _ HOr.out)) rfl (Kd.S_lit Kd.cell _ (x := cc) (cs := [.int .i64 cc.k, .int .i64 cc.n, .string cc.s]) rfl (size_alloc1 _ _).symm) rfl ?c1 ?c2 ?_; (case c1 => simp; omega); (case c2 => exact (bel_alloc (bel_alloc HBr.out _) _).size |> fun h => Nat.le_trans (by omega) h); intro v1b w4 hg; have HG := Lib.hid hg; clear hg)
            exact ⟨⟨i + 1, k2, o2', D' ++ [cc], by go_num, hlt, Hk2, HF2, Lib.hid (.inl HE2.out), by simp; omega, Lib.hid HG.out.own, Lib.hid (HG.out.below (bel_alloc (bel_alloc HBr.out _) _) (Kd.O_alloc _ (Kd.O_alloc _ HOr.out)))⟩, by simp [intOf]; omega⟩
          · obtain ⟨k2, o2', hk2, ho2, f2⟩ := hkeep (.inr hg)
            have HF2 := Lib.hid f2
            have HE2 := Lib.hid (show (D' ++ [cc]) ++ o2' = D ++ o by rw [List.append_assoc, ← HEx.out, ho2]; rfl)
            have Hk2 := Lib.hid (show k2 < N + 1 by have := Hk.out; omega)
            have HGt := Lib.hid (fun w hb => HG0.out cc.n w hb hg)
            clear hkeep hk2 ho2 f2 hg
            go_wp2_with (first | (go_at_call 104; (with_reducible refine (HGt.out _ (bel_alloc HBr.out _)).mono ?_); rintro e w2 ⟨rfl, hb2⟩; have hbx := box_keep (heap_alloc_new wr (.cells #[.int .i64 cc.k, .int .i64 cc.n, .string cc.s] 47)) hb2; have c0 := Lib.cell_of_heap hbx 0; have c1 := Lib.cell_of_heap hbx 1; have c2 := Lib.cell_of_heap hbx 2; have HB2 := Lib.hid hb2; clear hb2 hbx)
                               | (at_builtin; refine wp_app AppI.cell rfl rfl (Kd.O_alloc _ (Kd.O_ext HB2.out (Kd.O_alloc _ HOr.out))) rfl (Kd.S_lit Kd.cell _ (x := cc) (cs := [.int .i64 cc.k, .int .i64 cc.n, .string cc.s]) rfl rfl) rfl ?c1 ?c2 ?_; (case c1 => simp; omega); (case c2 => exact (bel_alloc (bel_trans (bel_alloc HBr.out _) HB2.out) _).size); intro v1b w4 hg; have HG := Lib.hid hg; clear hg))
            exact ⟨⟨i + 1, k2, o2', D' ++ [cc], by go_num, hlt, Hk2, HF2, Lib.hid (.inl HE2.out), by simp; omega, Lib.hid HG.out.own, Lib.hid (HG.out.below (bel_alloc (bel_trans (bel_alloc HBr.out _) HB2.out) _) (Kd.O_alloc _ (Kd.O_ext HB2.out (Kd.O_alloc _ HOr.out))))⟩, by simp [intOf]; omega⟩
          · obtain ⟨k1, o1, k2, o2', f1, f2, hk12, ho12⟩ : ∃ k1 o1 k2 o2, Fl s u k1 o1 ∧ Fl s (t.drop (i + 1)) k2 o2 ∧ k' = k1 + k2 + 1 ∧ o' = o1 ++ o2 := by
              have hf := HFi.out
              cases hf with
              | keep hc f => rw [hc (beq_iff_eq.1 e1)] at hg; cases hg
              | bound hk g f =>
                rw [g] at hg
                obtain rfl := Option.some.inj hg
                obtain ⟨k1, o1, k2, o2, f1, f2, rfl, rfl⟩ := Fl_split f
                exact ⟨k1, o1, k2, o2, f1, f2, rfl, rfl⟩
            have hup := HU.out _ _ hg
            have hul : u.length ≤ 40 := hup.2
            have HGt := Lib.hid (fun w hb => HG1.out cc.n u w hb hg)
            have HIH := Lib.hid (fun rv w2 dv hs ho hb => IH.out k1 u o1 D' rv dv w2 (by have := Hk.out; omega) f1 hs hul ho hb hD')
            have HF2 := Lib.hid f2
            have HE2 := Lib.hid (show (D' ++ o1) ++ o2' = D ++ o by rw [List.append_assoc, ← HEx.out, ho12])
            have Hk2 := Lib.hid (show k2 < N + 1 by have := Hk.out; omega)
            have hu0 : 0 < u.length := hup.1
            clear hkeep hk12 ho12 f1 f2 hg hup
            go_wp2_with (first | (go_at_call 104; (with_reducible refine (HGt.out _ (bel_alloc HBr.out _)).mono ?_); rintro e w2 ⟨rv, rfl, hr, hb2⟩; have HR := Lib.hid hr; have HB2 := Lib.hid hb2; obtain ⟨RA, rc, rfl, y1, y2, hRC⟩ := hr; obtain ⟨ra, rfl⟩ : ∃ ra, RA = some ra := (match u, hu0, hRC with | c0 :: r0, _, hRC => (cell_hd hRC).elim fun ra h => ⟨ra, h.1⟩); clear hb2 hRC)
                               | (go_at_call 107; (with_reducible refine (HIH.out _ _ _ HR.out (Kd.O_ext HB2.out (Kd.O_alloc _ HOr.out)) (bel_trans (bel_alloc HBr.out _) HB2.out)).mono ?_); rintro e w5 ⟨v5, D5, rfl, hO5, hB5, hl5, hd5⟩; have HO5 := Lib.hid hO5; have HB5 := Lib.hid hB5; have Hd5 := Lib.hid hd5; have Hl5 := Lib.hid hl5; clear hO5 hB5 hl5 hd5))
            refine ⟨⟨i + 1, k2, o2', D5, by go_num, hlt, Hk2, HF2, Lib.hid ?_, Hl5.out, HO5, HB5⟩, by simp [intOf]; omega⟩
            rcases Hd5.out with hd | ⟨hd, hd2⟩
            · exact .inl (by rw [hd]; exact HE2.out)
            · refine .inr ⟨hd, ?_⟩
              rw [← HE2.out, List.length_append]
              omega
      · have hx := HFi.out
        rw [List.drop_of_length_le (by omega)] at hx
        have HV := Lib.hid (show D' = D ++ o ∨ (40 < D'.length ∧ 40 < (D ++ o).length) by
          cases hx
          have := HDo.out
          rwa [List.append_nil] at this)
        clear hx
        go_wp2
        go_ret
        exact .mk' HOr.out HBr.out hD' HV.out
theorem fullI_c (s : Binds) (t o : Trm) (n : Nat) (sv tv : Value) (w : World) (f : Fl s t n o) (hs : Kd.bind.S 107 w sv s) (ht : Kd.cell.S 47 w tv t) (hl : s.length ≤ 1000000000) (hnd : (s.map (·.1)).Nodup) (h40 : t.length ≤ 40) (hu : ∀ v u, getB s v = some u → 0 < u.length ∧ u.length ≤ 40) :
    Calls Tryz.prog 80 #[sv, tv] w (FullPost w o) := by
  obtain ⟨A, c, rfl, _, _, hC⟩ := hs
  have HX := Lib.hid (fillI_c w s A c hC hl hnd hu (n + 1) n t o [] tv (.slice none 0 0) w (by omega) f ht h40 (Kd.O_nil _ _ _ _) (Below.refl _ _) (by simp))
  obtain ⟨TB, tc, rfl, _, _, -⟩ := ht
  clear f hC hnd hu
  by_cases ho : o.length ≤ 40
  · have HX := Lib.hid (HX.out.mono fun e w' (hp : FillPost w [] o e w') => show ∃ v, e = .returned v ∧ Kd.cell.O 47 w' w.heap.size v o ∧ Below w.heap.size w w' by
      obtain ⟨v, D', rfl, h1, h2, h3, h4⟩ := hp
      rw [List.nil_append] at h4
      obtain rfl := h4.resolve_right (fun h => absurd h.2 (by omega))
      exact ⟨v, rfl, h1, h2⟩)
    have e0 : decide ((40 : Int) < (o.length : Int)) = false := decide_eq_false (by omega)
    have Ho := Lib.hid ho
    clear ho
    go_enter Tryz.func80, Tryz.ntmps80
    go_wp2_with (go_at_call 107; (with_reducible refine HX.out.mono ?_); rintro e w1 ⟨v, rfl, hO, hb⟩; have HO := Lib.hid hO; have HB := Lib.hid hb; obtain ⟨RA, rc, rfl, r1, r2, -⟩ := Kd.O_read hO; clear hO hb)
    go_ret2
    exact .yes Ho.out HO.out HB.out
  · have HX := Lib.hid (HX.out.mono fun e w' (hp : FillPost w [] o e w') => show ∃ v D', e = .returned v ∧ Kd.cell.S 47 w' v D' ∧ 40 < D'.length ∧ Below w.heap.size w w' by
      obtain ⟨v, D', rfl, h1, h2, h3, h4⟩ := hp
      rw [List.nil_append] at h4
      refine ⟨v, D', rfl, Kd.O_read h1, ?_, h2⟩
      rcases h4 with rfl | h4
      · omega
      · exact h4.1)
    have Ho := Lib.hid ho
    clear ho
    go_enter Tryz.func80, Tryz.ntmps80
    go_wp2_with (go_at_call 107; (with_reducible refine HX.out.mono ?_); rintro e w1 ⟨v, D', rfl, hS, hlt, hb⟩; have HB := Lib.hid hb; obtain ⟨RA, rc, rfl, r1, r2, -⟩ := hS; have e0 : decide ((40 : Int) < (D'.length : Int)) = true := decide_eq_true (by omega); clear hb)
    go_ret2
    exact .no Ho.out (Kd.O_nil _ _ _ _) HB.out
end Go.Proofs.YtjglbadkbhopoaaGreatDoor
namespace Go.Proofs.YtjglbadkbhopoaaGreatDoor
open Go.RowKit
set_option linter.unusedVariables false
set_option maxRecDepth 100000
theorem kInt : Go.Maps.Keyed Tryz.prog 3 := Go.Maps.int_keyed Tryz.underlying3
def Seen (w : World) (b : Nat) (S : List Int) : Prop :=
  ∃ D : DataW Unit, w.ownsMap Tryz.prog 3 (plainElem Tryz.prog 4) b S.length D ∧ Go.Maps.IsMap D ∧ ∀ x : Int, D.atKey (.int .i64 x) (.lit (.bool false)) = .lit (.bool (decide (x ∈ S)))
theorem Seen.made (w : World) : Seen (w.alloc (.map #[] 0)) w.heap.size [] :=
  ⟨.map [], World.ownsMap_made w _ _ _, Go.Maps.isMap_empty, fun x => by simp [DataW.atKey]⟩
theorem Seen.kept {w w' : World} {b : Nat} {S : List Int} {row : Option Nat} (h : Seen w b S) (hg : w.grownBy w' row) (hne : some b ≠ row) : Seen w' b S := by
  obtain ⟨D, h1, h2, h3⟩ := h
  exact ⟨D, h1.kept hg hne, h2, h3⟩
theorem Seen.ext {w w' : World} {b : Nat} {S : List Int} (h : Seen w b S) (hb : Below w.heap.size w w') : Seen w' b S :=
  h.kept (row := none) ⟨hb.os, hb.tape, hb.output, hb.size, fun i hi _ => hb.block i hi⟩ (by simp)
theorem Seen.map {w : World} {b : Nat} {S : List Int} (h : Seen w b S) : ∃ es c, w.heap[b]? = some (.map es c) := by
  obtain ⟨D, ⟨es, c, h1, -⟩, -⟩ := h; exact ⟨es, c, h1⟩
theorem wf_i64 {x : Int} (h0 : -1000000000 ≤ x) (h1 : x ≤ 1000000000) : (Lit.int .i64 x).wf = true := WalkArith.wf_i64 (by omega)
theorem wp_seen_look {P : Program} (hP : P = Tryz.prog) {w : World} {ops : Array Oper} {rest : List Oper} {o : Oper} {a : Act} {Q : Exit → Act → World → Prop} (hgd : o.guard = none) {m x : Operand} (ho : o.op = .lookup 148 m x false)
    {b : Nat} {S : List Int} (h : Seen w b S) (hm : a.eval m = .map (some b)) {n : Int} (hx : a.eval x = .int .i64 n) (h0 : -1000000000 ≤ n) (h1 : n ≤ 1000000000)
    (k : wpList P ops Q rest (a.put o.dst (.bool (decide (n ∈ S)))) w) : wpList P ops Q (o :: rest) a w := by
  subst hP
  refine wpList_plain hgd fun K hK => ?_
  obtain ⟨D, h2, h3, h4⟩ := h
  obtain ⟨v, ps, hrun, hv⟩ := h2.lookup kInt Tryz.underlying148 (z := .bool false) (Tryz.zeroValue4 w) (plainElem_bool Tryz.underlying4 false) (Go.Maps.keyOf_int_mk Tryz.underlying3 (wf_i64 h0 h1))
  rw [h4 n] at hv
  have he : v = .bool (decide (n ∈ S)) := by
    unfold plainElem at hv
    rw [Tryz.underlying4] at hv
    cases v <;> simp at hv
    rw [hv.1]
  subst he
  unfold Oper.wp
  simp [execOp, ho, hm, hx, hrun, Result.andThen]
  exact hK _ _ k
theorem wp_seen_put {P : Program} (hP : P = Tryz.prog) {w : World} {ops : Array Oper} {rest : List Oper} {o : Oper} {a : Act} {Q : Exit → Act → World → Prop} (hgd : o.guard = none) {m x v : Operand} (ho : o.op = .mapUpdate 148 m x v)
    {b : Nat} {S : List Int} (h : Seen w b S) (hm : a.eval m = .map (some b)) {n : Int} (hx : a.eval x = .int .i64 n) (hv : a.eval v = .bool true) (h0 : -1000000000 ≤ n) (h1 : n ≤ 1000000000) (hl : S.length ≤ 1000000000)
    (k : ∀ w', Seen w' b (S ++ [n]) → w.grownBy w' (some b) → wpList P ops Q rest (a.put o.dst undef) w') : wpList P ops Q (o :: rest) a w := by
  subst hP
  obtain ⟨D, h2, h3, h4⟩ := h
  refine wpList_mapUpdate_own w hgd m x v _ ho 3 4 kInt Tryz.underlying148 _ b S.length D hm h2 (by unfold maxLen; omega) _ _ _ hx hv (Go.Maps.keyOf_int_mk Tryz.underlying3 (wf_i64 h0 h1)) _ [] (plainElem_bool Tryz.underlying4 true) (fun w' a1 a2 => k w' ⟨_, by rw [List.length_append]; exact a1, h3.put _ _, fun y => ?_⟩ a2)
  by_cases e : y = n
  · subst e
    rw [Go.Maps.atKey_put_same h3 (by trivial)]; simp
  · rw [Go.Maps.atKey_put_other (by simpa using e), h4 y]
    congr 2
    simp [e]
theorem grown_keep {w w' : World} {b : Nat} {S : List Int} (h : Seen w b S) (hg : w.grownBy w' (some b)) (E : List Nat) : Keep E w w' := fun k cells q fz hk hq => by
  refine hg.block k (Array.getElem?_eq_some_iff.1 hk).1 (fun e => ?_)
  obtain ⟨es, c, hm⟩ := h.map
  rw [Option.some.inj e, hm] at hk
  cases hk
theorem grown_O {α : Type} {d : Kd α} {w w' : World} {b e base : Nat} {S : List Int} {v : Value} {xs : List α} (h : Seen w b S) (hg : w.grownBy w' (some b)) (ho : d.O e w base v xs) : d.O e w' base v xs := by
  refine Kd.O_mov (grown_keep h hg _) (fun k hk => ?_) ho
  obtain ⟨c, hc⟩ := Kd.O_typed ho k hk
  exact grown_keep h hg [e] k c e _ hc List.mem_cons_self
theorem grown_C {α : Type} {d : Kd α} {w w' : World} {b e : Nat} {S : List Int} {A : Option Addr} {xs : List α} (h : Seen w b S) (hg : w.grownBy w' (some b)) (ho : d.C e w A xs) : d.C e w' A xs := Kd.C_mov (grown_keep h hg _) ho
theorem grown_of_below {w w' : World} (hb : Below w.heap.size w w') (row : Option Nat) : w.grownBy w' row := ⟨hb.os, hb.tape, hb.output, hb.size, fun i hi _ => hb.block i hi⟩
end Go.Proofs.YtjglbadkbhopoaaGreatDoor
