/- Lemmas and contracts for FnOutText, part 5. -/
import Derived.Lib.SliceRun
import Derived.Test.YtjglbadkbhopoaaGreatDoorW04
import Derived.Test.YtjglbadkbhopoaaGreatDoorW03
import Derived.Test.YtjglbadkbhopoaaGreatDoorW02
import Derived.Maps.Own
import Derived.Maps.OwnOps
import Derived.Maps.OwnSet
import Derived.Maps.Views
import Derived.ArgAppend
import Derived.BigQuiet
import Derived.Test.YtjglbadkbhopoaaGreatDoorW01
namespace Go.Proofs.YtjglbadkbhopoaaGreatDoor
open Go.RowKit
set_option maxRecDepth 100000
set_option maxHeartbeats 4000000
set_option linter.unusedVariables false
theorem clone_c (t : Trm) (A : Option Addr) (c : Nat) (w : World) (h : Kd.cell.C 47 w A t) (hl : t.length ≤ 1000000000) :
    Calls Tryz.prog 46 #[.slice A t.length c] w fun e w' => ∃ v, e = .returned v ∧ Kd.cell.O 47 w' w.heap.size v t ∧ Below w.heap.size w w' := by
  have hq : ∀ (W : World) (a : Option Addr) (n c n' c' : Nat), (binOp .eql 23 (.slice a n c) (.slice none n' c')).run Tryz.prog W = .ok (.bool a.isNone) W := fun W a n c n' c' => Lib.run_eql_slice_nil W _ _ a n c n' c' Tryz.underlying23
  cases A with
  | none =>
    obtain rfl : t = [] := by
      cases t with
      | nil => rfl
      | cons x t => obtain ⟨_, _, _, _, ea, _⟩ := h 0 x rfl; cases ea
    clear h
    go_enter Tryz.func46, Tryz.ntmps46
    go_wp2
    go_ret
    exact ⟨_, rfl, Kd.O_nil _ _ _ _, Below.refl _ _⟩
  | some ad =>
    have H := Lib.hid h
    clear h
    go_enter Tryz.func46, Tryz.ntmps46
    go_wp2_with (at_builtin; refine wp_append (d := Kd.cell) _ rfl (.tmp 5) (.tmp 6) 23 rfl w.heap.size 47 _ 32 Tryz.underlying23 infoCell rfl (by decide) _ [] rfl (Kd.O_empty Kd.cell _ w (Nat.le_refl _)) _ t _ _ rfl rfl (Kd.C_ext (bel_alloc (Below.refl _ _) _) H.out) ?c1 ?c2 ?c3 (fun q hq => by simp [Kd.cell] at hq) ?_; (case c1 => simp [maxLen]; omega); (case c2 => simp; omega); (case c3 => simp); intro v' w' ho hg hat; have hb := Lib.hid (bel_grown (bel_alloc (Below.refl _ w) _) (Kd.O_empty Kd.cell _ w (Nat.le_refl _)) hg); have ho' := Lib.hid ho; clear ho hg hat)
    go_ret
    exact ⟨_, rfl, by have := ho'.out; rwa [List.nil_append] at this, hb.out⟩
end Go.Proofs.YtjglbadkbhopoaaGreatDoor
namespace Go.Proofs.YtjglbadkbhopoaaGreatDoor
open Go.RowKit
set_option maxRecDepth 100000
set_option maxHeartbeats 2000000
set_option linter.unusedVariables false
theorem getI_none (s : Binds) (A : Option Addr) (c : Nat) (v : Int) (w : World) (h : Kd.bind.C 107 w A s) (hl : s.length ≤ 1000000000) (hnd : (s.map (·.1)).Nodup) (hg : getB s v = none) :
    Calls Tryz.prog 104 #[.slice A s.length c, .int .i64 v] w fun e w' => e = .returned (.slice none 0 0) ∧ Below w.heap.size w w' :=
  (getI_c s A c v w h hl hnd).mono fun e w' hp => by
    rw [hg] at hp
    obtain ⟨r, he, hb, hr⟩ := hp
    have hr : r = .slice none 0 0 := hr
    exact ⟨by rw [he, hr], hb⟩
theorem getI_some (s : Binds) (A : Option Addr) (c : Nat) (v : Int) (t : Trm) (w : World) (h : Kd.bind.C 107 w A s) (hl : s.length ≤ 1000000000) (hnd : (s.map (·.1)).Nodup) (hg : getB s v = some t) :
    Calls Tryz.prog 104 #[.slice A s.length c, .int .i64 v] w fun e w' => ∃ r, e = .returned r ∧ Kd.cell.S 47 w' r t ∧ Below w.heap.size w w' :=
  (getI_c s A c v w h hl hnd).mono fun e w' hp => by
    rw [hg] at hp
    obtain ⟨r, he, hb, hr⟩ := hp
    exact ⟨r, he, hr, hb⟩
theorem nil_eq : ∀ (W : World) (a : Option Addr) (n c n' c' : Nat), (binOp .eql 23 (.slice a n c) (.slice none n' c')).run Tryz.prog W = .ok (.bool a.isNone) W := fun W a n c n' c' => Lib.run_eql_slice_nil W _ _ a n c n' c' Tryz.underlying23
theorem walkI_c (n : Nat) (s : Binds) (A : Option Addr) (c : Nat) (t x : Trm) (tv : Value) (w : World) (h : Kd.bind.C 107 w A s) (hl : s.length ≤ 1000000000) (hnd : (s.map (·.1)).Nodup) (ht : Kd.cell.S 47 w tv t) (hw : walkB n s t = some x) (hne : ∀ v t, getB s v = some t → t ≠ []) :
    Calls Tryz.prog 75 #[.slice A s.length c, tv] w fun e w' => ∃ r, e = .returned r ∧ Kd.cell.S 47 w' r x ∧ Below w.heap.size w w' := by
  have H := Lib.hid h
  have HT := Lib.hid ht
  have HW := Lib.hid hw
  have HNe := Lib.hid hne
  have HD := Lib.hid hnd
  have hq := nil_eq
  clear h ht hw hne hnd
  go_enter Tryz.func75, Tryz.ntmps75
  go_wp2
  go_loopg [1] n (fun k v1 wr => ∃ u, Hid (walkB k s u = some x) ∧ Hid (Kd.cell.S 47 wr v1 u) ∧ Hid (Below w.heap.size w wr))
  case atStart => exact ⟨t, HW, HT, Lib.hid (Below.refl _ _)⟩
  case round =>
    obtain ⟨u, HU, HS, HB⟩ := hrel
    obtain ⟨k, rfl⟩ : ∃ k, gk = k + 1 := by
      cases gk with
      | zero => have := HU.out; simp [walkB] at this
      | succ k => exact ⟨k, rfl⟩
    obtain ⟨cc, r, rfl⟩ : ∃ cc r, u = cc :: r := by
      cases u with
      | nil => have := HU.out; simp [walkB] at this
      | cons cc r => exact ⟨cc, r, rfl⟩
    obtain ⟨ad, nx, kx, rfl, hn1, hn2, hn3, hn4⟩ := S_open HS.out
    obtain ⟨a1, a2, a3⟩ := S_cells HS.out
    by_cases h1 : cc.k = 1
    · have e1 : (cc.k == 1) = true := beq_iff_eq.2 h1
      cases hg : getB s cc.n with
      | none =>
        have HG := Lib.hid (fun W hb => getI_none s A c cc.n W (Kd.C_ext (w' := W) hb H.out) hl HD.out hg)
        have HX := Lib.hid (show x = cc :: r by have := HU.out; unfold walkB at this; dsimp only at this; rw [if_pos h1, hg] at this; exact (Option.some.inj this).symm)
        clear h1 hg
        go_wp2_with (go_at_call 104; refine (HG.out _ HB.out).mono ?_; rintro e w1 ⟨rfl, hb⟩; have HB1 := Lib.hid (bel_trans HB.out hb); have Hb := Lib.hid hb; clear hb)
        go_ret
        exact ⟨_, rfl, by rw [HX.out]; exact Kd.S_ext Hb.out HS.out, HB1.out⟩
      | some u' =>
        have HG := Lib.hid (fun W hb => getI_some s A c cc.n u' W (Kd.C_ext (w' := W) hb H.out) hl HD.out hg)
        have HX := Lib.hid (show walkB k s u' = some x by have := HU.out; unfold walkB at this; dsimp only at this; rw [if_pos h1, hg] at this; exact this)
        obtain ⟨c', r', rfl⟩ : ∃ c' r', u' = c' :: r' := by
          cases u' with
          | nil => exact absurd rfl (HNe.out _ _ hg)
          | cons c' r' => exact ⟨c', r', rfl⟩
        clear h1 hg
        go_wp2_with (go_at_call 104; refine (HG.out _ HB.out).mono ?_; rintro e w1 ⟨rv, rfl, hS1, hb⟩; have HS1 := Lib.hid hS1; obtain ⟨ad', ny, ky, rfl, hm1, hm2, hm3, hm4⟩ := S_open hS1; have HB1 := Lib.hid (bel_trans HB.out hb); clear hb hS1)
        go_roundg k
        case measure => omega
        case rel => exact ⟨_, HX, HS1, HB1⟩
    · have e1 : (cc.k == 1) = false := beq_eq_false_iff_ne.2 h1
      have HX := Lib.hid (show x = cc :: r by have := HU.out; unfold walkB at this; dsimp only at this; rw [if_neg h1] at this; exact (Option.some.inj this).symm)
      clear h1
      go_wp2
      go_ret
      exact ⟨_, rfl, by rw [HX.out]; exact HS.out, HB.out⟩
theorem argsI_c (c0 : Cell) (r : Trm) (tv : Value) (w : World) (ht : Kd.cell.S 47 w tv (c0 :: r)) (hok : trmOk (c0 :: r) = true) :
    Calls Tryz.prog 63 #[tv] w fun e w' => ∃ v, e = .returned v ∧ Kd.trm.O 23 w' w.heap.size v (argsOf (ar c0).toNat r) ∧ Below w.heap.size w w' := by
  obtain ⟨h1, h40, hall⟩ := trmOk_iff.1 hok
  have m : Ms (ar c0).toNat r := by rw [show 1 = 0 + 1 by rfl, Ms_cons, Nat.zero_add] at h1; exact h1
  have hr := ar_of_ok (List.all_eq_true.1 hall c0 List.mem_cons_self)
  obtain ⟨q, hq⟩ := Int.eq_ofNat_of_zero_le hr.1
  have hq3 : q ≤ 3 := by omega
  rw [hq, Int.toNat_natCast] at m ⊢
  obtain ⟨ad, nx, kx, rfl, hn1, hn2, hn3, hn4⟩ := S_open ht
  obtain ⟨a1, a2, a3⟩ := S_cells ht
  have HT := Lib.hid ht
  have HM := Lib.hid m
  have HAll := Lib.hid (show ∀ c ∈ r, cellOk c = true from fun c hc => List.all_eq_true.1 hall c (List.mem_cons_of_mem _ hc))
  have HA := Lib.hid (fun W => arity_c c0 W)
  rw [hq] at HA
  rw [List.length_cons] at h40
  clear h1 hall ht hok m hr hq
  go_enter Tryz.func63, Tryz.ntmps63
  go_wp2_with (first | (refine wp_sub_l AppI.cell rfl rfl HT.out rfl rfl (by omega) (by simp; omega) ?_; intro v4 hv4; have HV4 := Lib.hid hv4; clear hv4) | (go_at_call 64; (with_reducible refine (HA.out _).mono ?_); rintro e w1 ⟨rfl, hb⟩; have HB1 := Lib.hid hb; clear hb))
  go_loopw [3, 4, 12] (fun v3 v4 v12 wr => ∃ (k : Nat) (D : List Trm) (u : Trm), v12 = .int .i64 k ∧ k ≤ q ∧ D.length = k ∧ Hid (argsOf q r = D ++ argsOf (q - k) u) ∧ Hid (Ms (q - k) u) ∧ Hid (∀ c ∈ u, c ∈ r) ∧ u.length ≤ 40 ∧ Hid (Kd.cell.S 47 wr v4 u) ∧ Hid (Kd.trm.O 23 wr w.heap.size v3 D) ∧ Hid (Below w.heap.size w wr)) (fun _ _ v12 _ => q - (intOf v12).toNat)
  case atStart => exact ⟨0, [], r, rfl, Nat.zero_le _, rfl, Lib.hid (by simp), Lib.hid (by rw [Nat.sub_zero]; exact HM.out), Lib.hid (fun c h => h), by omega, Lib.hid (Kd.S_ext HB1.out HV4.out), Lib.hid (Kd.O_nil _ _ _ _), HB1⟩
  case round =>
    obtain ⟨k, D, u, rfl, hk, hD, HE, HMu, HCu, hu40, HS, HO, HB⟩ := hrel
    by_cases hlt : k < q
    · obtain ⟨x, y, rfl, hx, hy⟩ := Ms_split (m := 1) (n := q - (k + 1)) (t := u) (by have := HMu.out; rwa [show q - k = 1 + (q - (k + 1)) by omega] at this)
      have HX := Lib.hid hx
      have HY := Lib.hid hy
      have HE2 := Lib.hid (show argsOf q r = (D ++ [x]) ++ argsOf (q - (k + 1)) y by
        have := HE.out
        rwa [show q - k = (q - (k + 1)) + 1 by omega, argsOf, fst1_pre y hx, rst1_pre y hx, List.append_cons] at this)
      obtain ⟨UB, cU, rfl, u1, u2, hUC⟩ := HS.out
      have hlu : x.length ≤ (x ++ y).length := by rw [List.length_append]; omega
      have HZ := Lib.hid (size_c (x ++ y) UB cU wr hUC (List.all_eq_true.2 (fun c hc => HAll.out c (HCu.out c hc))) hu40)
      rw [size_pre y hx] at HZ
      obtain ⟨nu, hnu⟩ : ∃ nu, (x ++ y).length = nu := ⟨_, rfl⟩
      have HNu := Lib.hid hnu
      have HS' := Lib.hid HS.out
      clear HS
      rw [hnu] at HZ HS' hu40 hlu u1 ⊢
      clear hx hy hUC hnu
      go_wp2_with (first | (go_at_call 60; (with_reducible refine HZ.out.mono ?_); rintro e w2 ⟨rfl, hb⟩; have HB2 := Lib.hid hb; clear hb)
                         | (refine wp_sub_h AppI.cell rfl rfl (Kd.S_ext HB2.out HS'.out) rfl rfl (by omega) (by rw [HNu.out]; omega) ?_; intro v7 hv7; rw [Int.toNat_natCast, List.take_left' rfl] at hv7; have HV7 := Lib.hid hv7; obtain ⟨XB, cX, rfl, x1, x2, -⟩ := hv7)
                         | (at_builtin; refine wp_app AppI.trm rfl rfl (Kd.O_alloc _ (Kd.O_ext HB2.out HO.out)) rfl (Kd.S_lit Kd.trm _ (x := x) (cs := [.slice XB x.length cX]) ⟨_, rfl, HV7.out⟩ rfl) rfl ?c1 ?c2 ?_; (case c1 => simp; omega); (case c2 => have h1 := HB.out.size; have h2 := HB2.out.size; simp; omega); intro v8 w3 hg; have HG := Lib.hid hg; clear hg)
                         | (refine wp_sub_l AppI.cell rfl rfl ((HG.out.but (Kd.O_alloc _ (Kd.O_ext HB2.out HO.out))).S (Kd.S_alloc _ (Kd.S_ext HB2.out HS'.out)) cellE) rfl rfl (by omega) (by rw [HNu.out]; omega) ?_; intro v9 hv9; rw [Int.toNat_natCast, List.drop_left' rfl] at hv9; have HV9 := Lib.hid hv9; clear hv9))
      refine ⟨⟨k + 1, D ++ [x], y, by go_num, by omega, by simp; omega, HE2, HY, Lib.hid (fun c hc => HCu.out c (List.mem_append_right _ hc)), ?_, HV9, Lib.hid HG.out.own, Lib.hid (HG.out.below (bel_alloc (bel_trans HB.out HB2.out) _) (Kd.O_alloc _ (Kd.O_ext HB2.out HO.out)))⟩, by simp [intOf]; omega⟩
      have := HNu.out
      rw [List.length_append] at this
      omega
    · have HV := Lib.hid (show argsOf q r = D by have := HE.out; rwa [show q - k = 0 by omega, argsOf, List.append_nil] at this)
      go_wp2
      go_ret
      exact ⟨_, rfl, by rw [HV.out]; exact HO.out, HB.out⟩
end Go.Proofs.YtjglbadkbhopoaaGreatDoor
namespace Go.Proofs.YtjglbadkbhopoaaGreatDoor
set_option linter.unusedVariables false
inductive Fl (s : Binds) : Trm → Nat → Trm → Prop
  | nil : Fl s [] 0 []
  | keep {c : Cell} {t o : Trm} {k : Nat} (h : c.k = 1 → getB s c.n = none) (f : Fl s t k o) : Fl s (c :: t) (k + 1) (c :: o)
  | bound {c : Cell} {t u o : Trm} {k : Nat} (h : c.k = 1) (g : getB s c.n = some u) (f : Fl s (u ++ t) k o) : Fl s (c :: t) (k + 1) o
theorem Fl_fun {s : Binds} {t o : Trm} {k : Nat} (h : Fl s t k o) : ∀ {k' : Nat} {o' : Trm}, Fl s t k' o' → o = o' ∧ k = k' := by
  induction h with
  | nil => intro k' o' h'; cases h'; exact ⟨rfl, rfl⟩
  | keep hc f ih =>
    intro k' o' h'
    cases h' with
    | keep hc' f' => obtain ⟨rfl, rfl⟩ := ih f'; exact ⟨rfl, rfl⟩
    | bound hk g f' => rw [hc hk] at g; cases g
  | bound hk g f ih =>
    intro k' o' h'
    cases h' with
    | keep hc' f' => rw [hc' hk] at g; cases g
    | bound hk' g' f' =>
      rw [g] at g'
      obtain rfl := Option.some.inj g'
      obtain ⟨rfl, rfl⟩ := ih f'
      exact ⟨rfl, rfl⟩
theorem Fl_app {s : Binds} {t o : Trm} {k : Nat} (h : Fl s t k o) {r o' : Trm} {k' : Nat} (h' : Fl s r k' o') : Fl s (t ++ r) (k + k') (o ++ o') := by
  induction h with
  | nil => rw [Nat.zero_add]; exact h'
  | keep hc f ih => rw [Nat.add_right_comm]; exact .keep hc ih
  | bound hk g f ih => rw [Nat.add_right_comm]; exact .bound hk g (by have := ih; rw [List.append_assoc] at this; exact this)
theorem Fl_rank {s : Binds} {ρ : Int → Nat} (hρ : ∀ v t, getB s v = some t → ∀ x ∈ vars t, ρ x < ρ v) : ∀ (K : Nat) (t : Trm), (∀ x ∈ vars t, ρ x < K) → ∃ k o, Fl s t k o := by
  intro K
  induction K with
  | zero =>
    intro t
    induction t with
    | nil => intro _; exact ⟨0, [], .nil⟩
    | cons c t ih =>
      intro h
      by_cases hc : c.k = 1
      · exact absurd (h c.n (by rw [vars_cons_var hc]; exact List.mem_cons_self)) (by omega)
      · obtain ⟨k, o, f⟩ := ih (fun x hx => h x (by rw [vars_cons_fun hc]; exact hx))
        exact ⟨k + 1, c :: o, .keep (fun e => absurd e hc) f⟩
  | succ K ihK =>
    intro t
    induction t with
    | nil => intro _; exact ⟨0, [], .nil⟩
    | cons c t ih =>
      intro h
      by_cases hc : c.k = 1
      · obtain ⟨k, o, f⟩ := ih (fun x hx => h x (by rw [vars_cons_var hc]; exact List.mem_cons_of_mem _ hx))
        have hr := h c.n (by rw [vars_cons_var hc]; exact List.mem_cons_self)
        cases hg : getB s c.n with
        | none => exact ⟨k + 1, c :: o, .keep (fun _ => hg) f⟩
        | some u =>
          obtain ⟨k1, o1, f1⟩ := ihK u (fun x hx => by have := hρ _ _ hg x hx; omega)
          exact ⟨_, _, .bound hc hg (Fl_app f1 f)⟩
      · obtain ⟨k, o, f⟩ := ih (fun x hx => h x (by rw [vars_cons_fun hc]; exact hx))
        exact ⟨k + 1, c :: o, .keep (fun e => absurd e hc) f⟩
theorem Fl_ex {s : Binds} (h : Bok s) (t : Trm) : ∃ k o, Fl s t k o := by
  obtain ⟨_, ρ, hρ⟩ := h
  have : ∃ K, ∀ x ∈ vars t, ρ x < K := ⟨Rmax ρ (vars t), fun x hx => Rmax_ge hx⟩
  obtain ⟨K, hK⟩ := this
  exact Fl_rank hρ K t hK
theorem Fl_len {s : Binds} (h : ∀ v u, getB s v = some u → 0 < u.length) {t o : Trm} {k : Nat} (f : Fl s t k o) : t.length ≤ o.length := by
  induction f with
  | nil => exact Nat.le_refl _
  | keep hc f ih => simp only [List.length_cons]; omega
  | bound hk g f ih =>
    have := h _ _ g
    rw [List.length_append] at ih
    rw [List.length_cons]
    omega
theorem Fl_ms {s : Binds} (h : ∀ v u, getB s v = some u → Ms 1 u) {t o : Trm} {k : Nat} (f : Fl s t k o) : ∀ {m : Nat}, Ms m t → Ms m o := by
  induction f with
  | nil => intro m hm; exact hm
  | keep hc f ih =>
    intro m hm
    cases m with
    | zero => rw [Ms_zero] at hm; cases hm
    | succ m => rw [Ms_cons] at hm ⊢; exact ih hm
  | bound hk g f ih =>
    intro m hm
    cases m with
    | zero => rw [Ms_zero] at hm; cases hm
    | succ m =>
      rw [Ms_cons, ar_var hk, Nat.add_zero] at hm
      rw [Nat.add_comm]
      exact ih (Ms_app (h _ _ g) hm)
theorem Fl_cells {s : Binds} {p : Cell → Prop} (h : ∀ v u, getB s v = some u → ∀ c ∈ u, p c) {t o : Trm} {k : Nat} (f : Fl s t k o) : (∀ c ∈ t, p c) → ∀ c ∈ o, p c := by
  induction f with
  | nil => exact id
  | keep hc f ih =>
    intro ht c hc
    rcases List.mem_cons.1 hc with rfl | hc
    · exact ht _ List.mem_cons_self
    · exact ih (fun x hx => ht x (List.mem_cons_of_mem _ hx)) c hc
  | bound hk g f ih =>
    intro ht
    exact ih (fun x hx => by
      rcases List.mem_append.1 hx with hx | hx
      · exact h _ _ g x hx
      · exact ht x (List.mem_cons_of_mem _ hx))
open Classical in
noncomputable def flat (s : Binds) (t : Trm) : Trm := if h : ∃ k o, Fl s t k o then Classical.choose (Classical.choose_spec h) else []
theorem flat_eq {s : Binds} {t o : Trm} {k : Nat} (f : Fl s t k o) : flat s t = o := by
  have h : ∃ k o, Fl s t k o := ⟨k, o, f⟩
  unfold flat
  rw [dif_pos h]
  exact (Fl_fun (Classical.choose_spec (Classical.choose_spec h)) f).1
theorem flat_fl {s : Binds} (h : Bok s) (t : Trm) : ∃ k, Fl s t k (flat s t) := by
  obtain ⟨k, o, f⟩ := Fl_ex h t
  exact ⟨k, by rw [flat_eq f]; exact f⟩
theorem Binv.pos {V : List Int} {s : Binds} (h : Binv V s) : ∀ v u, getB s v = some u → 0 < u.length := fun v u hg => Ms_pos (m := 0) (trmOk_iff.1 (h.trm v u hg)).1
theorem flat_ok {V : List Int} {s : Binds} (h : Binv V s) {t : Trm} (ht : trmOk t = true) (hl : (flat s t).length ≤ 40) : trmOk (flat s t) = true := by
  obtain ⟨k, f⟩ := flat_fl h.bok t
  obtain ⟨h1, _, h3⟩ := trmOk_iff.1 ht
  refine trmOk_iff.2 ⟨Fl_ms (fun v u hg => (trmOk_iff.1 (h.trm v u hg)).1) f h1, hl, List.all_eq_true.2 ?_⟩
  exact Fl_cells (p := fun c => cellOk c = true) (fun v u hg => List.all_eq_true.1 (trmOk_iff.1 (h.trm v u hg)).2.2) f (List.all_eq_true.1 h3)
end Go.Proofs.YtjglbadkbhopoaaGreatDoor
namespace Go.Proofs.YtjglbadkbhopoaaGreatDoor
open Go.RowKit
set_option maxRecDepth 100000
set_option maxHeartbeats 2000000
set_option linter.unusedVariables false
def Far (w : World) (u v : Value) : Prop := ∀ k, v.ownBlock = some k → u.ownBlock ≠ some k ∧ k < w.heap.size
theorem sliced_in {A : Option Addr} {l k n c s : Nat} : ∀ j, (sliced A l k c s).ownBlock = some j → (Value.slice A n c).ownBlock = some j := by
  intro j h
  unfold sliced at h
  cases A with
  | none => split at h <;> simp [Value.ownBlock] at h
  | some ad =>
    split at h
    · simp [Value.ownBlock] at h ⊢; exact h
    · simp [Value.ownBlock] at h ⊢; rw [add_block] at h; exact h
theorem Far.ext {w w' : World} {u v : Value} (h : Far w u v) (hb : w.heap.size ≤ w'.heap.size) : Far w' u v := fun k hk => ⟨(h k hk).1, Nat.lt_of_lt_of_le (h k hk).2 hb⟩
theorem Far.grew {α : Type} {d : Kd α} {e base : Nat} {w w' : World} {u u' v : Value} {ys : List α} (h : Far w u v) (hg : Grew d e base u ys w u' w') : Far w' u' v := fun k hk => by
  have h1 := h k hk
  refine ⟨fun e => ?_, Nat.lt_of_lt_of_le h1.2 hg.grown.size⟩
  rcases hg.at' with ha | ha
  · rw [ha] at e; exact h1.1 e
  · rw [ha] at e; have := Option.some.inj e; omega
theorem S_far {α : Type} {d : Kd α} {e : Nat} {w w' : World} {u v : Value} {xs : List α} (hd : d.E = []) (h : d.S e w v xs) (hf : Far w u v) (hg : w.grownBy w' u.ownBlock) : d.S e w' v xs := by
  obtain ⟨A, c, rfl, h1, h2, hC⟩ := h
  refine ⟨A, c, rfl, h1, h2, fun i x hx => ?_⟩
  obtain ⟨ad, cs, cells, fz, rfl, hh, hK, hc⟩ := hC i x hx
  have hk := hf ad.block rfl
  have hb := hg.block ad.block hk.2 (fun e => hk.1 e.symm)
  exact ⟨ad, cs, cells, fz, rfl, hb.trans hh, d.mov (fun k c q f _ hq => by rw [hd] at hq; cases hq) hK, fun j u hu => (World.cell?_of_block (by rw [add_block]; exact hb)).trans (hc j u hu)⟩
theorem wp_sub_l' {α : Type} {P : Program} {w : World} {d : Kd α} {t e : TypeId} {ops : Array Oper} {rest : List Oper} {o : Oper} {a : Act} {Q : Exit → Act → World → Prop} (I : AppI P t e d) (hgd : o.guard = none) {x lo : Operand} (ho : o.op = .slice t x (some lo) none none)
    {A : Option Addr} {c : Nat} {xs : List α} (hy : d.S e w (.slice A xs.length c) xs) (hx : a.eval x = .slice A xs.length c) {l : Int} (hl : a.eval lo = .int .i64 l) (h0 : 0 ≤ l) (h2 : l ≤ xs.length)
    (h : ∀ v', d.S e w v' (xs.drop l.toNat) → (∀ j, v'.ownBlock = some j → (Value.slice A xs.length c).ownBlock = some j) → wpList P ops Q rest (a.put o.dst v') w) : wpList P ops Q (o :: rest) a w :=
  wpList_plain hgd fun K hK => by
    have hy' := hy
    obtain ⟨A', c', ev, hc, hm, hC⟩ := hy
    injection ev with e1 _ e3
    subst e1
    subst e3
    have ht : P.underlying t = some (.slice (P.elem t)) := by rw [I.elem]; exact I.und
    have hr := run_slice_l (w := w) t A xs.length c ht .i64 l h0 h2
    rw [I.size] at hr
    unfold Oper.wp execOp
    simp only [ho, Option.map_some, Option.map_none, hl, hx, Sem.run_bind, Sem.run_pure, run_sliceAt_slice (h := ht), hr, Result.andThen_ok]
    exact hK _ _ (h _ (by have := Kd.S_sliced hy' (show l.toNat ≤ xs.length by omega) (Nat.le_refl _); rwa [List.take_of_length_le (by rw [List.length_drop]; exact Nat.le_refl _)] at this) sliced_in)
theorem O_empty_at {α : Type} (d : Kd α) (e : Nat) (w : World) {base g : Nat} (hg : w.heap.size = g) (hb : base ≤ w.heap.size) : d.O e (w.alloc (.cells #[] e)) base (.slice (some ⟨g, 0, none⟩) 0 0) [] := by subst hg; exact Kd.O_empty d e w hb
theorem size_alloc1 (w : World) (o : Obj) : (w.alloc o).heap.size = w.heap.size + 1 := by show (w.heap.push o).size = _; exact Array.size_push _
def FullPost (w : World) (o : Trm) (e : Ending) (w' : World) : Prop := ∃ v, e = .returned (.tuple #[v, .bool (decide (o.length ≤ 40))]) ∧ Kd.cell.O 47 w' w.heap.size v (if o.length ≤ 40 then o else []) ∧ Below w.heap.size w w'
theorem FullPost.yes {w w' : World} {o : Trm} {v : Value} (h : o.length ≤ 40) (hO : Kd.cell.O 47 w' w.heap.size v o) (hb : Below w.heap.size w w') : FullPost w o (.returned (.tuple #[v, .bool true])) w' :=
  ⟨v, by rw [decide_eq_true h], by rw [if_pos h]; exact hO, hb⟩
theorem FullPost.no {w w' : World} {o : Trm} {v : Value} (h : ¬ o.length ≤ 40) (hO : Kd.cell.O 47 w' w.heap.size v []) (hb : Below w.heap.size w w') : FullPost w o (.returned (.tuple #[v, .bool false])) w' :=
  ⟨v, by rw [decide_eq_false h], by rw [if_neg h]; exact hO, hb⟩
theorem size_alloc2 (w : World) (o o' : Obj) : ((w.alloc o).alloc o').heap.size = w.heap.size + 1 + 1 := by rw [size_alloc1, size_alloc1]
theorem box3 {w w3 : World} {cs : Array Value} {T : Nat} {o' : Obj} (hb : Below ((w.alloc (.cells cs T)).alloc o').heap.size ((w.alloc (.cells cs T)).alloc o') w3) : w3.heap[w.heap.size]? = some (.cells cs T (0, 0)) := by
  have h := heap_alloc_new w (.cells cs T)
  have h2 : ((w.alloc (.cells cs T)).alloc o').heap[w.heap.size]? = some (.cells cs T (0, 0)) := by
    rw [← h]; exact Lib.alloc_old _ _ _ (by rw [size_alloc1]; omega)
  exact box_keep h2 hb
theorem fullS_c (s : Binds) (t o : Trm) (n : Nat) (sv tv : Value) (w : World) (f : Fl s t n o) (hs : Kd.bind.S 107 w sv s) (ht : Kd.cell.S 47 w tv t) (hl : s.length ≤ 1000000000) (h40 : t.length ≤ 40) (hu : ∀ v u, getB s v = some u → 0 < u.length ∧ u.length ≤ 40) :
    Calls Tryz.prog 124 #[sv, tv] w (FullPost w o) := by
  have HF := Lib.hid f
  have HU := Lib.hid hu
  have HT := Lib.hid ht
  have HS := Lib.hid hs
  obtain ⟨SB, cS, rfl, s1, s2, -⟩ := hs
  obtain ⟨TB, cT, rfl, t1, t2, -⟩ := ht
  have HG := Lib.hid (fun v W hb => get_c s SB cS v W (by obtain ⟨A, c, e, _, _, hC⟩ := Kd.S_ext (w' := W) hb HS.out; injection e with e1 _ _; subst e1; exact hC) hl)
  clear f hu
  go_enter Tryz.func124, Tryz.ntmps124
  go_wp2_with (at_builtin; refine wp_app AppI.cell rfl rfl (O_empty_at Kd.cell _ (w.alloc (.cells #[] 47)) (size_alloc1 _ _) (base := (w.alloc (.cells #[] 47)).heap.size) (Nat.le_refl _)) rfl (Kd.S_alloc _ (Kd.S_alloc _ HT.out)) rfl ?c1 ?c2 ?_; (case c1 => simp; omega); (case c2 => exact (bel_alloc (Below.refl _ (w.alloc (.cells #[] 47))) _).size); intro v7 w1 hg; have HGr := Lib.hid hg; clear hg)
  have HB1 := Lib.hid (HGr.out.below (bel_alloc (Below.refl _ (w.alloc (.cells #[] 47))) _) (O_empty_at Kd.cell _ (w.alloc (.cells #[] 47)) (size_alloc1 _ _) (base := (w.alloc (.cells #[] 47)).heap.size) (Nat.le_refl _)))
  have HO1 := Lib.hid (Kd.O_ext HB1.out (Kd.O_empty Kd.cell 47 w (Nat.le_refl _)))
  have HS1 := Lib.hid (show Kd.cell.S 47 w1 v7 t from Kd.O_read HGr.out.own)
  have HFa := Lib.hid (show Far w1 (.slice (some ⟨w.heap.size, 0, none⟩) 0 0) v7 from fun k hk => by
    have := Kd.O_lt HGr.out.own k hk
    rw [size_alloc1] at this
    refine ⟨fun e => ?_, this.2⟩
    have := Option.some.inj e
    dsimp only at this
    omega)
  have HBw := Lib.hid (bel_trans (bel_alloc (Below.refl w.heap.size w) _) HB1.out)
  clear HGr HB1
  go_loopg [6, 7] n (fun k v6 v7 wr => ∃ (out todo o' : Trm), Hid (Fl s todo k o') ∧ Hid (out ++ o' = o) ∧ Hid (Kd.cell.O 47 wr w.heap.size v6 out) ∧ Hid (Kd.cell.S 47 wr v7 todo) ∧ Hid (Far wr v6 v7) ∧ Hid (Below w.heap.size w wr) ∧ out.length + todo.length ≤ 40)
  case atStart => exact ⟨[], t, o, HF, Lib.hid rfl, HO1, HS1, HFa, HBw, by simpa using h40⟩
  case round =>
    clear HF HT HO1 HS1 HFa HBw t1 t2 h40
    obtain ⟨out, todo, o', HFl, HOo, HOr, HSr, HFr, HBr, hlen⟩ := hrel
    match todo, HFl, HSr, hlen with
    | [], HFl, HSr, hlen =>
      obtain ⟨OB, oc, rfl, o1, o2, -⟩ := Kd.O_read HOr.out
      obtain ⟨TB2, tc, rfl, q1, q2, -⟩ := HSr.out
      have HV := Lib.hid (show out = o by have h := HFl.out; cases h; have := HOo.out; rwa [List.append_nil] at this)
      have hol := Lib.hid (show o.length ≤ 40 by rw [← HV.out]; simpa using hlen)
      go_wp2
      go_ret2
      exact .yes hol.out (HV.out ▸ HOr.out) HBr.out
    | cc :: r, HFl, HSr, hlen =>
      obtain ⟨OB, oc, rfl, o1, o2, -⟩ := Kd.O_read HOr.out
      obtain ⟨TB2, tc, rfl, q1, q2, hC⟩ := HSr.out
      obtain ⟨ad, rfl, x1, x2, x3⟩ := cell_hd hC
      have hrl : (cc :: r).length = r.length + 1 := rfl
      obtain ⟨N1, hN1⟩ : ∃ N1, (cc :: r).length = N1 := ⟨_, rfl⟩
      have HN1 := Lib.hid hN1
      rw [hN1] at q1 hrl hlen ⊢
      have HSr := Lib.hid (show Kd.cell.S 47 wr (.slice (some ad) (cc :: r).length tc) (cc :: r) from HSr.out)
      have hFr := HFr.out
      rw [hN1] at hFr
      have HFr := Lib.hid hFr
      clear hC hN1 hFr
      have hcases : (cc.k == 1) = false ∨ ((cc.k == 1) = true ∧ getB s cc.n = none) ∨ ((cc.k == 1) = true ∧ ∃ u, getB s cc.n = some u) := by
        by_cases h : cc.k = 1
        · cases hg : getB s cc.n with
          | none => exact .inr (.inl ⟨beq_iff_eq.2 h, rfl⟩)
          | some u => exact .inr (.inr ⟨beq_iff_eq.2 h, u, rfl⟩)
        · exact .inl (beq_eq_false_iff_ne.2 h)
      rcases hcases with e1 | ⟨e1, hg⟩ | ⟨e1, u, hg⟩
      · obtain ⟨g2, oo, hgk, ho2, f2⟩ : ∃ g2 oo, gk = g2 + 1 ∧ o' = cc :: oo ∧ Fl s r g2 oo := by
          have h := HFl.out
          cases h with
          | keep hc f => exact ⟨_, _, rfl, rfl, f⟩
          | bound hk g f => exact absurd (beq_iff_eq.2 hk) (by rw [e1]; simp)
        have Hgk := Lib.hid hgk
        have HFl2 := Lib.hid f2
        have HOo2 := Lib.hid (show (out ++ [cc]) ++ oo = o by rw [List.append_assoc]; show out ++ cc :: oo = o; rw [← ho2]; exact HOo.out)
        clear hgk ho2 f2
        have e9 : decide ((40 : Int) < (out.length : Int) + 1 + (r.length : Int)) = false := decide_eq_false (by omega)
        go_wp2_with (first | (refine wp_sub_l' AppI.cell rfl rfl (Kd.S_alloc _ HSr.out) ?hx rfl (by omega) (by rw [List.length_cons]; omega) ?_; (case hx => rw [HN1.out]; rfl); intro v7b hv7 hin; have HIn := Lib.hid (show Far wr (.slice OB out.length oc) v7b from fun k hk => HFr.out k (hin k hk)); have HV7 := Lib.hid (show Kd.cell.S 47 _ v7b r from hv7); obtain ⟨TB3, tc3, rfl, z1, z2, -⟩ := HV7.out; clear hv7 hin)
                           | (at_builtin; refine wp_app AppI.cell rfl rfl (Kd.O_alloc _ (Kd.O_alloc _ (Kd.O_alloc _ HOr.out))) rfl (Kd.S_lit Kd.cell _ (x := cc) (cs := [.int .i64 cc.k, .int .i64 cc.n, .string cc.s]) rfl (size_alloc2 _ _ _).symm) rfl ?c1 ?c2 ?_; (case c1 => simp; omega); (case c2 => exact Nat.le_trans HBr.out.size (bel_alloc (bel_alloc (bel_alloc (Below.refl _ wr) _) _) _).size); intro v6b w4 hg; have HGr := Lib.hid hg; obtain ⟨OB2, oc2, rfl, z3, z4, -⟩ := Kd.O_read hg.own; clear hg))
        have hl2 : (out ++ [cc]).length = out.length + 1 := by simp
        have HG2 := HGr.out
        rw [hl2] at HG2
        have HG3 := Lib.hid HG2
        clear HG2 HGr
        go_roundg g2
        case measure => rw [Hgk.out]; omega
        case rel => exact ⟨out ++ [cc], r, oo, HFl2, HOo2, Lib.hid HG3.out.own, Lib.hid (S_far rfl (Kd.S_alloc _ (Kd.S_alloc _ HV7.out)) (HIn.out.ext (bel_alloc (bel_alloc (bel_alloc (Below.refl _ wr) _) _) _).size) HG3.out.grown), Lib.hid (Far.grew (HIn.out.ext (bel_alloc (bel_alloc (bel_alloc (Below.refl _ wr) _) _) _).size) HG3.out), Lib.hid (HG3.out.below (bel_alloc (bel_alloc (bel_alloc HBr.out _) _) _) (Kd.O_alloc _ (Kd.O_alloc _ (Kd.O_alloc _ HOr.out)))), by rw [hl2]; omega⟩
      · obtain ⟨g2, oo, hgk, ho2, f2⟩ : ∃ g2 oo, gk = g2 + 1 ∧ o' = cc :: oo ∧ Fl s r g2 oo := by
          have h := HFl.out
          cases h with
          | keep hc f => exact ⟨_, _, rfl, rfl, f⟩
          | bound hk g f => rw [hg] at g; cases g
        have Hgk := Lib.hid hgk
        have HFl2 := Lib.hid f2
        have HOo2 := Lib.hid (show (out ++ [cc]) ++ oo = o by rw [List.append_assoc]; show out ++ cc :: oo = o; rw [← ho2]; exact HOo.out)
        have HGt := Lib.hid (HG.out cc.n)
        rw [hg] at HGt
        clear hgk ho2 f2 hg
        have e9 : decide ((40 : Int) < (out.length : Int) + 1 + (r.length : Int)) = false := decide_eq_false (by omega)
        go_wp2_with (first | (refine wp_sub_l' AppI.cell rfl rfl (Kd.S_alloc _ HSr.out) ?hx rfl (by omega) (by rw [List.length_cons]; omega) ?_; (case hx => rw [HN1.out]; rfl); intro v7b hv7 hin; have HIn := Lib.hid (show Far wr (.slice OB out.length oc) v7b from fun k hk => HFr.out k (hin k hk)); have HV7 := Lib.hid (show Kd.cell.S 47 _ v7b r from hv7); obtain ⟨TB3, tc3, rfl, z1, z2, -⟩ := HV7.out; clear hv7 hin)
                           | (go_at_call 86; (with_reducible refine (HGt.out _ (bel_alloc (bel_alloc HBr.out _) _)).mono ?_); rintro e w3 ⟨rv, rfl, hr, hb3⟩; have HB3 := Lib.hid hb3; have HRv := Lib.hid hr; obtain ⟨RA, rc, rfl, y1, y2, -⟩ := hr; have hbx := box3 hb3; have c0 := Lib.cell_of_heap hbx 0; have c1 := Lib.cell_of_heap hbx 1; have c2 := Lib.cell_of_heap hbx 2; clear hb3 hbx)
                           | (at_builtin; refine wp_app AppI.cell rfl rfl (Kd.O_alloc _ (Kd.O_ext HB3.out (Kd.O_alloc _ (Kd.O_alloc _ HOr.out)))) rfl (Kd.S_lit Kd.cell _ (x := cc) (cs := [.int .i64 cc.k, .int .i64 cc.n, .string cc.s]) rfl rfl) rfl ?c1 ?c2 ?_; (case c1 => simp; omega); (case c2 => exact Nat.le_trans HBr.out.size (bel_alloc (bel_trans (bel_alloc (bel_alloc (Below.refl _ wr) _) _) HB3.out) _).size); intro v6b w4 hg; have HGr := Lib.hid hg; obtain ⟨OB2, oc2, rfl, z3, z4, -⟩ := Kd.O_read hg.own; clear hg))
        have hl2 : (out ++ [cc]).length = out.length + 1 := by simp
        have HG2 := HGr.out
        rw [hl2] at HG2
        have HG3 := Lib.hid HG2
        clear HG2 HGr
        go_roundg g2
        case measure => rw [Hgk.out]; omega
        case rel => exact ⟨out ++ [cc], r, oo, HFl2, HOo2, Lib.hid HG3.out.own, Lib.hid (S_far rfl (Kd.S_alloc _ (Kd.S_ext HB3.out (Kd.S_alloc _ HV7.out))) (HIn.out.ext (bel_alloc (bel_trans (bel_alloc (bel_alloc (Below.refl _ wr) _) _) HB3.out) _).size) HG3.out.grown), Lib.hid (Far.grew (HIn.out.ext (bel_alloc (bel_trans (bel_alloc (bel_alloc (Below.refl _ wr) _) _) HB3.out) _).size) HG3.out), Lib.hid (HG3.out.below (bel_alloc (bel_trans HBr.out (bel_trans (bel_alloc (bel_alloc (Below.refl _ wr) _) _) HB3.out)) _) (Kd.O_alloc _ (Kd.O_ext HB3.out (Kd.O_alloc _ (Kd.O_alloc _ HOr.out))))), by rw [hl2]; omega⟩
      · obtain ⟨g2, hgk, f2⟩ : ∃ g2, gk = g2 + 1 ∧ Fl s (u ++ r) g2 o' := by
          have h := HFl.out
          cases h with
          | keep hc f => rw [hc (beq_iff_eq.1 e1)] at hg; cases hg
          | bound hk g f => rw [g] at hg; obtain rfl := Option.some.inj hg; exact ⟨_, rfl, f⟩
        have Hgk := Lib.hid hgk
        have HFl2 := Lib.hid f2
        have hup := HU.out _ _ hg
        have hu0 : 0 < u.length := hup.1
        have hu4 : u.length ≤ 40 := hup.2
        have hge := Lib.hid (Fl_len (fun v u h => (HU.out v u h).1) f2)
        have HGt := Lib.hid (HG.out cc.n)
        rw [hg] at HGt
        have HGt := Lib.hid (show ∀ W, Below w.heap.size w W → Calls Tryz.prog 86 #[.slice SB s.length cS, .int .i64 cc.n] W fun e w' => ∃ r, e = .returned r ∧ Kd.cell.S 47 w' r u ∧ Below W.heap.size W w' from HGt.out)
        clear hgk f2 hg hup
        have hcut : decide ((40 : Int) < (out.length : Int) + ((u.length : Int) + (r.length : Int))) = true ∨ decide ((40 : Int) < (out.length : Int) + ((u.length : Int) + (r.length : Int))) = false := by
          cases decide ((40 : Int) < (out.length : Int) + ((u.length : Int) + (r.length : Int))) <;> simp
        rcases hcut with e9 | e9
        all_goals
          have hq9 := Lib.hid e9
          go_wp2_with (first | (refine wp_sub_l' AppI.cell rfl rfl (Kd.S_alloc _ HSr.out) ?hx rfl (by omega) (by rw [List.length_cons]; omega) ?_; (case hx => rw [HN1.out]; rfl); intro v7b hv7 hin; have HIn := Lib.hid (show Far wr (.slice OB out.length oc) v7b from fun k hk => HFr.out k (hin k hk)); have HV7 := Lib.hid (show Kd.cell.S 47 _ v7b r from hv7); obtain ⟨TB3, tc3, rfl, z1, z2, -⟩ := HV7.out; clear hv7 hin)
                             | (go_at_call 86; (with_reducible refine (HGt.out _ (bel_alloc (bel_alloc HBr.out _) _)).mono ?_); rintro e w3 ⟨rv, rfl, hr, hb3⟩; have HB3 := Lib.hid (bel_trans (bel_alloc (bel_alloc (Below.refl _ wr) _) _) hb3); have HV3 := Lib.hid (Kd.S_ext hb3 (Kd.S_alloc _ HV7.out)); have HRv := Lib.hid hr; obtain ⟨RA, rc, rfl, y1, y2, -⟩ := hr; clear hb3)
                             | (at_builtin; refine wp_app AppI.cell rfl rfl (Kd.O_empty Kd.cell _ w3 (Nat.le_refl _)) rfl (Kd.S_alloc _ HRv.out) rfl ?c1 ?c2 ?_; (case c1 => simp; omega); (case c2 => exact (bel_alloc (Below.refl _ w3) _).size); intro v8 w5 hg5; have HG5 := Lib.hid hg5; have HB5 := Lib.hid (hg5.below (bel_alloc (Below.refl _ w3) _) (Kd.O_empty Kd.cell _ w3 (Nat.le_refl _))); clear hg5)
                             | (at_builtin; refine wp_app AppI.cell rfl rfl HG5.out.own rfl (Kd.S_ext HB5.out HV3.out) rfl ?c1 ?c2 ?_; (case c1 => simp; omega); (case c2 => exact HB5.out.size); intro v9 w6 hg6; have HB6 := Lib.hid (hg6.below HB5.out HG5.out.own); have HO6 := Lib.hid (show Kd.cell.O 47 w6 w3.heap.size v9 (u ++ r) from hg6.own); obtain ⟨NB, nc, rfl, n1, n2, -⟩ := Kd.O_read HO6.out; clear hg6))
        · go_ret2
          exact .no (by
              have h1 := of_decide_eq_true hq9.out
              have h2 := hge.out
              rw [← HOo.out, List.length_append]
              rw [List.length_append] at h2
              omega) (Kd.O_empty Kd.cell _ w6 (Nat.le_trans HBr.out.size (Nat.le_trans HB3.out.size HB6.out.size))) (bel_alloc (bel_trans HBr.out (bel_trans HB3.out HB6.out)) _)
        · have hl2 : (u ++ r).length = u.length + r.length := List.length_append
          have h6 := HO6.out
          rw [hl2] at h6
          have H6 := Lib.hid h6
          clear h6
          go_roundg g2
          case measure => rw [Hgk.out]; omega
          case rel => exact ⟨out, u ++ r, o', HFl2, HOo, Lib.hid (Kd.O_ext (bel_trans HB3.out HB6.out) HOr.out), Lib.hid (by have := Kd.O_read H6.out; exact this), Lib.hid (fun k hk => by
              have h1 := Kd.O_lt H6.out k hk
              refine ⟨fun e => ?_, h1.2⟩
              have h2 := (Kd.O_lt HOr.out k e).2
              have h3 := HB3.out.size
              omega), Lib.hid (bel_trans HBr.out (bel_trans HB3.out HB6.out)), by have := of_decide_eq_false hq9.out; rw [hl2]; omega⟩
end Go.Proofs.YtjglbadkbhopoaaGreatDoor
namespace Go.Proofs.YtjglbadkbhopoaaGreatDoor
open Go.RowKit
set_option maxRecDepth 100000
set_option maxHeartbeats 2000000
set_option linter.unusedVariables false
end Go.Proofs.YtjglbadkbhopoaaGreatDoor
namespace Go.Proofs.YtjglbadkbhopoaaGreatDoor
open Go.RowKit
set_option linter.unusedVariables false
set_option maxRecDepth 100000
theorem kInt : Go.Maps.Keyed Tryz.prog 3 := Go.Maps.int_keyed Tryz.underlying3
def Seen (w : World) (b : Nat) (S : List Int) : Prop :=
  ∃ D : DataW Unit, w.ownsMap Tryz.prog 3 (plainElem Tryz.prog 4) b S.length D ∧ Go.Maps.IsMap D ∧ ∀ x : Int, D.atKey (.int .i64 x) (.lit (.bool false)) = .lit (.bool (decide (x ∈ S)))
theorem Seen.made (w : World) : Seen (w.alloc (.map #[] 0)) w.heap.size [] :=
  ⟨.map [], World.ownsMap_made w _ _ _, Go.Maps.isMap_empty, fun x => by simp [DataW.atKey]⟩
theorem Seen.kept {w w' : World} {b : Nat} {S : List Int} {row : Option Nat} (h : Seen w b S) (hg : w.grownBy w' row) (hne : some b ≠ row) : Seen w' b S := by
  obtain ⟨D, h1, h2, h3⟩ := h
  exact ⟨D, h1.kept hg hne, h2, h3⟩
theorem Seen.ext {w w' : World} {b : Nat} {S : List Int} (h : Seen w b S) (hb : Below w.heap.size w w') : Seen w' b S :=
  h.kept (row := none) ⟨hb.os, hb.tape, hb.output, hb.size, fun i hi _ => hb.block i hi⟩ (by simp)
theorem Seen.map {w : World} {b : Nat} {S : List Int} (h : Seen w b S) : ∃ es c, w.heap[b]? = some (.map es c) := by
  obtain ⟨D, ⟨es, c, h1, -⟩, -⟩ := h; exact ⟨es, c, h1⟩
theorem wf_i64 {x : Int} (h0 : -1000000000 ≤ x) (h1 : x ≤ 1000000000) : (Lit.int .i64 x).wf = true := WalkArith.wf_i64 (by omega)
theorem wp_seen_look {P : Program} (hP : P = Tryz.prog) {w : World} {ops : Array Oper} {rest : List Oper} {o : Oper} {a : Act} {Q : Exit → Act → World → Prop} (hgd : o.guard = none) {m x : Operand} (ho : o.op = .lookup 148 m x false)
    {b : Nat} {S : List Int} (h : Seen w b S) (hm : a.eval m = .map (some b)) {n : Int} (hx : a.eval x = .int .i64 n) (h0 : -1000000000 ≤ n) (h1 : n ≤ 1000000000)
    (k : wpList P ops Q rest (a.put o.dst (.bool (decide (n ∈ S)))) w) : wpList P ops Q (o :: rest) a w := by
  subst hP
  refine wpList_plain hgd fun K hK => ?_
  obtain ⟨D, h2, h3, h4⟩ := h
  obtain ⟨v, ps, hrun, hv⟩ := h2.lookup kInt Tryz.underlying148 (z := .bool false) (Tryz.zeroValue4 w) (plainElem_bool Tryz.underlying4 false) (Go.Maps.keyOf_int_mk Tryz.underlying3 (wf_i64 h0 h1))
  rw [h4 n] at hv
  have he : v = .bool (decide (n ∈ S)) := by
    unfold plainElem at hv
    rw [Tryz.underlying4] at hv
    cases v <;> simp at hv
    rw [hv.1]
  subst he
  unfold Oper.wp
  simp [execOp, ho, hm, hx, hrun, Result.andThen]
  exact hK _ _ k
theorem wp_seen_put {P : Program} (hP : P = Tryz.prog) {w : World} {ops : Array Oper} {rest : List Oper} {o : Oper} {a : Act} {Q : Exit → Act → World → Prop} (hgd : o.guard = none) {m x v : Operand} (ho : o.op = .mapUpdate 148 m x v)
    {b : Nat} {S : List Int} (h : Seen w b S) (hm : a.eval m = .map (some b)) {n : Int} (hx : a.eval x = .int .i64 n) (hv : a.eval v = .bool true) (h0 : -1000000000 ≤ n) (h1 : n ≤ 1000000000) (hl : S.length ≤ 1000000000)
    (k : ∀ w', Seen w' b (S ++ [n]) → w.grownBy w' (some b) → wpList P ops Q rest (a.put o.dst undef) w') : wpList P ops Q (o :: rest) a w := by
  subst hP
  obtain ⟨D, h2, h3, h4⟩ := h
  refine wpList_mapUpdate_own w hgd m x v _ ho 3 4 kInt Tryz.underlying148 _ b S.length D hm h2 (by unfold maxLen; omega) _ _ _ hx hv (Go.Maps.keyOf_int_mk Tryz.underlying3 (wf_i64 h0 h1)) _ [] (plainElem_bool Tryz.underlying4 true) (fun w' a1 a2 => k w' ⟨_, by rw [List.length_append]; exact a1, h3.put _ _, fun y => ?_⟩ a2)
  by_cases e : y = n
  · subst e
    rw [Go.Maps.atKey_put_same h3 (by trivial)]; simp
  · rw [Go.Maps.atKey_put_other (by simpa using e), h4 y]
    congr 2
    simp [e]
theorem grown_keep {w w' : World} {b : Nat} {S : List Int} (h : Seen w b S) (hg : w.grownBy w' (some b)) (E : List Nat) : Keep E w w' := fun k cells q fz hk hq => by
  refine hg.block k (Array.getElem?_eq_some_iff.1 hk).1 (fun e => ?_)
  obtain ⟨es, c, hm⟩ := h.map
  rw [Option.some.inj e, hm] at hk
  cases hk
theorem grown_O {α : Type} {d : Kd α} {w w' : World} {b e base : Nat} {S : List Int} {v : Value} {xs : List α} (h : Seen w b S) (hg : w.grownBy w' (some b)) (ho : d.O e w base v xs) : d.O e w' base v xs := by
  refine Kd.O_mov (grown_keep h hg _) (fun k hk => ?_) ho
  obtain ⟨c, hc⟩ := Kd.O_typed ho k hk
  exact grown_keep h hg [e] k c e _ hc List.mem_cons_self
theorem grown_C {α : Type} {d : Kd α} {w w' : World} {b e : Nat} {S : List Int} {A : Option Addr} {xs : List α} (h : Seen w b S) (hg : w.grownBy w' (some b)) (ho : d.C e w A xs) : d.C e w' A xs := Kd.C_mov (grown_keep h hg _) ho
theorem grown_of_below {w w' : World} (hb : Below w.heap.size w w') (row : Option Nat) : w.grownBy w' row := ⟨hb.os, hb.tape, hb.output, hb.size, fun i hi _ => hb.block i hi⟩
end Go.Proofs.YtjglbadkbhopoaaGreatDoor
namespace Go.Proofs.YtjglbadkbhopoaaGreatDoor
open Go.RowKit
set_option linter.unusedVariables false
theorem Kd.O_base {α : Type} {d : Kd α} {e base base' : Nat} {w : World} {v : Value} {xs : List α} (h : d.O e w base v xs) (hb : base' ≤ base) : d.O e w base' v xs := by
  obtain ⟨cs, ⟨h0, h1⟩, h2⟩ := h
  refine ⟨cs, ⟨h0, ?_⟩, h2⟩
  rcases h1 with h1 | ⟨g, cap, cur, rfl, r1, r2⟩
  · exact .inl h1
  · exact .inr ⟨g, cap, cur, rfl, Nat.le_trans hb r1, r2⟩
def Kd.F {α : Type} (d : Kd α) (e : Nat) (w : World) (b : Nat) (v : Value) (xs : List α) : Prop := d.O e w b v xs ∨ (d.S e w v xs ∧ ∃ A, v = .slice A xs.length xs.length)
section
variable {α : Type} {d : Kd α} {e b : Nat} {w w' : World} {v : Value} {xs : List α}
theorem Kd.F_read (h : d.F e w b v xs) : d.S e w v xs := h.elim Kd.O_read (·.1)
theorem Kd.F_ext (hb : Below w.heap.size w w') (h : d.F e w b v xs) : d.F e w' b v xs := h.imp (Kd.O_ext hb) (fun h => ⟨Kd.S_ext hb h.1, h.2⟩)
theorem Kd.F_nil (d : Kd α) (e : Nat) (w : World) (b : Nat) : d.F e w b (.slice none 0 0) [] := .inl (Kd.O_nil d e w b)
theorem wp_app_F {P : Program} {t : TypeId} {w : World} {d : Kd α} {e : TypeId} {xs : List α} {v : Value} (I : AppI P t e d) {ops : Array Oper} {rest : List Oper} {o : Oper} {a : Act} {Q : Exit → Act → World → Prop} (hgd : o.guard = none) {s x : Operand}
    (ho : o.op = .call { callee := .builtin .append, args := #[s, x], argTypes := #[t, t] })
    (hf : d.F e w b v xs) (hs : a.eval s = v) {xv : Value} {ys : List α} (hy : d.S e w xv ys) (hx : a.eval x = xv) (hne : ys ≠ [])
    (hlen : xs.length + ys.length ≤ 1000000000) (hb : b ≤ w.heap.size)
    (h : ∀ v' w', d.O e w' b v' (xs ++ ys) → Wrote b e w w' → wpList P ops Q rest (a.put o.dst v') w') : wpList P ops Q (o :: rest) a w := by
  rcases hf with hf | ⟨hS, A, rfl⟩
  · exact wp_app I hgd ho hf hs hy hx hlen hb (fun v' w' hg => h v' w' hg.own (.grew hg hf hb))
  · cases A with
    | none =>
      obtain ⟨A', c', ev, _, _, hC⟩ := hS
      injection ev with e1 _ _
      subst e1
      obtain rfl : xs = [] := by
        cases xs with
        | nil => rfl
        | cons y ys => obtain ⟨_, _, _, _, ea, _⟩ := hC 0 y rfl; cases ea
      have hf : d.O e w b (.slice none 0 0) ([] : List α) := Kd.O_nil _ _ _ _
      exact wp_app I hgd ho hf hs hy hx hlen hb (fun v' w' hg => h v' w' hg.own (.grew hg hf hb))
    | some ad =>
      obtain ⟨z, bytes, hi, hz, hby⟩ := I.info
      obtain ⟨i, hi, hz1, hs1, hb1⟩ := info_parts hi
      obtain ⟨A', c', ev, _, _, hC⟩ := hS
      injection ev with e1 _ _
      subst e1
      obtain ⟨Y, cy, rfl, hy1, hy2, hCY⟩ := hy
      cases Y with
      | none =>
        exfalso
        cases ys with
        | nil => exact hne rfl
        | cons y ys => obtain ⟨_, _, _, _, ea, _⟩ := hCY 0 y rfl; cases ea
      | some ay =>
        obtain ⟨olds, o1, o2, o3, o4⟩ := Kd.C_cells w hC
        obtain ⟨news, n1, n2, n3, n4⟩ := Kd.C_cells w hCY
        have hpos : 0 < ys.length := List.length_pos_iff.2 hne
        obtain ⟨v', w', hrun, hown, hgr⟩ := run_append_arg_grows (P := P) w t o.type e i z d.sz bytes I.und hi hz1 hs1 hb1 hz I.pos ad xs.length xs.length olds o1 o2 ay ys.length cy news n1 n2 (by omega) (by unfold maxLen; omega) (Nat.le_trans (Nat.mul_le_mul hlen hby) (by decide))
        have hB : Below w.heap.size w w' := ⟨hgr.os, hgr.tape, hgr.output, hgr.size, fun k hk => hgr.block k hk (by simp)⟩
        refine wpList_plain hgd fun K hK => ?_
        unfold Oper.wp execOp
        simp only [ho, resolve, invoke, builtin, Sem.run_bind, Sem.run_pure, Result.andThen_ok, List.map_toArray, List.map_cons, List.map_nil, hs, hx, hrun]
        refine hK _ _ (h v' w' (Kd.O_base ⟨olds ++ news, by rw [List.length_append]; exact hown, fun i x hx => d.mov (Keep.of_below hB) (Reps.snoc o1 o4 n4 i x hx)⟩ hb) (.of_below hb hB))
end
theorem wp_region_class {P : Program} {C : World → Prop} {id : Nat} {Q : Exit → Act → World → Prop} {a : Act} {w : World} {l : List Oper} (hm : P.follows .mixedOrders = true) (hB : Region.lexB .any l.toArray = true) (hC : C w.drew)
    (h : wpQuiet P l.toArray C (fun a' => ∀ w', C w' → Q .normal a' w') l a) : (Code.region id l.toArray true).wp P Q a w := wp_region_quiet (C := C) hm hB hC (by simpa using h)
theorem quiet_load {P : Program} {C : World → Prop} {K : Act → Prop} {a : Act} {o : Oper} {t : TypeId} {x : Operand} {ad : Addr} {v : Value} (ho : o.op = .load t x) (hx : a.eval x = .pointer (some ad))
    (h1 : ∀ W, C W → (Instr.loadAt t (.pointer (some ad))).run P W = .ok v W) (hk : K (a.put o.dst v)) : o.quiet P a C K :=
  ⟨v, fun W hW => by
    unfold Oper.quietAt execOp
    simp only [ho, hx, Sem.run_bind, Sem.run_pure, h1 W hW, Result.andThen_ok]
    exact ⟨rfl, rfl⟩, hk⟩
theorem quiet_cell {P : Program} {C : World → Prop} {K : Act → Prop} {a : Act} {o : Oper} {t : TypeId} {x : Operand} {ad : Addr} {v : Value} (ho : o.op = .load t x) (hx : a.eval x = .pointer (some ad))
    (h1 : ∀ W v, W.cell? ad = some v → (Instr.loadAt t (.pointer (some ad))).run P W = .ok v W) (h2 : ∀ W, C W → W.cell? ad = some v) (hk : K (a.put o.dst v)) : o.quiet P a C K := quiet_load ho hx (fun W hW => h1 W v (h2 W hW)) hk
theorem Kd.O_put {α : Type} {d : Kd α} {e base : Nat} {w : World} {v : Value} {xs : List α} (h : d.O e w base v xs) (hE : ∀ q ∈ d.E, q ≠ e) {i : Nat} {x : α} (hi : xs[i]? = some x) :
    ∃ ad cap, v = .slice (some ad) xs.length cap ∧ base ≤ ad.block ∧ (∀ j, j < d.sz → w.frozen? ⟨(ad.add (i * d.sz)).block, (ad.add (i * d.sz)).off + j, none⟩ = false) ∧
      ∀ j, j < d.sz → ∀ u x', u.oneCell' = true → (∀ cs, d.K w x cs → d.K w x' (cs.set j u)) → d.O e (w.setCell ⟨(ad.add (i * d.sz)).block, (ad.add (i * d.sz)).off + j, none⟩ u) base v (xs.set i x') ∧ KeepBut e w (w.setCell ⟨(ad.add (i * d.sz)).block, (ad.add (i * d.sz)).off + j, none⟩ u) := by
  obtain ⟨cs, ⟨h0, h1⟩, h2⟩ := h
  have hil := (List.getElem?_eq_some_iff.1 hi).1
  rcases h1 with ⟨_, hn⟩ | ⟨g, cap, cur, rfl, r1, r2, r3, r4, r5, r6⟩
  · omega
  · have ea : ∀ j, (⟨((⟨g, 0, none⟩ : Addr).add (i * d.sz)).block, ((⟨g, 0, none⟩ : Addr).add (i * d.sz)).off + j, none⟩ : Addr) = ⟨g, i * d.sz + j, none⟩ := fun j => by unfold Addr.add; split <;> simp_all
    refine ⟨⟨g, 0, none⟩, cap, rfl, r1, fun j _ => by rw [ea]; exact frozen_of_row w g _ cur e r2, fun j hj u x' hu hK => ?_⟩
    rw [ea]
    have hblk := heap_setCell_same w g (i * d.sz + j) cur e u r2
    have hkb : KeepBut e w (w.setCell ⟨g, i * d.sz + j, none⟩ u) := fun k c q f hk hq => by
      refine heap_setCell_other w _ k u (fun he => ?_)
      rw [show k = g from he, r2] at hk
      injection hk with hk
      injection hk with _ ht
      exact hq ht.symm
    have hlt : i * d.sz + j < cs.length := by
      rw [h0]
      have : i * d.sz + d.sz ≤ xs.length * d.sz := by rw [← Nat.succ_mul]; exact Nat.mul_le_mul_right _ hil
      omega
    refine ⟨⟨cs.set (i * d.sz + j) u, ⟨by rw [List.length_set, List.length_set]; exact h0, .inr ⟨g, cap, cur.setIfInBounds (i * d.sz + j) u, by rw [List.length_set], r1, hblk, by rw [List.length_set]; exact r3, r4, by rw [Array.size_setIfInBounds]; exact r5, ?_⟩⟩, fun k y hy => ?_⟩, hkb⟩
    · rw [List.length_set, Array.toList_setIfInBounds, ← r6]
      rw [List.take_set]
    · by_cases hki : k = i
      · subst hki
        rw [List.getElem?_set_self hil] at hy
        obtain rfl := Option.some.inj hy
        have hseg : (((cs.set (k * d.sz + j) u).drop (k * d.sz)).take d.sz) = ((cs.drop (k * d.sz)).take d.sz).set j u := by
          rw [List.drop_set, if_neg (by omega), Nat.add_sub_cancel_left, List.take_set]
        rw [hseg]
        exact d.mov (hkb.keep hE) (hK _ (h2 k x hi))
      · rw [List.getElem?_set_ne (Ne.symm hki)] at hy
        have hseg : (((cs.set (i * d.sz + j) u).drop (k * d.sz)).take d.sz) = (cs.drop (k * d.sz)).take d.sz := by
          rcases Nat.lt_or_ge k i with hlt' | hge
          · have : k * d.sz + d.sz ≤ i * d.sz := by rw [← Nat.succ_mul]; exact Nat.mul_le_mul_right _ hlt'
            rw [List.drop_set, if_neg (by omega), List.take_set]
            rw [List.set_eq_of_length_le]
            rw [List.length_take]; omega
          · have : i * d.sz + d.sz ≤ k * d.sz := by rw [← Nat.succ_mul]; exact Nat.mul_le_mul_right _ (by omega)
            rw [List.drop_set, if_pos (by omega)]
        rw [hseg]
        exact d.mov (hkb.keep hE) (h2 k y hy)
theorem KeepBut.below_put {b e : Nat} {w : World} {a : Addr} {u : Value} (h : KeepBut e w (w.setCell a u)) (ha : b ≤ a.block) (hb : b ≤ w.heap.size) : Wrote b e w (w.setCell a u) := ⟨(Below.refl _ _).setCell ha _, h⟩
end Go.Proofs.YtjglbadkbhopoaaGreatDoor
