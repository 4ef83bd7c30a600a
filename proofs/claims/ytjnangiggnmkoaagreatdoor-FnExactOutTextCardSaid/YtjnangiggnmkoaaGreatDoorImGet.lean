/- Contract: the program's look for what a variable is bound to, the last binding first: a range over a function. -/
import Derived.RangeFuncNested
import Derived.RangeFuncBound
import Derived.RangeFuncCalls
import Derived.RangeFuncLeaves
import Derived.RangeFuncBox
import Derived.Shelf.Abstract
import Derived.Shelf.RegionOpen
import Derived.WalkKit
import Derived.OwnWalkIn
import Derived.TacticsInMore
import Derived.LoopNIn
import Derived.LoopIn
import Derived.Test.YtjnangiggnmkoaaGreatDoorCUniS
namespace Go.Proofs.YtjnangiggnmkoaaGreatDoor
open Go.RowKit Go.Shelf
set_option maxRecDepth 100000
set_option maxHeartbeats 2000000
set_option linter.unusedVariables false
attribute [local go_sem] Oper.semAt_some
/-- What has come when all but m are left: from the last on down. -/
def dn (len m : Nat) : List Nat := (List.range (len - m)).map (fun k => len - 1 - k)
theorem dn_len (len m : Nat) : (dn len m).length = len - m := by unfold dn; simp
theorem dn_start (len : Nat) : dn len len = [] := by unfold dn; simp
theorem dn_step {len m : Nat} (h : m < len) : dn len m = dn len (m + 1) ++ [m] := by
  unfold dn
  have e : len - m = (len - (m + 1)) + 1 := by omega
  rw [e, List.range_succ, List.map_append]
  congr 1
  simp; omega
theorem dn_mem {len m j : Nat} : j ∈ dn len m ↔ m ≤ j ∧ j < len := by
  unfold dn
  rw [List.mem_map]
  constructor
  · rintro ⟨k, hk, rfl⟩; rw [List.mem_range] at hk; omega
  · rintro ⟨h1, h2⟩; exact ⟨len - 1 - j, by rw [List.mem_range]; omega, by omega⟩
def bEnc (vs : Nat → Int) (bs : Nat → Option Addr) (ns ks : Nat → Nat) (j : Nat) : Array Value := #[.int .i64 (j : Int), .agg #[.int .i64 (vs j), .slice (bs j) (ns j) (ks j)]]
theorem back1_in (F : Fence) (n : Nat) (h7 : F.fn 135) (hro : F.round = none) (hn : 1 ≤ n) (len : Nat) (l Bs n₀ : Nat) (A : Option Addr) (ad : Addr) (hA : 0 < len → A = some ad) (cap : Nat) (vs : Nat → Int) (bs : Nat → Option Addr) (ns ks : Nat → Nat) (hlen : len ≤ 1000000000) (hb : ad.block < n₀) (J Jx : List Nat → World → Prop)
    (hY : ∀ pre x W, J pre W → pre.length < len → YieldAt F (n - 1) Tryz.prog l (bEnc vs bs ns ks x) W fun e W' =>
      (e = .returned (.bool true) ∧ J (pre ++ [x]) W' ∧ Below n₀ W W') ∨ (e = .returned (.bool false) ∧ Jx (pre ++ [x]) W'))
    (W : World) (hBs : W.cell? ⟨Bs, 0, none⟩ = some (.slice A len cap)) (hBn : Bs < n₀)
    (hc1 : ∀ j, j < len → W.cell? (ad.add (j * 2)) = some (.int .i64 (vs j))) (hc2 : ∀ j, j < len → W.cell? ⟨(ad.add (j * 2)).block, (ad.add (j * 2)).off + 1, none⟩ = some (.slice (bs j) (ns j) (ks j))) (h0 : J [] W) :
    CallsIn F n Tryz.prog 135 #[.func (.yield l) #[] #[], .pointer (some ⟨Bs, 0, none⟩)] W fun e W' => (∃ v, e = .returned v) ∧
      ((∃ ys, ys = dn len 0 ∧ J ys W') ∨ (∃ pre, (∃ k, k ≤ len ∧ pre = dn len k) ∧ Jx pre W')) := by
  refine callsIn_of_wp Tryz.func135 rfl h7 ?_ hro
  simp only [Tryz.ntmps135, List.size_toArray, List.length_cons, List.length_nil, Nat.reduceAdd, Nat.reduceSub, Array.replicate_succ, Array.replicate_zero, List.push_toArray, List.append_toArray, List.nil_append, List.cons_append]
  have HC1 := Lib.hid hc1
  have HC2 := Lib.hid hc2
  have HBS := Lib.hid hBs
  clear hc1 hc2
  gi_wp2
  clear hBs
  gi_loopw [3] (fun i wr => ∃ m : Nat, m ≤ len ∧ i = .int .i64 ((m : Int) - 1) ∧ J (dn len m) wr ∧ Hid (Below n₀ W wr))
    (fun i _ => (intOf i + 1).toNat)
  case atStart => exact ⟨len, Nat.le_refl _, rfl, by rw [dn_start]; exact h0, Lib.hid (Below.refl _ _)⟩
  case round =>
    obtain ⟨m, hm, rfl, hJs, hnx⟩ := hrel
    have hBs' := (hnx.out.cell (p := ⟨Bs, 0, none⟩) hBn).trans HBS.out
    cases m with
    | zero =>
      gi_wp2
      go_end0
      exact ⟨⟨_, rfl⟩, .inl ⟨_, rfl, hJs⟩⟩
    | succ m =>
      obtain rfl := hA (by omega)
      obtain ⟨fn, tmps, assign, body, hy, hR⟩ := hY _ m wr hJs (by rw [dn_len]; omega)
      unfold bEnc at hy
      have d1 := (hnx.out.cell (p := ad.add (m * 2)) (by rw [add_block]; exact hb)).trans (HC1.out m (by omega))
      have d2 := (hnx.out.cell (p := ⟨(ad.add (m * 2)).block, (ad.add (m * 2)).off + 1, none⟩) (by rw [add_block]; exact hb)).trans (HC2.out m (by omega))
      gi_wp2
      refine hR.mono ?_
      rintro e W3 (⟨rfl, hJ3, hk3⟩ | ⟨rfl, hJx3⟩)
      · gi_wp2
        go_roundw
        case rel => exact ⟨m, by omega, by simp, by rw [dn_step (by omega)]; exact hJ3, Lib.hid (hnx.out.trans hk3)⟩
        case measure => simp [intOf]
      · gi_wp2
        refine bodyPost_ret (results_none rfl _ _ _) rfl ?_
        exact ⟨⟨_, rfl⟩, .inr ⟨_, ⟨m, by omega, (dn_step (by omega)).symm⟩, hJx3⟩⟩
theorem backward_in (F : Fence) (n : Nat) (h5 : F.fn 108) (hro : F.round = none) (a : Option Addr) (len cap : Nat) (w : World) :
    CallsIn F n Tryz.prog 108 #[.slice a len cap] w fun e w' => e = .returned (.func (.func 135) #[] #[.pointer (some ⟨w.heap.size, 0, none⟩)]) ∧ w' = w.alloc (.cells #[.slice a len cap] 64) := by
  refine callsIn_of_wp Tryz.func108 rfl h5 ?_ hro
  simp only [Tryz.ntmps108, List.size_toArray, List.length_cons, List.length_nil, Nat.reduceAdd, Nat.reduceSub, Array.replicate_succ, Array.replicate_zero, List.push_toArray, List.append_toArray, List.nil_append, List.cons_append]
  gi_wp2
  go_ret
  exact ⟨rfl, rfl⟩
theorem back_stops (F : Fence) (n : Nat) (h7 : F.fn 135) (hro : F.round = none) (hn : 1 ≤ n) (len : Nat) (Bs n₀ : Nat) (A : Option Addr) (ad : Addr) (hA : 0 < len → A = some ad) (cap : Nat) (vs : Nat → Int) (bs : Nat → Option Addr) (ns ks : Nat → Nat) (hlen : len ≤ 1000000000) (hb : ad.block < n₀) (hBn : Bs < n₀)
    (w : World) (hn₀ : n₀ ≤ w.heap.size) (hBs : w.cell? ⟨Bs, 0, none⟩ = some (.slice A len cap))
    (hc1 : ∀ j, j < len → w.cell? (ad.add (j * 2)) = some (.int .i64 (vs j))) (hc2 : ∀ j, j < len → w.cell? ⟨(ad.add (j * 2)).block, (ad.add (j * 2)).off + 1, none⟩ = some (.slice (bs j) (ns j) (ks j))) :
    SeqStopsK F n Tryz.prog 135 #[.pointer (some ⟨Bs, 0, none⟩)] (fun j => bEnc vs bs ns ks j) (Below n₀) (fun ys => ys = dn len 0) (fun pre => ∃ k, k ≤ len ∧ pre = dn len k) len w := fun l J Jx W hW _ _ hY h0 =>
  back1_in F n h7 hro hn len l Bs n₀ A ad hA cap vs bs ns ks hlen hb J Jx hY W ((hW.cell (p := ⟨Bs, 0, none⟩) (show Bs < w.heap.size by omega)).trans hBs) hBn
    (fun j hj => (hW.cell (p := ad.add (j * 2)) (by rw [add_block]; omega)).trans (hc1 j hj)) (fun j hj => (hW.cell (p := ⟨(ad.add (j * 2)).block, (ad.add (j * 2)).off + 1, none⟩) (show (ad.add (j * 2)).block < w.heap.size by rw [add_block]; omega)).trans (hc2 j hj)) h0
/-- What get gives back: nil, or a term. -/
def GetPost (w : World) (g : Option Trm) (e : Ending) (w' : World) : Prop := ∃ r, e = .returned r ∧ Below w.heap.size w w' ∧ match g with
  | none => r = .slice none 0 0
  | some t => Kd.cell.S 47 w' r t
theorem getB_nodup {s : Binds} (h : (s.map (·.1)).Nodup) {j : Nat} {b : Int × Trm} (hj : s[j]? = some b) : getB s b.1 = some b.2 := by
  refine getB_hit hj rfl (fun i b' hi hb' he => ?_)
  obtain ⟨hl, e1⟩ := List.getElem?_eq_some_iff.1 hj
  obtain ⟨hl', e2⟩ := List.getElem?_eq_some_iff.1 hb'
  have := List.pairwise_iff_getElem.1 h i j (by rw [List.length_map]; exact hl') (by rw [List.length_map]; exact hl) hi
  rw [List.getElem_map, List.getElem_map, e1, e2] at this
  exact this he
theorem getI_in (F : Fence) (n : Nat) (h91 : F.fn 91) (h108 : F.fn 108) (h135 : F.fn 135) (hro : F.round = none) (hn : 3 ≤ n) (s : Binds) (A : Option Addr) (c : Nat) (v : Int) (w : World) (h : Kd.bind.C 115 w A s) (hl : s.length ≤ 1000000000) (hnd : (s.map (·.1)).Nodup) :
    CallsIn F n Tryz.prog 91 #[.slice A s.length c, .int .i64 v] w (GetPost w (getB s v)) := by
  have h1n : 1 ≤ n := by omega
  obtain ⟨ad, hA, hadb⟩ : ∃ ad : Addr, (0 < s.length → A = some ad) ∧ (ad.block < w.heap.size + 1) := by
    cases s with
    | nil => exact ⟨⟨0, 0, none⟩, fun h => by simp at h, by simp⟩
    | cons b s =>
      obtain ⟨ad, B, k, rfl, h1, _⟩ := bind_at h (i := 0) rfl
      have := World.block_lt_of_cell? w _ h1
      rw [add_block] at this
      exact ⟨ad, fun _ => rfl, by omega⟩
  obtain ⟨p, hp⟩ := Classical.skolem.1 (fun j : Nat => (by
    cases hj : s[j]? with
    | none => exact ⟨(0, none, 0, 0), fun b hb => by cases hb⟩
    | some b =>
      obtain ⟨ad', B, k, ea, h1, h2, h3, h4, h5⟩ := bind_at h hj
      refine ⟨(b.1, B, b.2.length, k), fun b' hb' => ?_⟩
      obtain rfl := Option.some.inj hb'
      have hlt := (List.getElem?_eq_some_iff.1 hj).1
      rw [hA (by omega)] at ea
      injection ea with ea
      subst ea
      exact ⟨rfl, h1, h2, ⟨B, k, rfl, h3, h4, h5⟩⟩ : ∃ p : Int × Option Addr × Nat × Nat, ∀ b, s[j]? = some b → p.1 = b.1 ∧ w.cell? (ad.add (j * 2)) = some (.int .i64 p.1) ∧ w.cell? ⟨(ad.add (j * 2)).block, (ad.add (j * 2)).off + 1, none⟩ = some (.slice p.2.1 p.2.2.1 p.2.2.2) ∧ Kd.cell.S 47 w (.slice p.2.1 p.2.2.1 p.2.2.2) b.2))
  obtain ⟨vs, hvs⟩ : ∃ f : Nat → Int, f = fun j => (p j).1 := ⟨_, rfl⟩
  obtain ⟨bs, hbs⟩ : ∃ f : Nat → Option Addr, f = fun j => (p j).2.1 := ⟨_, rfl⟩
  obtain ⟨ns, hns⟩ : ∃ f : Nat → Nat, f = fun j => (p j).2.2.1 := ⟨_, rfl⟩
  obtain ⟨ks, hks⟩ : ∃ f : Nat → Nat, f = fun j => (p j).2.2.2 := ⟨_, rfl⟩
  have HP : ∀ j b, s[j]? = some b → vs j = b.1 ∧ w.cell? (ad.add (j * 2)) = some (.int .i64 (vs j)) ∧ w.cell? ⟨(ad.add (j * 2)).block, (ad.add (j * 2)).off + 1, none⟩ = some (.slice (bs j) (ns j) (ks j)) ∧ Kd.cell.S 47 w (.slice (bs j) (ns j) (ks j)) b.2 := by
    subst hvs; subst hbs; subst hns; subst hks; exact hp
  clear hp hvs hbs hns hks p
  have hx1 : ∀ j, j < s.length → w.cell? (ad.add (j * 2)) = some (.int .i64 (vs j)) := fun j hj => (HP j _ (List.getElem?_eq_getElem hj)).2.1
  have hx2 : ∀ j, j < s.length → w.cell? ⟨(ad.add (j * 2)).block, (ad.add (j * 2)).off + 1, none⟩ = some (.slice (bs j) (ns j) (ks j)) := fun j hj => (HP j _ (List.getElem?_eq_getElem hj)).2.2.1
  have HX1 := Lib.hid hx1
  have HX2 := Lib.hid hx2
  have HPh := Lib.hid HP
  have HAh := Lib.hid hA
  have HN := Lib.hid hnd
  obtain ⟨len, hlen⟩ : ∃ len, s.length = len := ⟨_, rfl⟩
  have HL := Lib.hid hlen
  rw [hlen] at HX1 HX2 HAh hl ⊢
  clear hx1 hx2 HP hA hnd h hlen
  refine callsIn_of_wp_marks Tryz.func91 rfl h91 ?_ hro
  simp only [Tryz.ntmps91, List.size_toArray, List.length_cons, List.length_nil, Nat.reduceAdd, Nat.reduceSub, Array.replicate_succ, Array.replicate_zero, List.push_toArray, List.append_toArray, List.nil_append, List.cons_append]
  gi_wp2_with (gi_at_call 108; refine (backward_in F (n - 1) h108 hro _ _ _ _).mono ?_; rintro e w' ⟨rfl, rfl⟩)
  have bV := ((Boxed.new w 3 (.int .i64 v)).alloc (.cells #[.slice none 0 0] 28)).alloc (.cells #[.slice A len c] 64)
  have bR := (Boxed.new (w.alloc (.cells #[.int .i64 v] 3)) 28 (.slice none 0 0)).alloc (.cells #[.slice A len c] 64)
  have bS := Boxed.new ((w.alloc (.cells #[.int .i64 v] 3)).alloc (.cells #[.slice none 0 0] 28)) 64 (.slice A len c)
  simp only [World.size_alloc] at bV bR bS
  have hB0 : Below w.heap.size w (((w.alloc (.cells #[.int .i64 v] 3)).alloc (.cells #[.slice none 0 0] 28)).alloc (.cells #[.slice A len c] 64)) := (((Below.refl _ w).alloc (Nat.le_refl _) _).alloc (by simp) _).alloc (by simp; omega) _
  have hsz : (((w.alloc (.cells #[.int .i64 v] 3)).alloc (.cells #[.slice none 0 0] 28)).alloc (.cells #[.slice A len c] 64)).heap.size = w.heap.size + 3 := by simp
  obtain ⟨W0, hW0⟩ : ∃ W0, ((w.alloc (.cells #[.int .i64 v] 3)).alloc (.cells #[.slice none 0 0] 28)).alloc (.cells #[.slice A len c] 64) = W0 := ⟨_, rfl⟩
  rw [hW0] at bV bR bS hB0 hsz ⊢
  clear hW0
  refine wpIn_rangeFunc_ownH hro h1n (gf := 135) (lb := #[.pointer (some ⟨w.heap.size + 1 + 1, 0, none⟩)]) rfl h135 (enters_of Tryz.func135 (by kernel_rfl) rfl)
    (back_stops F (n - 1) h135 hro (by omega) len (w.heap.size + 1 + 1) (w.heap.size + 3) A ad HAh.out c vs bs ns ks hl (by omega) (by omega) W0 (by omega) bS.cell (fun j hj => cell_keep hB0 (HX1.out j hj)) (fun j hj => cell_keep hB0 (HX2.out j hj))) belowK_t (belowK_b (by omega)) (Below.refl _ _) (fun _ => rfl)
    (fun pre W => ((∀ j ∈ pre, vs j ≠ v) ∧ Boxed W (w.heap.size + 1) 28 (.slice none 0 0) ∧ Boxed W w.heap.size 3 (.int .i64 v) ∧ Boxed W (w.heap.size + 1 + 1) 64 (.slice A len c)) ∧ Below w.heap.size w W)
    (fun cd pre W => (cd = .ret ∧ ∃ ini j, pre = ini ++ [j] ∧ vs j = v ∧ W.cell? ⟨w.heap.size + 1, 0, none⟩ = some (.slice (bs j) (ns j) (ks j))) ∧ Below w.heap.size w W)
    (OwnFrom.and (Own.from (fun s A B row hs hg hr => ⟨hs.1, boxed_own _ _ (fun (_ : List Nat) => Value.slice none 0 0) [] A B row hs.2.1 hg hr, boxed_own _ _ (fun (_ : List Nat) => Value.int .i64 v) [] A B row hs.2.2.1 hg hr, boxed_own _ _ (fun (_ : List Nat) => Value.slice _ len c) [] A B row hs.2.2.2 hg hr⟩) _) (ownFrom_below (Nat.le_refl _) (by omega)))
    (fun cd => OwnFrom.and (Own.from (fun s A B row hs hg hr => by obtain ⟨hc, ini, last, e1, e2, e3⟩ := hs; exact ⟨hc, ini, last, e1, e2, cell_kept e3 hg hr⟩) _) (ownFrom_below (Nat.le_refl _) (by omega)))
    ⟨⟨by simp, bR, bV, bS⟩, hB0⟩
    (fun j a' W => ∃ Bx, w.heap.size + 2 < Bx ∧ (W.cell? ⟨Bx, 0, none⟩ = some (.int .i64 (vs j)) ∧ W.cell? ⟨Bx, 1, none⟩ = some (.slice (bs j) (ns j) (ks j))) ∧ a' = { tmps := #[.slice A len c, .int .i64 v, undef, .pointer (some ⟨w.heap.size, 0, none⟩), .pointer (some ⟨w.heap.size + 1, 0, none⟩), undef, .pointer (some ⟨Bx, 0, none⟩), .slice A len c, .func (.func 135) #[] #[.pointer (some ⟨w.heap.size + 1 + 1, 0, none⟩)], .int .i64 (j : Int), .agg #[.int .i64 (vs j), .slice (bs j) (ns j) (ks j)], undef, undef, undef, undef, undef, undef], defers := [] })
    (fun x a' _ X Y row hs hg hr => by obtain ⟨Bx, h1, ⟨h2, h3⟩, h4⟩ := hs; exact ⟨Bx, h1, ⟨cell_kept h2 hg (fun r e => (hr r e).2), cell_kept h3 hg (fun r e => (hr r e).2)⟩, h4⟩)
    ?assign ?body ?done ?stop
  case assign =>
    rintro l pre x W K ⟨⟨hp, bR1, bV1, bS1⟩, hB1⟩ hK
    have hsW := hB1.size
    have hlt := bS1.lt
    unfold bEnc
    gi_wp2
    exact hK _ _ ((KeepsOthers.alloc _ _).from _) ((Below.refl _ W).alloc (by omega) _) ⟨⟨hp, bR1.alloc _, bV1.alloc _, bS1.alloc _⟩, hB1.alloc hB1.size _⟩ ⟨W.heap.size, by omega, ⟨box_cell _ _ _ 0, box_cell _ _ _ 1⟩, rfl⟩
  case body =>
    rintro l pre x a' W hl ⟨r, hr⟩ ⟨⟨hp, bR1, bV1, bS1⟩, hB1⟩ ⟨Bx, hBx, ⟨cx1, cx2⟩, rfl⟩ hlt
    have cV := bV1.cell
    have cR := bR1.cell
    have fR := bR1.frozen
    by_cases hx : vs x = v
    · have e1 : (vs x == v) = true := beq_iff_eq.2 hx
      have HXv := Lib.hid hx
      clear hx
      gi_wp2
      exact ⟨(KeepsOthers.setCell _ _ _).from _, ⟨rfl, pre, x, rfl, HXv.out, World.cell?_setCell_same' _ _ _ (by rw [cR]; rfl)⟩, hB1.setCell (p := ⟨w.heap.size + 1, 0, none⟩) (by simp) _⟩
    · have e1 : (vs x == v) = false := beq_eq_false_iff_ne.2 hx
      gi_wp2
      exact ⟨KeepsFrom.refl _ _, Below.refl _ _, ⟨fun j hj => (List.mem_append.1 hj).elim (hp j) (fun e => by simp at e; subst e; exact hx), bR1, bV1, bS1⟩, hB1⟩
  case done =>
    rintro D ys W hD rfl ⟨⟨hp, bR1, bV1, bS1⟩, hB1⟩ hK
    have cR := bR1.cell
    have fR := bR1.frozen
    have hg : getB s v = none := getB_miss (fun j b hb => by
      have h1 := (HPh.out j b hb).1
      have hlt := (List.getElem?_eq_some_iff.1 hb).1
      have := hp j (dn_mem.2 ⟨Nat.zero_le _, by rw [← HL.out]; exact hlt⟩)
      rwa [h1] at this)
    have HG := Lib.hid hg
    clear hg
    gi_wp2
    have hK' := (KeepsOthers.setCell W ⟨w.heap.size + 1, 0, none⟩ (.slice none 0 0)).same D _ hK rfl
    refine ⟨by simp, .inl ⟨_, _, rfl, run_takeDeferred hK', ?_⟩⟩
    have hc5 := cell_kept (World.cell?_setCell_same' W ⟨w.heap.size + 1, 0, none⟩ (.slice none 0 0) (by rw [cR]; rfl)) (grownBy_putObj' _ D (.deferred none)) (fun r e => by cases e; exact ⟨_, hK', rfl⟩)
    refine ⟨.slice none 0 0, ?_, _, rfl, (hB1.setCell (p := ⟨w.heap.size + 1, 0, none⟩) (by simp) _).trans (belowK_b (w := w) (Nat.le_refl _) _ D _ _ (by omega) hK' rfl rfl), by rw [HG.out]⟩
    simp [results, Tryz.f91, go_sem, hc5]
  case stop =>
    rintro D cd pre W hD ⟨k, hk, rfl⟩ ⟨⟨rfl, ini, j, e1, e2, cR⟩, hB1⟩ hK
    have hjl : j < len := (dn_mem.1 (e1 ▸ List.mem_append_right _ (List.mem_singleton.2 rfl) : j ∈ dn len k)).2
    obtain ⟨b, hb⟩ : ∃ b, s[j]? = some b := ⟨_, List.getElem?_eq_getElem (by rw [HL.out]; exact hjl)⟩
    have hS := HPh.out j b hb
    have hg : getB s v = some b.2 := by rw [← e2, hS.1]; exact getB_nodup HN.out hb
    have HG := Lib.hid hg
    have HS := Lib.hid hS.2.2.2
    clear hg hS hb e1 e2
    gi_wp2
    refine ⟨by simp, .inl ⟨_, _, rfl, run_takeDeferred hK, ?_⟩⟩
    have hc5 := cell_kept cR (grownBy_putObj' _ D (.deferred none)) (fun r e => by cases e; exact ⟨_, hK, rfl⟩)
    have hBf : Below w.heap.size w (W.putObj D (.deferred none)) := hB1.trans (belowK_b (w := w) (Nat.le_refl _) W D _ _ (by omega) hK rfl rfl)
    refine ⟨.slice (bs j) (ns j) (ks j), ?_, _, rfl, hBf, by rw [HG.out]; exact Kd.S_ext hBf HS.out⟩
    simp [results, Tryz.f91, go_sem, hc5]
theorem getI_c (s : Binds) (A : Option Addr) (c : Nat) (v : Int) (w : World) (h : Kd.bind.C 115 w A s) (hl : s.length ≤ 1000000000) (hnd : (s.map (·.1)).Nodup) :
    Calls Tryz.prog 91 #[.slice A s.length c, .int .i64 v] w (GetPost w (getB s v)) :=
  (callsIn_wide (n := 9)).1 (getI_in Fence.wide 9 trivial trivial trivial rfl (by omega) s A c v w h hl hnd)
end Go.Proofs.YtjnangiggnmkoaaGreatDoor
