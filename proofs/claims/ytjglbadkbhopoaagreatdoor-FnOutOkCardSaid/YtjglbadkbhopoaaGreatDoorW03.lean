/- Lemmas and contracts for FnOutOk, part 3. -/
import Derived.RangeFuncNested
import Derived.RangeFuncBound
import Derived.RangeFuncCalls
import Derived.RangeFuncLeaves
import Derived.RangeFuncBox
import Derived.Shelf.Abstract
import Derived.Shelf.RegionOpen
import Derived.WalkKit
import Derived.OwnWalkIn
import Derived.TacticsInMore
import Derived.LoopNIn
import Derived.LoopIn
import Derived.Test.YtjglbadkbhopoaaGreatDoorW02
namespace Go.Proofs.YtjglbadkbhopoaaGreatDoor
open Go.RowKit Go.Shelf
set_option maxRecDepth 100000
set_option maxHeartbeats 2000000
set_option linter.unusedVariables false
attribute [local go_sem] Oper.semAt_some
def dn (len m : Nat) : List Nat := (List.range (len - m)).map (fun k => len - 1 - k)
theorem dn_len (len m : Nat) : (dn len m).length = len - m := by unfold dn; simp
theorem dn_start (len : Nat) : dn len len = [] := by unfold dn; simp
theorem dn_step {len m : Nat} (h : m < len) : dn len m = dn len (m + 1) ++ [m] := by
  unfold dn
  have e : len - m = (len - (m + 1)) + 1 := by omega
  rw [e, List.range_succ, List.map_append]
  congr 1
  simp; omega
theorem dn_mem {len m j : Nat} : j ∈ dn len m ↔ m ≤ j ∧ j < len := by
  unfold dn
  rw [List.mem_map]
  constructor
  · rintro ⟨k, hk, rfl⟩; rw [List.mem_range] at hk; omega
  · rintro ⟨h1, h2⟩; exact ⟨len - 1 - j, by rw [List.mem_range]; omega, by omega⟩
def bEnc (vs : Nat → Int) (bs : Nat → Option Addr) (ns ks : Nat → Nat) (j : Nat) : Array Value := #[.int .i64 (j : Int), .agg #[.int .i64 (vs j), .slice (bs j) (ns j) (ks j)]]
theorem back1_in (F : Fence) (n : Nat) (h7 : F.fn 146) (hro : F.round = none) (hn : 1 ≤ n) (len : Nat) (l Bs n₀ : Nat) (A : Option Addr) (ad : Addr) (hA : 0 < len → A = some ad) (cap : Nat) (vs : Nat → Int) (bs : Nat → Option Addr) (ns ks : Nat → Nat) (hlen : len ≤ 1000000000) (hb : ad.block < n₀) (J Jx : List Nat → World → Prop)
    (hY : ∀ pre x W, J pre W → pre.length < len → YieldAt F (n - 1) Tryz.prog l (bEnc vs bs ns ks x) W fun e W' =>
      (e = .returned (.bool true) ∧ J (pre ++ [x]) W' ∧ Below n₀ W W') ∨ (e = .returned (.bool false) ∧ Jx (pre ++ [x]) W'))
    (W : World) (hBs : W.cell? ⟨Bs, 0, none⟩ = some (.slice A len cap)) (hBn : Bs < n₀)
    (hc1 : ∀ j, j < len → W.cell? (ad.add (j * 2)) = some (.int .i64 (vs j))) (hc2 : ∀ j, j < len → W.cell? ⟨(ad.add (j * 2)).block, (ad.add (j * 2)).off + 1, none⟩ = some (.slice (bs j) (ns j) (ks j))) (h0 : J [] W) :
    CallsIn F n Tryz.prog 146 #[.func (.yield l) #[] #[], .pointer (some ⟨Bs, 0, none⟩)] W fun e W' => (∃ v, e = .returned v) ∧
      ((∃ ys, ys = dn len 0 ∧ J ys W') ∨ (∃ pre, (∃ k, k ≤ len ∧ pre = dn len k) ∧ Jx pre W')) := by
  refine callsIn_of_wp Tryz.func146 rfl h7 ?_ hro
  simp only [Tryz.ntmps146, List.size_toArray, List.length_cons, List.length_nil, Nat.reduceAdd, Nat.reduceSub, Array.replicate_succ, Array.replicate_zero, List.push_toArray, List.append_toArray, List.nil_append, List.cons_append]
  have HC1 := Lib.hid hc1
  have HC2 := Lib.hid hc2
  have HBS := Lib.hid hBs
  clear hc1 hc2
  gi_wp2
  clear hBs
  gi_loopw [3] (fun i wr => ∃ m : Nat, m ≤ len ∧ i = .int .i64 ((m : Int) - 1) ∧ J (dn len m) wr ∧ Hid (Below n₀ W wr))
    (fun i _ => (intOf i + 1).toNat)
  case atStart => exact ⟨len, Nat.le_refl _, rfl, by rw [dn_start]; exact h0, Lib.hid (Below.refl _ _)⟩
  case round =>
    obtain ⟨m, hm, rfl, hJs, hnx⟩ := hrel
    have hBs' := (hnx.out.cell (p := ⟨Bs, 0, none⟩) hBn).trans HBS.out
    cases m with
    | zero =>
      gi_wp2
      go_end0
      exact ⟨⟨_, rfl⟩, .inl ⟨_, rfl, hJs⟩⟩
    | succ m =>
      obtain rfl := hA (by omega)
      obtain ⟨fn, tmps, assign, body, hy, hR⟩ := hY _ m wr hJs (by rw [dn_len]; omega)
      unfold bEnc at hy
      have d1 := (hnx.out.cell (p := ad.add (m * 2)) (by rw [add_block]; exact hb)).trans (HC1.out m (by omega))
      have d2 := (hnx.out.cell (p := ⟨(ad.add (m * 2)).block, (ad.add (m * 2)).off + 1, none⟩) (by rw [add_block]; exact hb)).trans (HC2.out m (by omega))
      gi_wp2
      refine hR.mono ?_
      rintro e W3 (⟨rfl, hJ3, hk3⟩ | ⟨rfl, hJx3⟩)
      · gi_wp2
        go_roundw
        case rel => exact ⟨m, by omega, by simp, by rw [dn_step (by omega)]; exact hJ3, Lib.hid (hnx.out.trans hk3)⟩
        case measure => simp [intOf]
      · gi_wp2
        refine bodyPost_ret (results_none rfl _ _ _) rfl ?_
        exact ⟨⟨_, rfl⟩, .inr ⟨_, ⟨m, by omega, (dn_step (by omega)).symm⟩, hJx3⟩⟩
theorem backward_in (F : Fence) (n : Nat) (h5 : F.fn 126) (hro : F.round = none) (a : Option Addr) (len cap : Nat) (w : World) :
    CallsIn F n Tryz.prog 126 #[.slice a len cap] w fun e w' => e = .returned (.func (.func 146) #[] #[.pointer (some ⟨w.heap.size, 0, none⟩)]) ∧ w' = w.alloc (.cells #[.slice a len cap] 65) := by
  refine callsIn_of_wp Tryz.func126 rfl h5 ?_ hro
  simp only [Tryz.ntmps126, List.size_toArray, List.length_cons, List.length_nil, Nat.reduceAdd, Nat.reduceSub, Array.replicate_succ, Array.replicate_zero, List.push_toArray, List.append_toArray, List.nil_append, List.cons_append]
  gi_wp2
  go_ret
  exact ⟨rfl, rfl⟩
theorem back_stops (F : Fence) (n : Nat) (h7 : F.fn 146) (hro : F.round = none) (hn : 1 ≤ n) (len : Nat) (Bs n₀ : Nat) (A : Option Addr) (ad : Addr) (hA : 0 < len → A = some ad) (cap : Nat) (vs : Nat → Int) (bs : Nat → Option Addr) (ns ks : Nat → Nat) (hlen : len ≤ 1000000000) (hb : ad.block < n₀) (hBn : Bs < n₀)
    (w : World) (hn₀ : n₀ ≤ w.heap.size) (hBs : w.cell? ⟨Bs, 0, none⟩ = some (.slice A len cap))
    (hc1 : ∀ j, j < len → w.cell? (ad.add (j * 2)) = some (.int .i64 (vs j))) (hc2 : ∀ j, j < len → w.cell? ⟨(ad.add (j * 2)).block, (ad.add (j * 2)).off + 1, none⟩ = some (.slice (bs j) (ns j) (ks j))) :
    SeqStopsK F n Tryz.prog 146 #[.pointer (some ⟨Bs, 0, none⟩)] (fun j => bEnc vs bs ns ks j) (Below n₀) (fun ys => ys = dn len 0) (fun pre => ∃ k, k ≤ len ∧ pre = dn len k) len w := fun l J Jx W hW _ _ hY h0 =>
  back1_in F n h7 hro hn len l Bs n₀ A ad hA cap vs bs ns ks hlen hb J Jx hY W ((hW.cell (p := ⟨Bs, 0, none⟩) (show Bs < w.heap.size by omega)).trans hBs) hBn
    (fun j hj => (hW.cell (p := ad.add (j * 2)) (by rw [add_block]; omega)).trans (hc1 j hj)) (fun j hj => (hW.cell (p := ⟨(ad.add (j * 2)).block, (ad.add (j * 2)).off + 1, none⟩) (show (ad.add (j * 2)).block < w.heap.size by rw [add_block]; omega)).trans (hc2 j hj)) h0
def GetPost (w : World) (g : Option Trm) (e : Ending) (w' : World) : Prop := ∃ r, e = .returned r ∧ Below w.heap.size w w' ∧ match g with
  | none => r = .slice none 0 0
  | some t => Kd.cell.S 47 w' r t
def GetPost2 (w : World) (A : Option Addr) (s : Binds) (v : Int) (e : Ending) (w' : World) : Prop := ∃ r, e = .returned r ∧ Below w.heap.size w w' ∧ match getB s v with
  | none => r = .slice none 0 0
  | some t => Kd.cell.S 47 w' r t ∧ ∃ ad j, A = some ad ∧ w.cell? ⟨(ad.add (j * 2)).block, (ad.add (j * 2)).off + 1, none⟩ = some r ∧ ∃ b, s[j]? = some b ∧ b.2 = t
theorem GetPost2.plain {w : World} {A : Option Addr} {s : Binds} {v : Int} {e : Ending} {w' : World} (h : GetPost2 w A s v e w') : GetPost w (getB s v) e w' := by
  obtain ⟨r, h1, h2, h3⟩ := h
  refine ⟨r, h1, h2, ?_⟩
  cases hg : getB s v with
  | none => rw [hg] at h3; exact h3
  | some t => rw [hg] at h3; exact h3.1
theorem getB_nodup {s : Binds} (h : (s.map (·.1)).Nodup) {j : Nat} {b : Int × Trm} (hj : s[j]? = some b) : getB s b.1 = some b.2 := by
  refine getB_hit hj rfl (fun i b' hi hb' he => ?_)
  obtain ⟨hl, e1⟩ := List.getElem?_eq_some_iff.1 hj
  obtain ⟨hl', e2⟩ := List.getElem?_eq_some_iff.1 hb'
  have := List.pairwise_iff_getElem.1 h i j (by rw [List.length_map]; exact hl') (by rw [List.length_map]; exact hl) hi
  rw [List.getElem_map, List.getElem_map, e1, e2] at this
  exact this he
theorem getI_in (F : Fence) (n : Nat) (h91 : F.fn 104) (h108 : F.fn 126) (h135 : F.fn 146) (hro : F.round = none) (hn : 3 ≤ n) (s : Binds) (A : Option Addr) (c : Nat) (v : Int) (w : World) (h : Kd.bind.C 107 w A s) (hl : s.length ≤ 1000000000) (hnd : (s.map (·.1)).Nodup) :
    CallsIn F n Tryz.prog 104 #[.slice A s.length c, .int .i64 v] w (GetPost2 w A s v) := by
  have h1n : 1 ≤ n := by omega
  obtain ⟨ad, hA, hadb⟩ : ∃ ad : Addr, (0 < s.length → A = some ad) ∧ (ad.block < w.heap.size + 1) := by
    cases s with
    | nil => exact ⟨⟨0, 0, none⟩, fun h => by simp at h, by simp⟩
    | cons b s =>
      obtain ⟨ad, B, k, rfl, h1, _⟩ := bind_at h (i := 0) rfl
      have := World.block_lt_of_cell? w _ h1
      rw [add_block] at this
      exact ⟨ad, fun _ => rfl, by omega⟩
  obtain ⟨p, hp⟩ := Classical.skolem.1 (fun j : Nat => (by
    cases hj : s[j]? with
    | none => exact ⟨(0, none, 0, 0), fun b hb => by cases hb⟩
    | some b =>
      obtain ⟨ad', B, k, ea, h1, h2, h3, h4, h5⟩ := bind_at h hj
      refine ⟨(b.1, B, b.2.length, k), fun b' hb' => ?_⟩
      obtain rfl := Option.some.inj hb'
      have hlt := (List.getElem?_eq_some_iff.1 hj).1
      rw [hA (by omega)] at ea
      injection ea with ea
      subst ea
      exact ⟨rfl, h1, h2, ⟨B, k, rfl, h3, h4, h5⟩⟩ : ∃ p : Int × Option Addr × Nat × Nat, ∀ b, s[j]? = some b → p.1 = b.1 ∧ w.cell? (ad.add (j * 2)) = some (.int .i64 p.1) ∧ w.cell? ⟨(ad.add (j * 2)).block, (ad.add (j * 2)).off + 1, none⟩ = some (.slice p.2.1 p.2.2.1 p.2.2.2) ∧ Kd.cell.S 47 w (.slice p.2.1 p.2.2.1 p.2.2.2) b.2))
  obtain ⟨vs, hvs⟩ : ∃ f : Nat → Int, f = fun j => (p j).1 := ⟨_, rfl⟩
  obtain ⟨bs, hbs⟩ : ∃ f : Nat → Option Addr, f = fun j => (p j).2.1 := ⟨_, rfl⟩
  obtain ⟨ns, hns⟩ : ∃ f : Nat → Nat, f = fun j => (p j).2.2.1 := ⟨_, rfl⟩
  obtain ⟨ks, hks⟩ : ∃ f : Nat → Nat, f = fun j => (p j).2.2.2 := ⟨_, rfl⟩
  have HP : ∀ j b, s[j]? = some b → vs j = b.1 ∧ w.cell? (ad.add (j * 2)) = some (.int .i64 (vs j)) ∧ w.cell? ⟨(ad.add (j * 2)).block, (ad.add (j * 2)).off + 1, none⟩ = some (.slice (bs j) (ns j) (ks j)) ∧ Kd.cell.S 47 w (.slice (bs j) (ns j) (ks j)) b.2 := by
    subst hvs; subst hbs; subst hns; subst hks; exact hp
  clear hp hvs hbs hns hks p
  have hx1 : ∀ j, j < s.length → w.cell? (ad.add (j * 2)) = some (.int .i64 (vs j)) := fun j hj => (HP j _ (List.getElem?_eq_getElem hj)).2.1
  have hx2 : ∀ j, j < s.length → w.cell? ⟨(ad.add (j * 2)).block, (ad.add (j * 2)).off + 1, none⟩ = some (.slice (bs j) (ns j) (ks j)) := fun j hj => (HP j _ (List.getElem?_eq_getElem hj)).2.2.1
  have HX1 := Lib.hid hx1
  have HX2 := Lib.hid hx2
  have HPh := Lib.hid HP
  have HAh := Lib.hid hA
  have HN := Lib.hid hnd
  obtain ⟨len, hlen⟩ : ∃ len, s.length = len := ⟨_, rfl⟩
  have HL := Lib.hid hlen
  rw [hlen] at HX1 HX2 HAh hl ⊢
  clear hx1 hx2 HP hA hnd h hlen
  refine callsIn_of_wp_marks Tryz.func104 rfl h91 ?_ hro
  simp only [Tryz.ntmps104, List.size_toArray, List.length_cons, List.length_nil, Nat.reduceAdd, Nat.reduceSub, Array.replicate_succ, Array.replicate_zero, List.push_toArray, List.append_toArray, List.nil_append, List.cons_append]
  gi_wp2_with (gi_at_call 126; refine (backward_in F (n - 1) h108 hro _ _ _ _).mono ?_; rintro e w' ⟨rfl, rfl⟩)
  have bV := ((Boxed.new w 3 (.int .i64 v)).alloc (.cells #[.slice none 0 0] 23)).alloc (.cells #[.slice A len c] 65)
  have bR := (Boxed.new (w.alloc (.cells #[.int .i64 v] 3)) 23 (.slice none 0 0)).alloc (.cells #[.slice A len c] 65)
  have bS := Boxed.new ((w.alloc (.cells #[.int .i64 v] 3)).alloc (.cells #[.slice none 0 0] 23)) 65 (.slice A len c)
  simp only [World.size_alloc] at bV bR bS
  have hB0 : Below w.heap.size w (((w.alloc (.cells #[.int .i64 v] 3)).alloc (.cells #[.slice none 0 0] 23)).alloc (.cells #[.slice A len c] 65)) := (((Below.refl _ w).alloc (Nat.le_refl _) _).alloc (by simp) _).alloc (by simp; omega) _
  have hsz : (((w.alloc (.cells #[.int .i64 v] 3)).alloc (.cells #[.slice none 0 0] 23)).alloc (.cells #[.slice A len c] 65)).heap.size = w.heap.size + 3 := by simp
  obtain ⟨W0, hW0⟩ : ∃ W0, ((w.alloc (.cells #[.int .i64 v] 3)).alloc (.cells #[.slice none 0 0] 23)).alloc (.cells #[.slice A len c] 65) = W0 := ⟨_, rfl⟩
  rw [hW0] at bV bR bS hB0 hsz ⊢
  clear hW0
  refine wpIn_rangeFunc_ownH hro h1n (gf := 146) (lb := #[.pointer (some ⟨w.heap.size + 1 + 1, 0, none⟩)]) rfl h135 (enters_of Tryz.func146 (by kernel_rfl) rfl)
    (back_stops F (n - 1) h135 hro (by omega) len (w.heap.size + 1 + 1) (w.heap.size + 3) A ad HAh.out c vs bs ns ks hl (by omega) (by omega) W0 (by omega) bS.cell (fun j hj => cell_keep hB0 (HX1.out j hj)) (fun j hj => cell_keep hB0 (HX2.out j hj))) belowK_t (belowK_b (by omega)) (Below.refl _ _) (fun _ => rfl)
    (fun pre W => ((∀ j ∈ pre, vs j ≠ v) ∧ Boxed W (w.heap.size + 1) 23 (.slice none 0 0) ∧ Boxed W w.heap.size 3 (.int .i64 v) ∧ Boxed W (w.heap.size + 1 + 1) 65 (.slice A len c)) ∧ Below w.heap.size w W)
    (fun cd pre W => (cd = .ret ∧ ∃ ini j, pre = ini ++ [j] ∧ vs j = v ∧ W.cell? ⟨w.heap.size + 1, 0, none⟩ = some (.slice (bs j) (ns j) (ks j))) ∧ Below w.heap.size w W)
    (OwnFrom.and (Own.from (fun s A B row hs hg hr => ⟨hs.1, boxed_own _ _ (fun (_ : List Nat) => Value.slice none 0 0) [] A B row hs.2.1 hg hr, boxed_own _ _ (fun (_ : List Nat) => Value.int .i64 v) [] A B row hs.2.2.1 hg hr, boxed_own _ _ (fun (_ : List Nat) => Value.slice _ len c) [] A B row hs.2.2.2 hg hr⟩) _) (ownFrom_below (Nat.le_refl _) (by omega)))
    (fun cd => OwnFrom.and (Own.from (fun s A B row hs hg hr => by obtain ⟨hc, ini, last, e1, e2, e3⟩ := hs; exact ⟨hc, ini, last, e1, e2, cell_kept e3 hg hr⟩) _) (ownFrom_below (Nat.le_refl _) (by omega)))
    ⟨⟨by simp, bR, bV, bS⟩, hB0⟩
    (fun j a' W => ∃ Bx, w.heap.size + 2 < Bx ∧ (W.cell? ⟨Bx, 0, none⟩ = some (.int .i64 (vs j)) ∧ W.cell? ⟨Bx, 1, none⟩ = some (.slice (bs j) (ns j) (ks j))) ∧ a' = { tmps := #[.slice A len c, .int .i64 v, undef, .pointer (some ⟨w.heap.size, 0, none⟩), .pointer (some ⟨w.heap.size + 1, 0, none⟩), undef, .pointer (some ⟨Bx, 0, none⟩), .slice A len c, .func (.func 146) #[] #[.pointer (some ⟨w.heap.size + 1 + 1, 0, none⟩)], .int .i64 (j : Int), .agg #[.int .i64 (vs j), .slice (bs j) (ns j) (ks j)], undef, undef, undef, undef, undef, undef], defers := [] })
    (fun x a' _ X Y row hs hg hr => by obtain ⟨Bx, h1, ⟨h2, h3⟩, h4⟩ := hs; exact ⟨Bx, h1, ⟨cell_kept h2 hg (fun r e => (hr r e).2), cell_kept h3 hg (fun r e => (hr r e).2)⟩, h4⟩)
    ?assign ?body ?done ?stop
  case assign =>
    rintro l pre x W K ⟨⟨hp, bR1, bV1, bS1⟩, hB1⟩ hK
    have hsW := hB1.size
    have hlt := bS1.lt
    unfold bEnc
    gi_wp2
    exact hK _ _ ((KeepsOthers.alloc _ _).from _) ((Below.refl _ W).alloc (by omega) _) ⟨⟨hp, bR1.alloc _, bV1.alloc _, bS1.alloc _⟩, hB1.alloc hB1.size _⟩ ⟨W.heap.size, by omega, ⟨box_cell _ _ _ 0, box_cell _ _ _ 1⟩, rfl⟩
  case body =>
    rintro l pre x a' W hl ⟨r, hr⟩ ⟨⟨hp, bR1, bV1, bS1⟩, hB1⟩ ⟨Bx, hBx, ⟨cx1, cx2⟩, rfl⟩ hlt
    have cV := bV1.cell
    have cR := bR1.cell
    have fR := bR1.frozen
    by_cases hx : vs x = v
    · have e1 : (vs x == v) = true := beq_iff_eq.2 hx
      have HXv := Lib.hid hx
      clear hx
      gi_wp2
      exact ⟨(KeepsOthers.setCell _ _ _).from _, ⟨rfl, pre, x, rfl, HXv.out, World.cell?_setCell_same' _ _ _ (by rw [cR]; rfl)⟩, hB1.setCell (p := ⟨w.heap.size + 1, 0, none⟩) (by simp) _⟩
    · have e1 : (vs x == v) = false := beq_eq_false_iff_ne.2 hx
      gi_wp2
      exact ⟨KeepsFrom.refl _ _, Below.refl _ _, ⟨fun j hj => (List.mem_append.1 hj).elim (hp j) (fun e => by simp at e; subst e; exact hx), bR1, bV1, bS1⟩, hB1⟩
  case done =>
    rintro D ys W hD rfl ⟨⟨hp, bR1, bV1, bS1⟩, hB1⟩ hK
    have cR := bR1.cell
    have fR := bR1.frozen
    have hg : getB s v = none := getB_miss (fun j b hb => by
      have h1 := (HPh.out j b hb).1
      have hlt := (List.getElem?_eq_some_iff.1 hb).1
      have := hp j (dn_mem.2 ⟨Nat.zero_le _, by rw [← HL.out]; exact hlt⟩)
      rwa [h1] at this)
    have HG := Lib.hid hg
    clear hg
    gi_wp2
    have hK' := (KeepsOthers.setCell W ⟨w.heap.size + 1, 0, none⟩ (.slice none 0 0)).same D _ hK rfl
    refine ⟨by simp, .inl ⟨_, _, rfl, run_takeDeferred hK', ?_⟩⟩
    have hc5 := cell_kept (World.cell?_setCell_same' W ⟨w.heap.size + 1, 0, none⟩ (.slice none 0 0) (by rw [cR]; rfl)) (grownBy_putObj' _ D (.deferred none)) (fun r e => by cases e; exact ⟨_, hK', rfl⟩)
    refine ⟨.slice none 0 0, ?_, _, rfl, (hB1.setCell (p := ⟨w.heap.size + 1, 0, none⟩) (by simp) _).trans (belowK_b (w := w) (Nat.le_refl _) _ D _ _ (by omega) hK' rfl rfl), by rw [HG.out]⟩
    simp [results, Tryz.f104, go_sem, hc5]
  case stop =>
    rintro D cd pre W hD ⟨k, hk, rfl⟩ ⟨⟨rfl, ini, j, e1, e2, cR⟩, hB1⟩ hK
    have hjl : j < len := (dn_mem.1 (e1 ▸ List.mem_append_right _ (List.mem_singleton.2 rfl) : j ∈ dn len k)).2
    obtain ⟨b, hb⟩ : ∃ b, s[j]? = some b := ⟨_, List.getElem?_eq_getElem (by rw [HL.out]; exact hjl)⟩
    have hS := HPh.out j b hb
    have hg : getB s v = some b.2 := by rw [← e2, hS.1]; exact getB_nodup HN.out hb
    have HG := Lib.hid hg
    have HS := Lib.hid hS.2.2.2
    have HBj := Lib.hid hb
    clear hg hS hb e1 e2
    gi_wp2
    refine ⟨by simp, .inl ⟨_, _, rfl, run_takeDeferred hK, ?_⟩⟩
    have hc5 := cell_kept cR (grownBy_putObj' _ D (.deferred none)) (fun r e => by cases e; exact ⟨_, hK, rfl⟩)
    have hBf : Below w.heap.size w (W.putObj D (.deferred none)) := hB1.trans (belowK_b (w := w) (Nat.le_refl _) W D _ _ (by omega) hK rfl rfl)
    refine ⟨.slice (bs j) (ns j) (ks j), ?_, _, rfl, hBf, by rw [HG.out]; exact ⟨Kd.S_ext hBf HS.out, ad, j, HAh.out (by omega), HX2.out j hjl, b, HBj.out, rfl⟩⟩
    simp [results, Tryz.f104, go_sem, hc5]
theorem getI_c2 (s : Binds) (A : Option Addr) (c : Nat) (v : Int) (w : World) (h : Kd.bind.C 107 w A s) (hl : s.length ≤ 1000000000) (hnd : (s.map (·.1)).Nodup) :
    Calls Tryz.prog 104 #[.slice A s.length c, .int .i64 v] w (GetPost2 w A s v) :=
  (callsIn_wide (n := 9)).1 (getI_in Fence.wide 9 trivial trivial trivial rfl (by omega) s A c v w h hl hnd)
theorem getI_c (s : Binds) (A : Option Addr) (c : Nat) (v : Int) (w : World) (h : Kd.bind.C 107 w A s) (hl : s.length ≤ 1000000000) (hnd : (s.map (·.1)).Nodup) :
    Calls Tryz.prog 104 #[.slice A s.length c, .int .i64 v] w (GetPost w (getB s v)) := (getI_c2 s A c v w h hl hnd).mono fun _ _ hp => hp.plain
end Go.Proofs.YtjglbadkbhopoaaGreatDoor
namespace Go.Proofs.YtjglbadkbhopoaaGreatDoor
set_option linter.unusedVariables false
theorem mem_freeStep {D : List Int} {c : Cell} {x : Int} : x ∈ freeStep D c ↔ x ∈ D ∨ (c.k = 1 ∧ x = c.n) := by
  unfold freeStep
  split
  · rename_i h; simp [h.1]
  · rename_i h
    constructor
    · exact fun hx => .inl hx
    · rintro (hx | ⟨h1, rfl⟩)
      · exact hx
      · exact Classical.byContradiction fun hn => h ⟨h1, hn⟩
theorem mem_fold : ∀ {t : Trm} {D : List Int} {x : Int}, x ∈ t.foldl freeStep D ↔ x ∈ D ∨ x ∈ vars t
  | [], D, x => by simp [vars]
  | c :: t, D, x => by
    rw [List.foldl_cons, mem_fold, mem_freeStep]
    by_cases hc : c.k = 1
    · rw [vars_cons_var hc, List.mem_cons]; simp [hc, or_assoc]
    · rw [vars_cons_fun hc]; simp [hc]
theorem mem_free {t : Trm} {x : Int} : x ∈ free t ↔ x ∈ vars t := by unfold free; rw [mem_fold]; simp
theorem nodup_freeStep {D : List Int} {c : Cell} (h : D.Nodup) : (freeStep D c).Nodup := by
  unfold freeStep
  split
  · rename_i hc
    rw [List.nodup_append]
    exact ⟨h, by simp, fun a ha b hb => by simp at hb; subst hb; rintro rfl; exact hc.2 ha⟩
  · exact h
theorem nodup_fold : ∀ {t : Trm} {D : List Int}, D.Nodup → (t.foldl freeStep D).Nodup
  | [], _, h => h
  | c :: t, D, h => by rw [List.foldl_cons]; exact nodup_fold (nodup_freeStep h)
theorem nodup_free (t : Trm) : (free t).Nodup := nodup_fold (by simp)
structure LInv (s : Binds) (t : Trm) (k : Nat) (D : List Int) : Prop where
  nod : D.Nodup
  rch : ∀ x ∈ D, Rch s t x
  vrs : ∀ x ∈ vars t, x ∈ D
  clo : ∀ j x u, j < k → D[j]? = some x → getB s x = some u → ∀ y ∈ vars u, y ∈ D
theorem LInv.start (s : Binds) (t : Trm) : LInv s t 0 (free t) := ⟨nodup_free t, fun x hx => .here (mem_free.1 hx), fun x hx => mem_free.2 hx, fun j x u h => by omega⟩
theorem LInv.add {s : Binds} {t : Trm} {k : Nat} {D : List Int} (h : LInv s t k D) (hk : k ≤ D.length) {y : Int} (hy : y ∉ D) (hr : Rch s t y) : LInv s t k (D ++ [y]) where
  nod := by
    rw [List.nodup_append]
    exact ⟨h.nod, by simp, fun a ha b hb => by simp at hb; subst hb; rintro rfl; exact hy ha⟩
  rch := fun x hx => by
    rcases List.mem_append.1 hx with hx | hx
    · exact h.rch x hx
    · simp at hx; subst hx; exact hr
  vrs := fun x hx => List.mem_append_left _ (h.vrs x hx)
  clo := fun j x u hj hx hg y' hy' => by
    rw [List.getElem?_append_left (by omega)] at hx
    exact List.mem_append_left _ (h.clo j x u hj hx hg y' hy')
theorem LInv.next {s : Binds} {t : Trm} {k : Nat} {D : List Int} (h : LInv s t k D) {x : Int} (hx : D[k]? = some x) (hc : ∀ y ∈ free ((getB s x).getD []), y ∈ D) : LInv s t (k + 1) D where
  nod := h.nod
  rch := h.rch
  vrs := h.vrs
  clo := fun j x' u hj hx' hg y hy => by
    rcases Nat.lt_or_ge j k with h' | h'
    · exact h.clo j x' u h' hx' hg y hy
    · obtain rfl : j = k := by omega
      rw [hx] at hx'; obtain rfl := Option.some.inj hx'
      exact hc y (by rw [hg]; exact mem_free.2 hy)
theorem Rch_trans {s : Binds} {t : Trm} {x : Int} (h : Rch s t x) {u : Trm} (hg : getB s x = some u) {y : Int} (hy : y ∈ vars u) : Rch s t y := by
  induction h with
  | here h => exact .on h hg (.here hy)
  | on h hg' _ ih => exact .on h hg' (ih hg)
theorem LInv.rch' {s : Binds} {t : Trm} {k : Nat} {D : List Int} (h : LInv s t k D) {x : Int} (hx : D[k]? = some x) {y : Int} (hy : y ∈ free ((getB s x).getD [])) : Rch s t y := by
  rw [mem_free] at hy
  cases hg : getB s x with
  | none => rw [hg] at hy; simp [vars] at hy
  | some u => rw [hg] at hy; exact Rch_trans (h.rch x (List.mem_of_getElem? hx)) hg hy
theorem LInv.done {s : Binds} {t : Trm} {k : Nat} {D : List Int} (h : LInv s t k D) (hk : D.length ≤ k) (x : Int) : x ∈ D ↔ Rch s t x := by
  refine ⟨h.rch x, fun hr => ?_⟩
  have : ∀ {t' : Trm} {x : Int}, Rch s t' x → (∀ y ∈ vars t', y ∈ D) → x ∈ D := by
    intro t' x hr
    induction hr with
    | here hx => exact fun hv => hv _ hx
    | on hx hg _ ih =>
      intro hv
      obtain ⟨j, hj, e⟩ := List.mem_iff_getElem.1 (hv _ hx)
      exact ih (h.clo j _ _ (by omega) (by rw [List.getElem?_eq_getElem hj, e]) hg)
  exact this hr h.vrs
theorem LInv.len {s : Binds} {t : Trm} {k : Nat} {D V : List Int} (h : LInv s t k D) (hV : VarsIn s V) (ht : ∀ x ∈ vars t, x ∈ V) : D.length ≤ V.length := by
  refine sub_len h.nod (fun x hx => ?_)
  have : ∀ {t' : Trm} {x : Int}, Rch s t' x → (∀ y ∈ vars t', y ∈ V) → x ∈ V := by
    intro t' x hr
    induction hr with
    | here hx => exact fun hv => hv _ hx
    | on hx hg _ ih => exact fun _ => ih (hV _ _ hg)
  exact this (h.rch x hx) ht
def argAt (c : Cell) (r : Trm) (k : Nat) : Nat := 1 + ((argsOf (ar c).toNat r).take k).flatten.length
theorem arg_split {c : Cell} {r : Trm} (h : trmOk (c :: r) = true) {k : Nat} {x : Trm} (hx : (argsOf (ar c).toNat r)[k]? = some x) :
    (c :: r).drop (argAt c r k) = x ++ ((argsOf (ar c).toNat r).drop (k + 1)).flatten ∧ Ms 1 x ∧ argAt c r (k + 1) = argAt c r k + x.length ∧ argAt c r (k + 1) ≤ (c :: r).length := by
  obtain ⟨h1, h2, h3⟩ := trmOk_iff.1 h
  have m : Ms (ar c).toNat r := by rw [show 1 = 0 + 1 by rfl, Ms_cons, Nat.zero_add] at h1; exact h1
  obtain ⟨f1, f2⟩ := argsOf_ok m
  obtain ⟨hl, e⟩ := List.getElem?_eq_some_iff.1 hx
  have hd : r = ((argsOf (ar c).toNat r).take k).flatten ++ (x ++ ((argsOf (ar c).toNat r).drop (k + 1)).flatten) := by
    conv => lhs; rw [← f1]
    rw [← List.flatten_cons, ← List.flatten_append]
    congr 1
    rw [← e, ← List.drop_eq_getElem_cons hl, List.take_append_drop]
  have hlen : argAt c r (k + 1) = argAt c r k + x.length := by
    unfold argAt
    rw [List.take_succ_eq_append_getElem hl, List.flatten_append, List.length_append, e]; simp; omega
  refine ⟨?_, f2 x (List.mem_of_getElem? hx), hlen, ?_⟩
  · unfold argAt
    obtain ⟨L, hL⟩ : ∃ L, argsOf (ar c).toNat r = L := ⟨_, rfl⟩
    rw [hL] at hd ⊢
    rw [Nat.add_comm 1, List.drop_succ_cons, hd, List.drop_left']
    rfl
  · rw [hlen, List.length_cons]
    have := congrArg List.length hd
    rw [List.length_append, List.length_append] at this
    unfold argAt; omega
theorem argAt_zero (c : Cell) (r : Trm) : argAt c r 0 = 1 := by unfold argAt; simp
end Go.Proofs.YtjglbadkbhopoaaGreatDoor
namespace Go.Proofs.YtjglbadkbhopoaaGreatDoor
open Go.RowKit
set_option maxRecDepth 100000
set_option maxHeartbeats 4000000
set_option linter.unusedVariables false
theorem endAt_arg {c : Cell} {r : Trm} (h : trmOk (c :: r) = true) {k : Nat} {x : Trm} (hx : (argsOf (ar c).toNat r)[k]? = some x) : endAt (c :: r) (argAt c r k) = ((argAt c r (k + 1) : Nat) : Int) := by
  obtain ⟨h1, h2, h3, h4⟩ := arg_split h hx
  unfold endAt
  rw [h1, skip_pre _ h2, h3]
theorem arg_c (c0 : Cell) (r : Trm) (x : Trm) (k : Nat) (tv : Value) (w : World) (ht : Kd.cell.S 47 w tv (c0 :: r)) (hok : trmOk (c0 :: r) = true) (hx : (argsOf (ar c0).toNat r)[k]? = some x) :
    Calls Tryz.prog 56 #[tv, .int .i64 k] w fun e w' => ∃ v, e = .returned v ∧ Kd.cell.O 47 w' w.heap.size v x ∧ Below w.heap.size w w' := by
  obtain ⟨B, cB, rfl, b1, b2, hC⟩ := ht
  have hlt : k < (ar c0).toNat := by have := (List.getElem?_eq_some_iff.1 hx).1; rwa [argsOf_len] at this
  have hk3 : c0.k = 3 := by
    apply Classical.byContradiction; intro hk
    have : (ar c0).toNat = 0 := by unfold ar; rw [if_neg hk]; rfl
    omega
  have har : ar c0 = c0.n := by unfold ar; rw [if_pos hk3]
  have hall := (trmOk_iff.1 hok).2.2
  have hr := ar_of_ok (List.all_eq_true.1 hall c0 List.mem_cons_self)
  have h40 := (trmOk_iff.1 hok).2.1
  obtain ⟨ad, rfl, a1, a2, a3⟩ := cell_hd hC
  have e3 : (c0.k != 3) = false := by rw [hk3]; rfl
  have hkn : (k : Int) < c0.n := by omega
  have HE := Lib.hid (fun j (hj : j ≤ k) W (hb : Below w.heap.size w W) => end_c (c0 :: r) (some ad) cB (argAt c0 r j) W (Kd.C_ext hb hC) hall (by omega) (by
    obtain ⟨y, hy⟩ : ∃ y, (argsOf (ar c0).toNat r)[j]? = some y := ⟨_, List.getElem?_eq_getElem (by rw [argsOf_len]; omega)⟩
    have := arg_split hok hy
    omega))
  have HA := Lib.hid (fun j (hj : j ≤ k) => (by
    obtain ⟨y, hy⟩ : ∃ y, (argsOf (ar c0).toNat r)[j]? = some y := ⟨_, List.getElem?_eq_getElem (by rw [argsOf_len]; omega)⟩
    exact endAt_arg hok hy : endAt (c0 :: r) (argAt c0 r j) = ((argAt c0 r (j + 1) : Nat) : Int)))
  have HC := Lib.hid hC
  have HS := Lib.hid (arg_split hok hx)
  have hle := (arg_split hok hx).2.2
  have hz := argAt_zero c0 r
  have HZ := Lib.hid hz
  have hn : (0 : Int) < ((c0 :: r).length : Int) := by rw [List.length_cons]; omega
  have hb40 : ∀ j, argAt c0 r j = argAt c0 r j := fun _ => rfl
  clear hall hC hx hok hz hb40
  obtain ⟨m, hm⟩ : ∃ m, (c0 :: r).length = m := ⟨_, rfl⟩
  have HM := Lib.hid hm
  have HSv := Lib.hid (show Kd.cell.S 47 w (.slice (some ad) m cB) (c0 :: r) from ⟨some ad, cB, by rw [hm], by rw [hm]; rwa [hm] at b1, b2, HC.out⟩)
  rw [hm] at hn b1 hle HE h40 ⊢
  have hle1 : argAt c0 r k + x.length ≤ m := by omega
  have hk3' : k ≤ 3 := by omega
  have HL := Lib.hid hle.1
  clear hm hle har hr
  go_enter Tryz.func56, Tryz.ntmps56
  go_wp2
  go_loopw [5, 6] (fun v5 v6 wr => ∃ j : Nat, v6 = .int .i64 j ∧ j ≤ k ∧ v5 = .int .i64 (argAt c0 r j) ∧ Hid (Below w.heap.size w wr)) (fun _ v6 _ => k - (intOf v6).toNat)
  case atStart => exact ⟨0, rfl, Nat.zero_le _, by rw [HZ.out]; rfl, Lib.hid (by first | exact Below.refl _ _ | exact bel_drewN (Below.refl _ _) _)⟩
  case round =>
    obtain ⟨j, rfl, hj, rfl, HB⟩ := hrel
    by_cases hlt : j < k
    · have HE1 := Lib.hid (HE.out j hj)
      rw [HA.out j hj] at HE1
      go_wp2_with (go_at_call 51; refine (HE1.out _ HB.out).mono ?_; rintro e w1 ⟨rfl, rfl⟩)
      exact ⟨⟨j + 1, by go_num, by omega, rfl, HB⟩, by simp [intOf]; omega⟩
    · obtain rfl : j = k := by omega
      have HE1 := Lib.hid (HE.out j hj)
      rw [HA.out j hj] at HE1
      go_wp2_with (first | (go_at_call 51; refine (HE1.out _ (bel_alloc HB.out _)).mono ?_; rintro e w1 ⟨rfl, rfl⟩) | (refine wp_sub_lh AppI.cell rfl rfl (Kd.S_alloc _ (Kd.S_ext HB.out HSv.out)) rfl rfl rfl (by omega) (by have := HL.out; omega) (by rw [HM.out]; have := HL.out; omega) ?_; intro v' hv'; have HV' := Lib.hid hv'; clear hv') | (at_builtin; refine wp_app AppI.cell rfl rfl (Kd.O_empty Kd.cell _ wr HB.out.size) rfl HV'.out rfl ?c1 ?c2 ?_; (case c1 => rw [List.length_take, List.length_nil]; have := HL.out; omega); (case c2 => simp; have := HB.out.size; omega); intro v' w' hg; have HG := Lib.hid hg; clear hg))
      go_ret
      refine ⟨_, rfl, ?_, HG.out.below (bel_alloc HB.out _) (Kd.O_empty Kd.cell _ wr HB.out.size)⟩
      have := HG.out.own
      obtain ⟨s1, s2, s3, s4⟩ := HS.out
      rw [List.nil_append, Int.toNat_natCast, Int.toNat_natCast, s1, s3, show argAt c0 r j + x.length - argAt c0 r j = x.length by omega, List.take_left'] at this
      · exact this
      · rfl
theorem leads_c (V : List Int) (s : Binds) (A : Option Addr) (c : Nat) (t : Trm) (tv : Value) (w : World) (h : Kd.bind.C 107 w A s) (hl : s.length ≤ 1000000000) (ht : Kd.cell.S 47 w tv t)
    (hV : VarsIn s V) (hVt : ∀ x ∈ vars t, x ∈ V) (hVl : V.length ≤ 4000000) (htl : t.length ≤ 1000000000) (hsl : ∀ v u, getB s v = some u → u.length ≤ 1000000000) :
    Calls Tryz.prog 87 #[.slice A s.length c, tv] w fun e w' => ∃ v L, e = .returned v ∧ (Kd.int .i64).O 3 w' w.heap.size v L ∧ (∀ x, x ∈ L ↔ Rch s t x) ∧ L.length ≤ 4000000 ∧ Below w.heap.size w w' := by
  obtain ⟨B, cB, rfl, b1, b2, hC⟩ := ht
  have HF := Lib.hid (free_c t B cB w hC htl)
  have H := Lib.hid h
  have HVs := Lib.hid (fun k D (h : LInv s t k D) => h.len hV hVt)
  have HSL := Lib.hid hsl
  have HG := Lib.hid (fun (x : Int) W hb => get_c s A c x W (Kd.C_ext (w' := W) hb h) hl)
  clear h hC hV hVt hsl hl
  go_enter Tryz.func87, Tryz.ntmps87
  go_wp2_with (go_at_call 52; refine HF.out.mono ?_; rintro e w1 ⟨v, rfl, hO, hb⟩; have HO := Lib.hid hO; have HB := Lib.hid hb; clear hO hb)
  go_loopw [5, 6] (fun v5 v6 wr => ∃ (k : Nat) (D : List Int), v6 = .int .i64 k ∧ k ≤ D.length ∧ D.length ≤ 4000000 ∧ Hid (LInv s t k D) ∧ Hid ((Kd.int .i64).O 3 wr w.heap.size v5 D) ∧ Hid (Below w.heap.size w wr)) (fun _ v6 _ => 4000000 + 1 - (intOf v6).toNat)
  case atStart => exact ⟨0, free t, rfl, Nat.zero_le _, Nat.le_trans (HVs.out _ _ (LInv.start s t)) hVl, Lib.hid (LInv.start s t), HO, HB⟩
  case round =>
    obtain ⟨k, D, rfl, hk, hD, HI, HOD, HBr⟩ := hrel
    obtain ⟨DB, cD, rfl, d1, d2, hCD⟩ := Kd.O_read HOD.out
    by_cases hlt : k < D.length
    · obtain ⟨x, hx⟩ : ∃ x, D[k]? = some x := ⟨_, List.getElem?_eq_getElem hlt⟩
      obtain ⟨ad, rfl, a1⟩ := int_at hCD hx
      have HX := Lib.hid hx
      have HG1 := Lib.hid (HG.out x)
      have HlenU := Lib.hid (show ((getB s x).getD []).length ≤ 1000000000 by
        cases hg : getB s x with
        | none => simp
        | some u => exact HSL.out _ _ hg)
      clear hx hCD
      go_wp2_with (first | (go_at_call 86; refine (HG1.out _ HBr.out).mono ?_; rintro e w2 ⟨rv, rfl, ⟨UB, cU, rfl, u1, u2, hCU⟩, hb2⟩; have HB2 := Lib.hid hb2; have HF2 := Lib.hid (free_c _ UB cU w2 hCU HlenU.out); clear hb2 hCU) | (go_at_call 52; refine HF2.out.mono ?_; rintro e w3 ⟨mv, rfl, hO3, hb3⟩; have HO3 := Lib.hid hO3; have HB3 := Lib.hid hb3; clear hO3 hb3))
      obtain ⟨M, hM⟩ : ∃ M, free ((getB s x).getD []) = M := ⟨_, rfl⟩
      have HMv := Lib.hid hM
      rw [hM] at HO3
      have hMl : M.length ≤ 1000000000 := by rw [← hM]; exact Nat.le_trans (free_len _) HlenU.out
      clear hM
      obtain ⟨MB, cM, rfl, m1, m2, hCM⟩ := Kd.O_read HO3.out
      clear hCM
      have HBD := Lib.hid (bel_trans HB2.out HB3.out)
      have HOD3 := Lib.hid (Kd.O_ext HBD.out HOD.out)
      go_loopw [5, 8] (fun v5 v8 wi => ∃ (j : Nat) (E : List Int), v8 = .int .i64 j ∧ j ≤ M.length ∧ k < E.length ∧ E.length ≤ 4000000 ∧ Hid (E[k]? = some x) ∧ Hid (LInv s t k E) ∧ Hid (∀ y ∈ M.take j, y ∈ E) ∧ Hid ((Kd.int .i64).O 3 wi w.heap.size v5 E) ∧ Hid ((Kd.int .i64).O 3 wi w2.heap.size (.slice MB M.length cM) M) ∧ Hid (∀ b, (Value.slice MB M.length cM).ownBlock = some b → v5.ownBlock ≠ some b) ∧ Hid (Below w.heap.size w wi)) (fun _ v8 _ => M.length - (intOf v8).toNat)
      case atStart => exact ⟨0, D, rfl, Nat.zero_le _, hlt, hD, HX, HI, Lib.hid (fun y hy => by simp at hy), HOD3, HO3, Lib.hid (fun b hb e => by
          have h1 := (Kd.O_lt HO3.out b hb).1
          have h2 := (Kd.O_lt HOD.out b e).2
          have := HB2.out.size; omega), Lib.hid (bel_trans HBr.out HBD.out)⟩
      case round =>
        obtain ⟨j, E, rfl, hj, hkE, hE, HEk, HIE, HME, HOE, HOM, HNE, HBi⟩ := hrel
        obtain ⟨EB, cE, rfl, e1, e2, hCE⟩ := Kd.O_read HOE.out
        by_cases hjl : j < M.length
        · obtain ⟨y, hy⟩ : ∃ y, M[j]? = some y := ⟨_, List.getElem?_eq_getElem hjl⟩
          obtain ⟨adM, hadM, aM⟩ := int_at (by obtain ⟨A', c', ev, _, _, hc⟩ := Kd.O_read HOM.out; injection ev with e1 e2 e3; subst e1; exact hc : (Kd.int .i64).C 3 _ MB M) hy
          have HMB := Lib.hid hadM
          have HH := Lib.hid (has_c E EB cE y wr hCE (by omega))
          have hlb := Lib.hid (show ∀ z ∈ M.take (j + 1), z ∈ E ∨ z = y from fun z hz => by
            rw [List.take_succ_eq_append_getElem hjl, (List.getElem?_eq_some_iff.1 hy).2] at hz
            rcases List.mem_append.1 hz with hz | hz
            · exact .inl (HME.out z hz)
            · simp at hz; exact .inr hz)
          have HR := Lib.hid (HIE.out.rch' HEk.out (y := y) (by rw [HMv.out]; exact List.mem_of_getElem? hy))
          clear hy hCE
          subst hadM
          by_cases hm : y ∈ E
          · have HN := Lib.hid (show ∀ z ∈ M.take (j + 1), z ∈ E from fun z hz => (hlb.out z hz).elim id (fun e => by rw [e]; exact hm))
            rw [decide_eq_true hm] at HH
            clear hm
            go_wp2_with (go_at_call 85; refine HH.out.mono ?_; rintro e w4 ⟨rfl, rfl⟩)
            exact ⟨⟨j + 1, E, by go_num, by omega, hkE, hE, HEk, HIE, HN, HOE, HOM, HNE, HBi⟩, by simp [intOf]; omega⟩
          · have HI2 := Lib.hid (HIE.out.add (by omega) hm HR.out)
            have hE2 := Lib.hid (Nat.le_trans (HVs.out _ _ HI2.out) hVl)
            have HN := Lib.hid (show ∀ z ∈ M.take (j + 1), z ∈ E ++ [y] from fun z hz => (hlb.out z hz).elim (List.mem_append_left _) (fun e => by rw [e]; simp))
            rw [decide_eq_false hm] at HH
            clear hm
            go_wp2_with (first | (go_at_call 85; refine HH.out.mono ?_; rintro e w4 ⟨rfl, rfl⟩) | (at_builtin; refine wp_app AppI.int rfl rfl (Kd.O_alloc _ HOE.out) rfl (Kd.S_lit (Kd.int .i64) _ (x := y) (cs := [.int .i64 y]) rfl rfl) rfl ?c1 ?c2 ?_; (case c1 => simp; omega); (case c2 => simp; have := HBi.out.size; omega); intro v' w' hg; have HGr := Lib.hid hg; clear hg))
            exact ⟨⟨j + 1, E ++ [y], by go_num, by omega, by simp; omega, hE2.out, Lib.hid (by rw [List.getElem?_append_left hkE]; exact HEk.out), HI2, HN, Lib.hid HGr.out.own, Lib.hid (HGr.out.O_far (Kd.O_alloc _ HOM.out) HNE.out rfl), Lib.hid (fun b hb e => by
                rcases HGr.out.at' with h | h
                · rw [h] at e; exact HNE.out b hb e
                · rw [h] at e
                  have := (Kd.O_lt HOM.out b hb).2
                  simp at e; omega), Lib.hid (HGr.out.below (bel_alloc HBi.out _) (Kd.O_alloc _ HOE.out))⟩, by simp [intOf]; omega⟩
        · have HNx := Lib.hid (HIE.out.next HEk.out (by rw [HMv.out]; intro y hy; exact HME.out y (by rw [List.take_of_length_le (by omega)]; exact hy)))
          clear hCE
          go_wp2
          exact ⟨⟨k + 1, E, by go_num, by omega, hE, HNx, HOE, HBi⟩, by simp [intOf]; omega⟩
    · have HD := Lib.hid (fun x => HI.out.done (by omega) x)
      clear hCD
      go_wp2
      go_ret
      exact ⟨_, D, rfl, HOD.out, HD.out, hD, HBr.out⟩
theorem bind_no (V : List Int) (b : Nat) (s : Binds) (sv : Value) (v : Int) (t : Trm) (tv : Value) (w : World) (hs : Kd.bind.O 107 w b sv s) (hl : s.length ≤ 4000000) (ht : Kd.cell.S 47 w tv t)
    (hV : VarsIn s V) (hVt : ∀ x ∈ vars t, x ∈ V) (hVl : V.length ≤ 4000000) (htl : t.length ≤ 1000000000) (hsl : ∀ v u, getB s v = some u → u.length ≤ 1000000000) (hb : b ≤ w.heap.size) (hR : Rch s t v) :
    Calls Tryz.prog 55 #[sv, .int .i64 v, tv] w fun e w' => ∃ rv, e = .returned (.tuple #[rv, .bool false]) ∧ Wrote b 107 w w' := by
  obtain ⟨A, c, rfl, c1, c2, hC⟩ := Kd.O_read hs
  have HL := Lib.hid (leads_c V s A c t tv w hC (by omega) ht hV hVt hVl htl hsl)
  have HR := Lib.hid hR
  have HW := Lib.hid hb
  clear hC hs hV hVt hVl htl hsl hb hR ht
  go_enter Tryz.func55, Tryz.ntmps55
  go_wp2_with (first | (go_at_call 87; refine HL.out.mono ?_; rintro e w1 ⟨lv, L, rfl, hO, hm, hll, hb⟩; obtain ⟨LB, cL, rfl, l1, l2, hCL⟩ := Kd.O_read hO; have HB := Lib.hid hb; have HH := Lib.hid (has_c L LB cL v w1 hCL (by omega)); rw [decide_eq_true ((hm v).2 HR.out)] at HH; clear hO hm hb hCL) | (go_at_call 85; refine HH.out.mono ?_; rintro e w2 ⟨rfl, rfl⟩))
  go_ret2
  exact ⟨_, rfl, .of_below HW.out (by first | exact bel_alloc HB.out _ | exact HB.out)⟩
theorem bind_yes (V : List Int) (b : Nat) (s : Binds) (sv : Value) (v : Int) (t : Trm) (tv : Value) (w : World) (hs : Kd.bind.O 107 w b sv s) (hl : s.length ≤ 4000000) (ht : Kd.cell.S 47 w tv t)
    (hV : VarsIn s V) (hVt : ∀ x ∈ vars t, x ∈ V) (hVl : V.length ≤ 4000000) (htl : t.length ≤ 4000000) (hsl : ∀ v u, getB s v = some u → u.length ≤ 1000000000) (hb : b ≤ w.heap.size) (hR : ¬ Rch s t v) :
    Calls Tryz.prog 55 #[sv, .int .i64 v, tv] w fun e w' => ∃ rv, e = .returned (.tuple #[rv, .bool true]) ∧ Kd.bind.O 107 w' b rv (s ++ [(v, t)]) ∧ Wrote b 107 w w' := by
  obtain ⟨A, c, rfl, c1, c2, hC⟩ := Kd.O_read hs
  have HL := Lib.hid (leads_c V s A c t tv w hC (by omega) ht hV hVt hVl (by omega) hsl)
  have HR := Lib.hid hR
  have HW := Lib.hid hb
  have HT := Lib.hid ht
  have HS := Lib.hid hs
  clear hC hs hV hVt hVl hsl hb hR ht
  go_enter Tryz.func55, Tryz.ntmps55
  go_wp2_with (first | (go_at_call 87; refine HL.out.mono ?_; rintro e w1 ⟨lv, L, rfl, hO, hm, hll, hb⟩; obtain ⟨LB, cL, rfl, l1, l2, hCL⟩ := Kd.O_read hO; have HB := Lib.hid hb; have HH := Lib.hid (has_c L LB cL v w1 hCL (by omega)); rw [decide_eq_false (fun h => HR.out ((hm v).1 h))] at HH; clear hO hm hb hCL) | (go_at_call 85; refine HH.out.mono ?_; rintro e w2 ⟨rfl, rfl⟩)
                              | (at_builtin; refine wp_app AppI.cell rfl rfl (Kd.O_empty Kd.cell _ w1 (Nat.le_refl _)) rfl (Kd.S_ext (bel_alloc HB.out _) HT.out) rfl ?c1 ?c2 ?_; (case c1 => simp; omega); (case c2 => simp); intro v1 w2 hg; have HB2 := Lib.hid (hg.below (bel_alloc (Below.refl _ w1) _) (Kd.O_empty Kd.cell _ w1 (Nat.le_refl _))); have HO2 := Lib.hid (Kd.O_ext (bel_trans HB.out HB2.out) HS.out); have hown := hg.own; rw [List.nil_append] at hown; clear hg; obtain ⟨VB, cV, rfl, q1, q2, hVC⟩ := Kd.O_read hown; have HVC := Lib.hid hVC; clear hVC hown)
                              | (at_builtin; refine wp_app AppI.bind rfl rfl (Kd.O_alloc _ HO2.out) rfl (Kd.S_lit Kd.bind _ (x := (v, t)) (cs := [.int .i64 v, .slice VB t.length cV]) ⟨[.int .i64 v], [.slice VB t.length cV], rfl, rfl, _, rfl, VB, cV, rfl, q1, q2, HVC.out⟩ rfl) rfl ?c3 ?c4 ?_; (case c3 => simp; omega); (case c4 => simp; have h1 := HB.out.size; have h2 := HB2.out.size; have h3 := HW.out; omega); intro v2 w3 hg3; have HG3 := Lib.hid hg3; clear hg3))
  go_ret2
  refine ⟨_, rfl, HG3.out.own, ?_⟩
  have h1 := HB.out.size
  have h2 := HB2.out.size
  have h3 := HW.out
  exact (Wrote.of_below h3 (bel_alloc (bel_trans HB.out HB2.out) _)).trans (.grew HG3.out (Kd.O_alloc _ HO2.out) (by simp; omega))
end Go.Proofs.YtjglbadkbhopoaaGreatDoor
