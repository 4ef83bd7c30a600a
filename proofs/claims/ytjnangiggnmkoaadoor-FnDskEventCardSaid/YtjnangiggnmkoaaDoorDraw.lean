/- Draws: the reader of bytes. -/
import Derived.Test.YtjnangiggnmkoaaDoorBase
import Derived.Outline
import Derived.Deep.RegionWith
import Derived.Deep.DeepCutAuto
import Derived.Deep.CutBlock
import Derived.Laws.BitsAllLaws
import Derived.Laws.Bits64
namespace Go.Proofs.YtjnangiggnmkoaaDoor
open Go.RowKit
set_option maxRecDepth 100000
set_option maxHeartbeats 1000000
set_option linter.unusedVariables false
theorem i64_xor (a b : Nat) (ha : a < 4611686018427387904) (hb : b < 4611686018427387904) : bits .xor .i64 (a : Int) (b : Int) = ((a ^^^ b : Nat) : Int) ∧ a ^^^ b < 4611686018427387904 := by
  have hx : a ^^^ b < 2 ^ 62 := Nat.xor_lt_two_pow (by omega) (by omega)
  refine ⟨?_, by omega⟩
  show IntKind.i64.wrap ((BitVec.ofInt 64 (a : Int) ^^^ BitVec.ofInt 64 (b : Int)).toNat : Int) = _
  rw [BitVec.toNat_xor, ofInt_u64 a (by omega), ofInt_u64 b (by omega)]
  simp [IntKind.wrap, IntKind.bits, IntKind.signed]
  omega
/-- The reader: a block of two cells, the bytes and how many have been read. -/
structure Rd (w : World) (g : Nat) (bs : List Nat) (p : Nat) : Prop where
  blk : ∃ A c, w.heap[g]? = some (.cells #[.slice A bs.length c, .int .i64 p] 58 (0, 0)) ∧ bs.length ≤ c ∧ c ≤ maxLen ∧ (bs ≠ [] → ∃ ad, A = some ad ∧ ad.block ≠ g ∧ ∀ (i b : Nat), bs[i]? = some b → w.cell? (ad.add i) = some (.int .u8 (b : Int)))
  small : ∀ b ∈ bs, b < 256
  len : bs.length ≤ 2000
/-- What a draw of n gives. -/
def Picked (n v : Int) : Prop := 0 ≤ v ∧ (1 ≤ n → v < n) ∧ (n < 1 → v = 0)
theorem pick_c (w : World) (g : Nat) (bs : List Nat) (p : Nat) (h : Rd w g bs p) (hp : p ≤ 1099511627776) (n : Int) (hn0 : -9223372036854775808 ≤ n) (hn1 : n ≤ 9223372036854775807) :
    Calls Tryd.prog 21 #[.pointer (some ⟨g, 0, none⟩), .int .i64 n] w fun e w' => ∃ v : Int, e = .returned (.int .i64 v) ∧ Picked n v ∧ ∃ k, w' = (w.setCell ⟨g, 1, none⟩ (.int .i64 ((p : Int) + 1))).drewN k := by
  obtain ⟨⟨A, c, hb, hc, hm, hr⟩, hs, hl⟩ := h
  have c0 := cell_of_row w g 0 _ _ _ hb
  have c1 := cell_of_row w g 1 _ _ _ hb
  have f1 := frozen_of_row w g 1 _ _ hb
  have hb' := heap_setCell_same w g 1 _ _ (.int .i64 ((p : Int) + 1)) hb
  go_enter Tryd.func21, Tryd.ntmps21
  go_upto_region 2 with fail
  generalize hW : w.setCell ⟨g, 1, none⟩ (.int .i64 ((p : Int) + 1)) = W
  rw [hW] at hb'
  have d0 : W.cell? ⟨g, 0, none⟩ = some (.slice A bs.length c) := cell_of_row W g 0 _ _ _ hb'
  have d1 : W.cell? ⟨g, 1, none⟩ = some (.int .i64 ((p : Int) + 1)) := cell_of_row W g 1 _ _ _ hb'
  have hrow : bs ≠ [] → ∃ ad, A = some ad ∧ ∀ (i b : Nat), bs[i]? = some b → W.cell? (ad.add i) = some (.int .u8 (b : Int)) := fun hne => by
    obtain ⟨ad, ea, hnb, hx⟩ := hr hne
    refine ⟨ad, ea, fun i b hi => ?_⟩
    rw [← hW]
    exact (World.cell?_of_block (by rw [add_block]; exact heap_setCell_other _ _ _ _ hnb)).trans (hx i b hi)
  have HW := Lib.hid hW
  clear hb hb' c0 c1 f1 hr hW
  have HP0 : Picked n 0 := ⟨by omega, fun h => by omega, fun _ => rfl⟩
  have HP := Lib.hid HP0
  clear HP0
  by_cases hn : n < 1
  · go_wp2
    go_ret
    exact ⟨0, rfl, HP, 0, HW.out.symm⟩
  by_cases hne : bs = []
  · subst hne
    have e0 : ((([] : List Nat).length : Int) == 0) = true := rfl
    go_wp2
    go_ret
    exact ⟨0, rfl, HP, 0, HW.out.symm⟩
  obtain ⟨ad, rfl, hx⟩ := hrow hne
  have hpos : 0 < bs.length := List.length_pos_iff.2 hne
  have e0 : ((bs.length : Int) == 0) = false := beq_eq_false_iff_ne.2 (by omega)
  have HX := Lib.hid hx
  have HS := Lib.hid hs
  clear hx hrow hs hne
  by_cases hlt : p < bs.length
  · obtain ⟨b, hbq⟩ : ∃ b, bs[p]? = some b := ⟨_, List.getElem?_eq_getElem hlt⟩
    have hcell := HX.out p b hbq
    have hb256 := HS.out b (List.mem_of_getElem? hbq)
    have HP := Lib.hid (show Picked n ((b : Int) % n) from ⟨Int.emod_nonneg _ (by omega), fun h => Int.emod_lt_of_pos _ (by omega), fun h => by omega⟩)
    go_wp2
    go_ret
    exact ⟨_, rfl, HP.out, 0, HW.out.symm⟩
  · obtain ⟨i1, hi1⟩ : ∃ i1 : Nat, i1 = p % bs.length := ⟨_, rfl⟩
    obtain ⟨i2, hi2⟩ : ∃ i2 : Nat, i2 = (p * 7 + 3) % bs.length := ⟨_, rfl⟩
    have l1 : i1 < bs.length := hi1 ▸ Nat.mod_lt _ hpos
    have l2 : i2 < bs.length := hi2 ▸ Nat.mod_lt _ hpos
    obtain ⟨b1, hb1⟩ : ∃ b, bs[i1]? = some b := ⟨_, List.getElem?_eq_getElem l1⟩
    obtain ⟨b2, hb2⟩ : ∃ b, bs[i2]? = some b := ⟨_, List.getElem?_eq_getElem l2⟩
    have x1 := HX.out i1 b1 hb1
    have x2 := HX.out i2 b2 hb2
    have s1 := HS.out b1 (List.mem_of_getElem? hb1)
    have s2 := HS.out b2 (List.mem_of_getElem? hb2)
    have m1 : (p : Int) % (bs.length : Int) = i1 := by rw [hi1]; omega
    have m2 : ((p : Int) * 7 + 3) % (bs.length : Int) = i2 := by
      have e : ((p : Int) * 7 + 3) = ((p * 7 + 3 : Nat) : Int) := by omega
      rw [hi2, e, Int.natCast_emod]
    obtain ⟨q, hq⟩ : ∃ q : Nat, (p : Int) / (bs.length : Int) = q := ⟨p / bs.length, by omega⟩
    have hqp : q ≤ p := by
      have := Nat.div_le_self p bs.length
      omega
    clear hi1 hi2 hb1 hb2 HX HS
    go_upto_region 7 with fail
    go_cut [6] (fun v6 wx => ∃ X : Nat, v6 = .int .i64 X ∧ X < 4611686018427387904 ∧ ∃ k, wx = W.drewN k)
    case first =>
      go_quiet (fail)
      go_wp2_with fail
      go_meet
      exact ⟨b1 * 131 + b2 * 1117 + p * 29 + q * 53, by go_num, by omega, _, rfl⟩
    case rest =>
      obtain ⟨X, rfl, hX, nq, rfl⟩ := hcut
      obtain ⟨hx1, hx2⟩ := i64_xor X (X / 64) hX (by omega)
      have hx1' : bits .xor .i64 (X : Int) ((X : Int) / 64) = ((X ^^^ X / 64 : Nat) : Int) := by
        rw [← hx1]; congr 1
      obtain ⟨Y, hY⟩ : ∃ Y : Nat, X ^^^ X / 64 = Y := ⟨_, rfl⟩
      rw [hY] at hx1' hx2
      have HP := Lib.hid (show Picked n ((Y : Int) % n) from ⟨Int.emod_nonneg _ (by omega), fun h => Int.emod_lt_of_pos _ (by omega), fun h => by omega⟩)
      clear hx1 hY
      go_wp2
      go_ret
      exact ⟨_, rfl, HP.out, nq, by rw [HW.out]⟩
theorem Rd.ext {w w' : World} {g : Nat} {bs : List Nat} {p : Nat} (h : Rd w g bs p) (hb : Below w.heap.size w w') : Rd w' g bs p := by
  obtain ⟨⟨A, c, h1, h2, h3, h4⟩, h5, h6⟩ := h
  exact ⟨⟨A, c, box_keep h1 hb, h2, h3, fun hne => by
    obtain ⟨ad, ea, hn, hc⟩ := h4 hne
    exact ⟨ad, ea, hn, fun i b hi => cell_keep hb (hc i b hi)⟩⟩, h5, h6⟩
theorem Rd.next {w : World} {g : Nat} {bs : List Nat} {p : Nat} (h : Rd w g bs p) (k : Nat) : Rd ((w.setCell ⟨g, 1, none⟩ (.int .i64 ((p : Int) + 1))).drewN k) g bs (p + 1) := by
  obtain ⟨⟨A, c, h1, h2, h3, h4⟩, h5, h6⟩ := h
  refine ⟨⟨A, c, ?_, h2, h3, fun hne => ?_⟩, h5, h6⟩
  · have := heap_setCell_same w g 1 _ _ (.int .i64 ((p : Int) + 1)) h1
    exact this
  · obtain ⟨ad, ea, hn, hc⟩ := h4 hne
    exact ⟨ad, ea, hn, fun i b hi => (World.cell?_of_block (w := w) (by rw [add_block]; exact heap_setCell_other _ _ _ _ hn)).trans (hc i b hi)⟩
theorem bel_next {B : Nat} {w0 w : World} {g : Nat} (h : Below B w0 w) (hg : B ≤ g) (v : Value) (k : Nat) : Below B w0 ((w.setCell ⟨g, 1, none⟩ v).drewN k) := bel_drewN (h.setCell hg v) k
/-- The bytes that came in. -/
structure Bytes (w : World) (A : Option Addr) (n c : Nat) (bs : List Nat) : Prop where
  len : bs.length = n
  le : n ≤ c
  cap : c ≤ maxLen
  row : bs ≠ [] → ∃ ad, A = some ad ∧ ∀ (i b : Nat), bs[i]? = some b → w.cell? (ad.add i) = some (.int .u8 (b : Int))
  small : ∀ b ∈ bs, b < 256
theorem Bytes.ext {w w' : World} {A : Option Addr} {n c : Nat} {bs : List Nat} (h : Bytes w A n c bs) (hb : Below w.heap.size w w') : Bytes w' A n c bs :=
  ⟨h.len, h.le, h.cap, fun hne => by obtain ⟨ad, ea, hc⟩ := h.row hne; exact ⟨ad, ea, fun i b hi => cell_keep hb (hc i b hi)⟩, h.small⟩
theorem rd_new {w : World} {A : Option Addr} {n c : Nat} {bs : List Nat} (h : Bytes w A n c bs) (h2 : n ≤ 2000) : Rd (w.alloc (.cells #[.slice A n c, .int .i64 0] 58)) w.heap.size bs 0 := by
  obtain ⟨rfl, hle, hcap, hrow, hs⟩ := h
  refine ⟨⟨A, c, heap_alloc_new w _, hle, hcap, fun hne => ?_⟩, hs, h2⟩
  obtain ⟨ad, ea, hc⟩ := hrow hne
  have hpos : 0 < bs.length := List.length_pos_iff.2 hne
  have h0 := hc 0 _ (List.getElem?_eq_getElem hpos)
  have hlt := World.block_lt_of_cell? w _ h0
  rw [add_block] at hlt
  exact ⟨ad, ea, by omega, fun i b hi => cell_keep (bel_alloc (Below.refl _ _) _) (hc i b hi)⟩
theorem open_c (w : World) (A : Option Addr) (n c : Nat) (bs : List Nat) (h : Bytes w A n c bs) :
    Calls Tryd.prog 19 #[.slice A n c] w fun e w' => ∃ bs', e = .returned (.pointer (some ⟨w.heap.size, 0, none⟩)) ∧ Rd w' w.heap.size bs' 0 ∧ Below w.heap.size w w' := by
  have hle := h.le
  have hcap : c ≤ 9223372036854775807 := h.cap
  by_cases hn : 2000 < n
  · have hh := Lib.hid (show Bytes w A 2000 c (bs.take 2000) from
      ⟨by rw [List.length_take, h.len]; omega, by omega, h.cap, fun hne => by
        obtain ⟨ad, ea, hc⟩ := h.row (fun e => hne (by rw [e]; rfl))
        exact ⟨ad, ea, fun i b hi => hc i b (by rw [List.getElem?_take] at hi; split at hi; exact hi; cases hi)⟩, fun b hb => h.small b (List.mem_of_mem_take hb)⟩)
    obtain ⟨ad, rfl, -⟩ := h.row (fun e => by have := h.len; rw [e] at this; simp at this; omega)
    clear h
    have hd : decide ((2000 : Int) < n) = true := decide_eq_true (by omega)
    go_enter Tryd.func19, Tryd.ntmps19
    go_wp2
    go_ret
    exact ⟨_, rfl, rd_new hh.out (Nat.le_refl _), bel_alloc (Below.refl _ _) _⟩
  · have hd : decide ((2000 : Int) < n) = false := decide_eq_false (by omega)
    have hh := Lib.hid (rd_new h (by omega))
    clear h
    go_enter Tryd.func19, Tryd.ntmps19
    go_wp2
    go_ret
    exact ⟨bs, rfl, hh.out, bel_alloc (Below.refl _ _) _⟩

/-- The reader stands in memory that is new since w0. -/
def RS (w0 : World) (g p : Nat) (W : World) : Prop := (∃ bs, Rd W g bs p) ∧ Below w0.heap.size w0 W ∧ w0.heap.size ≤ g
theorem RS.ext {w0 W W' : World} {g p : Nat} (h : RS w0 g p W) (hb : Below W.heap.size W W') : RS w0 g p W' := by
  obtain ⟨⟨bs, h1⟩, h2, h3⟩ := h
  exact ⟨⟨bs, h1.ext hb⟩, bel_trans h2 hb, h3⟩
theorem RS.below {w0 W : World} {g p : Nat} (h : RS w0 g p W) : Below w0.heap.size w0 W := h.2.1
theorem rs_pick {w0 W : World} {g p : Nat} (h : RS w0 g p W) (hp : p ≤ 1099511627776) (n : Int) (hn0 : -9223372036854775808 ≤ n) (hn1 : n ≤ 9223372036854775807) :
    Calls Tryd.prog 21 #[.pointer (some ⟨g, 0, none⟩), .int .i64 n] W fun e w' => ∃ v : Int, e = .returned (.int .i64 v) ∧ Picked n v ∧ RS w0 g (p + 1) w' ∧ W.grownBy w' (some g) := by
  obtain ⟨⟨bs, h1⟩, h2, h3⟩ := h
  refine (pick_c W g bs p h1 hp n hn0 hn1).mono ?_
  rintro e w' ⟨v, rfl, hv, k, rfl⟩
  exact ⟨v, rfl, hv, ⟨⟨bs, h1.next k⟩, bel_next h2 h3 _ k, h3⟩, ⟨rfl, rfl, rfl, by simp [World.setCell, World.drewN], fun b hb hne => heap_setCell_other W _ b _ (fun e => hne (by rw [e]))⟩⟩
theorem cell_grown {W W' : World} {g : Nat} (h : W.grownBy W' (some g)) {a : Addr} {v : Value} (hc : W.cell? a = some v) (hn : a.block ≠ g) : W'.cell? a = some v :=
  (World.cell?_of_block (h.block _ (World.block_lt_of_cell? W a hc) (fun e => hn (Option.some.inj e)))).trans hc
theorem row_grown {W W' : World} {g b : Nat} {cs : Array Value} {t : Nat} {fz : Nat × Nat} (h : W.grownBy W' (some g)) (hc : W.heap[b]? = some (.cells cs t fz)) (hn : b ≠ g) : W'.heap[b]? = some (.cells cs t fz) :=
  (h.block _ (Array.getElem?_eq_some_iff.1 hc).1 (fun e => hn (Option.some.inj e))).trans hc
end Go.Proofs.YtjnangiggnmkoaaDoor
