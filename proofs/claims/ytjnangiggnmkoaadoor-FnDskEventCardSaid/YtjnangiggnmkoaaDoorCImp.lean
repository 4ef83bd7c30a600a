/- The program's reading of a line: its contract. -/
import Derived.Test.YtjnangiggnmkoaaDoorCDsk
import Derived.Test.YtjnangiggnmkoaaDoorCAtoi
namespace Go.Proofs.YtjnangiggnmkoaaDoor
open Go.RowKit
set_option maxRecDepth 100000
set_option maxHeartbeats 1000000
set_option linter.unusedVariables false
/-- How many numbers stand behind a word. -/
def nfOf (k : Nat) : Nat := if k = 1 then 0 else if k = 6 then 3 else 1
theorem evOf_len {s : ByteArray} {D : List ByteArray} {x0 : ByteArray} {k : Nat} (h : D.map L = splitSp (L s)) (h0 : D[0]? = some x0) (hk : kindOf (L x0) = k) (hl : k = 0 ∨ D.length ≠ nfOf k + 1) : evOf s = none := by
  unfold evOf
  rw [← h]
  split
  · match D, h0 with
    | [x], h0 =>
      obtain rfl : x = x0 := by simpa using h0
      show (if kindOf (L x) = 1 then _ else _) = _
      rw [hk, if_neg]
      rintro rfl
      rcases hl with h | h
      · omega
      · simp [nfOf] at h
    | [x, a], h0 =>
      obtain rfl : x = x0 := by simpa using h0
      show (if 2 ≤ kindOf (L x) ∧ kindOf (L x) ≠ 6 then _ else _) = _
      rw [hk, if_neg]
      rintro ⟨h2, h6⟩
      rcases hl with h | h
      · omega
      · rw [nfOf, if_neg (by omega), if_neg h6] at h; simp at h
    | [x, a, b], h0 => rfl
    | [x, a, b, c], h0 =>
      obtain rfl : x = x0 := by simpa using h0
      show (if kindOf (L x) = 6 then _ else _) = _
      rw [hk, if_neg]
      rintro rfl
      rcases hl with h | h
      · omega
      · simp [nfOf] at h
    | x :: a :: b :: c :: d :: r, h0 => rfl
  · rfl
theorem evOf_none {s : ByteArray} {D : List ByteArray} {x0 y : ByteArray} {k i : Nat} (h : D.map L = splitSp (L s)) (h0 : D[0]? = some x0) (hk : kindOf (L x0) = k) (hl : D.length = nfOf k + 1) (hy : D[i + 1]? = some y) (hn : numOf (L y) = none) : evOf s = none := by
  have hi := (List.getElem?_eq_some_iff.1 hy).1
  unfold evOf
  rw [← h]
  split
  · match D, h0 with
    | [x], h0 => simp at hi
    | [x, a], h0 =>
      obtain rfl : i = 0 := by simp at hi; omega
      obtain rfl : a = y := by simpa using hy
      show (if 2 ≤ kindOf (L x) ∧ kindOf (L x) ≠ 6 then _ else _) = _
      rw [hn]; simp
    | [x, a, b], h0 => rfl
    | [x, a, b, c], h0 =>
      show (if kindOf (L x) = 6 then (numOf (L a)).bind fun n => (numOf (L b)).bind fun m => (numOf (L c)).map fun r => _ else _) = _
      split
      · match i, hi with
        | 0, _ => obtain rfl : a = y := by simpa using hy
                  rw [hn]; rfl
        | 1, _ => obtain rfl : b = y := by simpa using hy
                  rw [hn]; cases numOf (L a) <;> rfl
        | 2, _ => obtain rfl : c = y := by simpa using hy
                  rw [hn]; cases numOf (L a) <;> cases numOf (L b) <;> rfl
        | i + 3, hi => exact absurd hi (by simp)
      · rfl
    | x :: a :: b :: c :: d :: r, h0 => rfl
  · rfl
/-- The cells of what is said, as far as it has been read. -/
def cellsAt (k : Nat) (f : Nat → Nat) (i : Nat) : Array Value := #[.int .i64 k, .int .i64 (if 0 < i then f 0 else 0 : Nat), .int .i64 (if 1 < i then f 1 else 0 : Nat), .int .i64 (if 2 < i then f 2 else 0 : Nat)]
theorem evOf_some {s : ByteArray} {D : List ByteArray} {x0 : ByteArray} {k : Nat} {f : Nat → Nat} (h : D.map L = splitSp (L s)) (h40 : s.size ≤ 40) (h0 : D[0]? = some x0) (hk : kindOf (L x0) = k) (h1 : 1 ≤ k) (hl : D.length = nfOf k + 1)
    (hf : ∀ j, j < nfOf k → ∃ y, D[j + 1]? = some y ∧ numOf (L y) = some (f j)) : ∃ e, evOf s = some e ∧ evArr (some e) = cellsAt k f (nfOf k) := by
  unfold evOf
  rw [← h, if_pos h40]
  by_cases e1 : k = 1
  · subst e1
    match D, h0, hl with
    | [x], h0, _ =>
      obtain rfl : x = x0 := by simpa using h0
      exact ⟨_, if_pos hk, rfl⟩
    | [], _, hl => simp [nfOf] at hl
    | x :: y :: r, _, hl => simp [nfOf] at hl
  · by_cases e6 : k = 6
    · subst e6
      match D, h0, hl with
      | [x, a, b, c], h0, _ =>
        obtain rfl : x = x0 := by simpa using h0
        obtain ⟨y0, g0, q0⟩ := hf 0 (by decide)
        obtain ⟨y1, g1, q1⟩ := hf 1 (by decide)
        obtain ⟨y2, g2, q2⟩ := hf 2 (by decide)
        obtain rfl : a = y0 := by simpa using g0
        obtain rfl : b = y1 := by simpa using g1
        obtain rfl : c = y2 := by simpa using g2
        refine ⟨⟨6, f 0, f 1, f 2⟩, ?_, rfl⟩
        show (if kindOf (L x) = 6 then (numOf (L a)).bind fun n => (numOf (L b)).bind fun m => (numOf (L c)).map fun r => _ else _) = _
        rw [if_pos hk, q0, q1, q2]; rfl
      | [], _, hl => simp [nfOf] at hl
      | [_], _, hl => simp [nfOf] at hl
      | [_, _], _, hl => simp [nfOf] at hl
      | [_, _, _], _, hl => simp [nfOf] at hl
      | _ :: _ :: _ :: _ :: _ :: _, _, hl => simp [nfOf] at hl
    · have hn : nfOf k = 1 := by rw [nfOf, if_neg e1, if_neg e6]
      rw [hn] at hl hf ⊢
      match D, h0, hl with
      | [x, a], h0, _ =>
        obtain rfl : x = x0 := by simpa using h0
        obtain ⟨y0, g0, q0⟩ := hf 0 (by decide)
        obtain rfl : a = y0 := by simpa using g0
        refine ⟨⟨kindOf (L x), f 0, 0, 0⟩, ?_, by rw [hk]; rfl⟩
        show (if 2 ≤ kindOf (L x) ∧ kindOf (L x) ≠ 6 then (numOf (L a)).map fun n => _ else _) = _
        rw [if_pos (by omega), q0]; rfl
      | [], _, hl => simp at hl
      | [_], _, hl => simp at hl
      | _ :: _ :: _ :: _, _, hl => simp at hl
theorem cellsAt_set {k i n : Nat} {f : Nat → Nat} (hi : i < 3) : (cellsAt k f i).setIfInBounds (i + 1) (.int .i64 n) = cellsAt k (fun j => if j = i then n else f j) (i + 1) := by
  match i, hi with
  | 0, _ => rfl
  | 1, _ => rfl
  | 2, _ => rfl
/-- Memory while the numbers are read. -/
structure Stt (w wr : World) (b1 p g : Nat) (D : List ByteArray) (nf : Nat) (cs : Array Value) : Prop where
  B : Below w.heap.size w wr
  R : wr.heap[w.heap.size]? = some (.cells #[.int .i64 0, .int .i64 0, .int .i64 0, .int .i64 0] 23 (0, 0))
  D : wr.heap[b1]? = some (.cells (D.map Value.string).toArray 9 (0, 0))
  G : wr.heap[g]? = some (.cells cs 23 (0, 0))
  P : ∀ i, i < nf → wr.cell? ⟨p, i, none⟩ = some (.pointer (some ⟨g, i + 1, none⟩))
  n1 : w.heap.size ≠ g
  n2 : b1 ≠ g
  n3 : p ≠ g
  n4 : w.heap.size ≤ g
namespace Stt
variable {w wr wr' : World} {b1 p g nf : Nat} {D : List ByteArray} {cs : Array Value}
theorem ext (h : Stt w wr b1 p g D nf cs) (hb : Below wr.heap.size wr wr') : Stt w wr' b1 p g D nf cs :=
  ⟨bel_trans h.B hb, box_keep h.R hb, box_keep h.D hb, box_keep h.G hb, fun i hi => cell_keep hb (h.P i hi), h.n1, h.n2, h.n3, h.n4⟩
theorem set (h : Stt w wr b1 p g D nf cs) (i : Nat) (v : Value) : Stt w (wr.setCell ⟨g, i, none⟩ v) b1 p g D nf (cs.setIfInBounds i v) :=
  ⟨h.B.setCell h.n4 v, (heap_setCell_other _ _ _ _ h.n1).trans h.R, (heap_setCell_other _ _ _ _ h.n2).trans h.D, heap_setCell_same _ g i _ _ v h.G,
    fun j hj => (World.cell?_of_block (heap_setCell_other _ _ _ _ h.n3)).trans (h.P j hj), h.n1, h.n2, h.n3, h.n4⟩
theorem word (h : Stt w wr b1 p g D nf cs) {i : Nat} {x : ByteArray} (hx : D[i]? = some x) : wr.cell? ⟨b1, i, none⟩ = some (.string x) := by
  rw [cell_of_row wr b1 i _ _ _ h.D]; simp [hx]
theorem rcells (h : Stt w wr b1 p g D nf cs) : wr.cell? ⟨w.heap.size, 0, none⟩ = some (.int .i64 0) ∧ wr.cell? ⟨w.heap.size, 1, none⟩ = some (.int .i64 0) ∧ wr.cell? ⟨w.heap.size, 2, none⟩ = some (.int .i64 0) ∧ wr.cell? ⟨w.heap.size, 3, none⟩ = some (.int .i64 0) ∧ ∀ i, wr.frozen? ⟨w.heap.size, i, none⟩ = false :=
  ⟨cell_of_row wr _ 0 _ _ _ h.R, cell_of_row wr _ 1 _ _ _ h.R, cell_of_row wr _ 2 _ _ _ h.R, cell_of_row wr _ 3 _ _ _ h.R, fun i => frozen_of_row wr _ i _ _ h.R⟩
end Stt
theorem alloc_size (w : World) (o : Obj) : (w.alloc o).heap.size = w.heap.size + 1 := by
  show (w.heap.push o).size = _
  rw [Array.size_push]
theorem split_count : ∀ (l : Bs), (splitSp l).length ≤ l.length + 1
  | [] => by simp [splitSp]
  | c :: r => by
    have ih := split_count r
    unfold splitSp
    split
    · simp; exact ih
    · cases hs : splitSp r with
      | nil => exact absurd hs (splitSp_ne r)
      | cons y ys => rw [hs] at ih; simp [pre] at ih ⊢; omega
theorem fin_a {w1 w3 : World} (h : Below w1.drew.heap.size w1.drew w3) (cs : Array Value) (e : Nat) : Hid ((w3.alloc (.cells cs e)).heap[w3.heap.size]? = some (.cells cs e)) ∧ Hid (w1.heap.size ≤ w3.heap.size) ∧ Hid (Below w1.heap.size w1 (w3.alloc (.cells cs e))) :=
  ⟨heap_alloc_new w3 _, (of_drew h).size, bel_alloc (of_drew h) _⟩
theorem fin_b {w1 w3 : World} {o : Obj} {a b c d : Value} {e : Nat} (h : Below (w1.alloc o).drew.heap.size (w1.alloc o).drew w3) (hz : w3.heap[w1.heap.size]? = some (.cells #[a, b, c, d] e (0, 0))) (x0 x1 x2 x3 : Value) :
    Hid (((((w3.setCell ⟨w1.heap.size, 0, none⟩ x0).setCell ⟨w1.heap.size, 1, none⟩ x1).setCell ⟨w1.heap.size, 2, none⟩ x2).setCell ⟨w1.heap.size, 3, none⟩ x3).heap[w1.heap.size]? = some (.cells #[x0, x1, x2, x3] e (0, 0))) ∧ Hid (w1.heap.size ≤ w1.heap.size) ∧
      Hid (Below w1.heap.size w1 ((((w3.setCell ⟨w1.heap.size, 0, none⟩ x0).setCell ⟨w1.heap.size, 1, none⟩ x1).setCell ⟨w1.heap.size, 2, none⟩ x2).setCell ⟨w1.heap.size, 3, none⟩ x3)) :=
  ⟨set4 _ _ _ _ hz, Nat.le_refl _, bel_set4 _ _ _ _ (bel_trans (bel_alloc (Below.refl _ _) _) (of_drew h)) (Nat.le_refl _)⟩
set_option maxHeartbeats 4000000 in
theorem impEv_c (s : ByteArray) (w : World) (hs : s.size ≤ 1048576) (hE : Env w) :
    Calls Tryd.prog 6 #[.string s] w fun e w' => e = .returned (.tuple #[.agg (evArr (evOf s)), .bool (evOf s).isSome]) ∧ Below w.heap.size w w' := by
  have HE := Lib.hid hE
  go_enter Tryd.func6, Tryd.ntmps6
  go_upto_region 2 with (go_at_call 14; refine (split_c s _ (by omega) (HE.out.ext (bel_alloc (Below.refl _ _) _))).mono ?_; rintro e w1 ⟨b1, D, rfl, hD, hrow, hb⟩)
  obtain ⟨x0, hx0, h0⟩ := pos_words hD
  have hR := box_keep (heap_alloc_new w _) hb
  have hc0 : w1.cell? ⟨b1, 0, none⟩ = some (.string x0) := by rw [cell_of_row w1 b1 0 _ _ _ hrow]; simp [hx0]
  have hcA : ∀ o, (w1.alloc o).cell? ⟨b1, 0, none⟩ = some (.string x0) := fun o => cell_keep (bel_alloc (Below.refl _ _) o) hc0
  have hbig : D.length ≤ 1048577 := by have := split_count (L s); rw [← hD, List.length_map, L_length] at this; omega
  have HB := Lib.hid (bel_trans (bel_alloc (Below.refl _ _) _) hb)
  have Hrow := Lib.hid hrow
  have HR := Lib.hid hR
  have HD := Lib.hid hD
  clear hb hrow hR hD hE
  go_cut [5] (fun s5 wx => ∃ g, s5 = .pointer (some ⟨g, 0, none⟩) ∧ Hid (wx.heap[g]? = some (.cells #[.int .i64 (ixZ x0), .int .i64 0, .int .i64 0, .int .i64 0] 23 (0, 0))) ∧ Hid (w1.heap.size ≤ g) ∧ Hid (Below w1.heap.size w1 wx))
  case first =>
    go_region_with (first | (go_at_call 16; refine (inames_c _).mono ?_; rintro e w2 ⟨b, rfl, hN, hb2⟩; have hc2 : w2.cell? ⟨b1, 0, none⟩ = some (.string x0) := cell_keep hb2 (by first | exact hc0 | exact hcA _); have hc3 : ∀ o, (w2.alloc o).cell? ⟨b1, 0, none⟩ = some (.string x0) := fun o => cell_keep (bel_alloc (Below.refl _ _) o) hc2; (try (have hzr : w2.heap[w1.heap.size]? = some (.cells #[.int .i64 0, .int .i64 0, .int .i64 0, .int .i64 0] 23 (0, 0)) := box_keep (show (w1.alloc (.cells #[.int .i64 0, .int .i64 0, .int .i64 0, .int .i64 0] 23)).drew.heap[w1.heap.size]? = some _ from heap_alloc_new w1 _) hb2; have hz0 := cell_of_row w2 _ 0 _ _ _ hzr; have hz1 := cell_of_row w2 _ 1 _ _ _ hzr; have hz2 := cell_of_row w2 _ 2 _ _ _ hzr; have hz3 := cell_of_row w2 _ 3 _ _ _ hzr; have hzf : ∀ i, w2.frozen? ⟨w1.heap.size, i, none⟩ = false := fun i => frozen_of_row w2 _ i _ _ hzr; have Hzr := Lib.hid hzr; clear hzr)); have HN := Lib.hid hN; have HB2 := Lib.hid hb2; clear hN hb2) | (go_at_call 15; refine (index_c _ _ _ (by first | exact HN.out | exact box_keep HN.out (bel_alloc (Below.refl _ _) _))).mono ?_; rintro e w3 ⟨rfl, rfl⟩))
    all_goals go_wp2_with fail
    all_goals go_meet
    all_goals refine ⟨_, rfl, ?_⟩
    all_goals first
      | with_reducible exact fin_a HB2.out _ _
      | with_reducible exact fin_b HB2.out Hzr.out _ _ _ _
      | go_show
  case rest =>
    obtain ⟨g, rfl, hg, hge, hbx⟩ := hcut
    have HBx := Lib.hid (bel_trans HB.out hbx.out)
    have HRx := Lib.hid (box_keep HR.out hbx.out)
    have HDx := Lib.hid (box_keep Hrow.out hbx.out)
    have hRlt : w.heap.size < w1.heap.size := (Array.getElem?_eq_some_iff.1 HR.out).1
    have hDlt : b1 < w1.heap.size := (Array.getElem?_eq_some_iff.1 Hrow.out).1
    have hglt : g < wc.heap.size := (Array.getElem?_eq_some_iff.1 hg.out).1
    have hS0 : ∀ (p nf : Nat) (W : World), Below wc.heap.size wc W → (∀ i, i < nf → W.cell? ⟨p, i, none⟩ = some (.pointer (some ⟨g, i + 1, none⟩))) → p ≠ g → Stt w W b1 p g D nf #[.int .i64 (ixZ x0), .int .i64 0, .int .i64 0, .int .i64 0] := fun p nf W hb hp hn =>
      ⟨bel_trans HBx.out hb, box_keep HRx.out hb, box_keep HDx.out hb, box_keep hg.out hb, hp, by have := hge.out; omega, by have := hge.out; omega, hn, by have := hge.out; omega⟩
    have HS0 := Lib.hid hS0
    have hgc := cell_of_row wc g 0 _ _ _ hg.out
    obtain ⟨z, hz⟩ : ∃ z, ixZ x0 = z := ⟨_, rfl⟩
    have hzk := ixZ_kind x0
    have hzg := ixZ_ge x0
    rw [hz] at hzk hzg HS0 hgc
    have HK := Lib.hid hzk
    clear hzk hS0 hg hge hbx HB HR Hrow HBx HRx HDx hc0 hz hRlt hDlt
    by_cases z1 : z = 1
    · subst z1
      go_upto_region 9 with fail
      generalize hW : wc.alloc (.cells #[.pointer (some ⟨g, 1, none⟩)] 39) = W
      have HS := Lib.hid (HS0.out (g + 1) 0 W (by rw [← hW]; exact bel_alloc (Below.refl _ _) _) (fun i hi => by omega) (by omega))
      generalize hp : g + 1 = p at HS
      clear hW hp HS0 hgc hglt
      have h4 := HS.out.rcells
      obtain ⟨r0, r1, r2, r3, rf⟩ := h4
      have q0 := cell_of_row W g 0 _ _ _ HS.out.G
      by_cases h40 : 40 < s.size
      · have HV := Lib.hid (show evOf s = none from if_neg (by omega))
        go_wp2
        all_goals (refine ret_cell_tmp rfl rfl (set4 _ _ _ _ HS.out.R) Tryd.underlying23 rfl (by kernel_rfl) rfl ?_; exact ⟨by rw [HV.out]; rfl, bel_set4 _ _ _ _ HS.out.B (Nat.le_refl _)⟩)
      have e40 : decide ((40 : Int) < s.size) = false := decide_eq_false (by omega)
      have hk : kindOf (L x0) = 1 := by have := HK.out.2 (by decide); omega
      have hnf : nfOf 1 = 0 := by decide
      have hk1 : 1 ≤ 1 := by omega
      by_cases hlen : D.length = 1
      · have HS := Lib.hid (show Stt w W b1 p g D 0 (cellsAt 1 (fun _ => 0) 0) from HS.out)
        rw [hlen]
        have HF := Lib.hid (fun f => evOf_some (f := f) HD.out (by omega) hx0 hk hk1 (by rw [hnf]; exact hlen))
        have HN := Lib.hid (fun i y => evOf_none (i := i) (y := y) HD.out hx0 hk (by rw [hnf]; exact hlen))
        have HL := Lib.hid hlen
        clear hk HK hlen h0 hbig
        go_wp2
        go_loopw [51] (fun v51 wr => ∃ (i : Nat) (f : Nat → Nat), v51 = .int .i64 i ∧ i ≤ 0 ∧ Hid (Stt w wr b1 p g D 0 (cellsAt 1 f i)) ∧ Hid (∀ j, j < i → ∃ y, D[j + 1]? = some y ∧ numOf (L y) = some (f j))) (fun v51 _ => 0 - (intOf v51).toNat)
        case atStart => exact ⟨0, fun _ => 0, rfl, by omega, HS, Lib.hid (fun j hj => by omega)⟩
        case round =>
          obtain ⟨i, f, rfl, hi, HT, HJ⟩ := hrel
          clear HS r0 r1 r2 r3 rf q0
          obtain rfl : i = 0 := by omega
          obtain ⟨ev, HV, hva⟩ := HF.out f (by rw [hnf]; exact HJ.out)
          rw [hnf] at hva
          rw [← hva] at HT
          have HV := Lib.hid HV
          obtain ⟨r0, r1, r2, r3, rf⟩ := HT.out.rcells
          have q0 : wr.cell? ⟨g, 0, none⟩ = some (.int .i64 ev.k) := cell_of_row wr g 0 _ _ _ HT.out.G
          have q1 : wr.cell? ⟨g, 1, none⟩ = some (.int .i64 ev.a) := cell_of_row wr g 1 _ _ _ HT.out.G
          have q2 : wr.cell? ⟨g, 2, none⟩ = some (.int .i64 ev.p) := cell_of_row wr g 2 _ _ _ HT.out.G
          have q3 : wr.cell? ⟨g, 3, none⟩ = some (.int .i64 ev.v) := cell_of_row wr g 3 _ _ _ HT.out.G
          clear HF HN HJ hva hnf
          go_wp2
          all_goals (refine ret_cell_tmp rfl rfl (set4 _ _ _ _ HT.out.R) Tryd.underlying23 rfl (by kernel_rfl) rfl ?_; exact ⟨by rw [HV.out]; rfl, bel_set4 _ _ _ _ HT.out.B (Nat.le_refl _)⟩)
      · have HV := Lib.hid (evOf_len HD.out hx0 hk (.inr (by rw [hnf]; exact hlen)))
        have hne : ((D.length : Int) != 1) = true := bne_iff_ne.2 (by omega)
        go_wp2
        all_goals (refine ret_cell_tmp rfl rfl (set4 _ _ _ _ HS.out.R) Tryd.underlying23 rfl (by kernel_rfl) rfl ?_; exact ⟨by rw [HV.out]; rfl, bel_set4 _ _ _ _ HS.out.B (Nat.le_refl _)⟩)
    · by_cases z6 : z = 6
      · subst z6
        go_upto_region 9 with fail
        generalize hW : (wc.alloc (.cells #[.pointer (some ⟨g, 1, none⟩)] 39)).alloc (.cells #[.pointer (some ⟨g, 1, none⟩), .pointer (some ⟨g, 2, none⟩), .pointer (some ⟨g, 3, none⟩)] 39) = W
        have hpb : (wc.alloc (.cells #[.pointer (some ⟨g, 1, none⟩)] 39)).heap.size = wc.heap.size + 1 := alloc_size _ _
        have HS := Lib.hid (HS0.out (wc.heap.size + 1) 3 W (by rw [← hW]; exact bel_alloc (bel_alloc (Below.refl _ _) _) _) (fun i hi => by rw [← hW, ← hpb, box_cell]; match i, hi with | 0, _ => rfl | 1, _ => rfl | 2, _ => rfl) (by omega))
        generalize hp : wc.heap.size + 1 = p at HS ⊢
        clear hW hp hpb HS0 hgc hglt
        have h4 := HS.out.rcells
        obtain ⟨r0, r1, r2, r3, rf⟩ := h4
        have q0 := cell_of_row W g 0 _ _ _ HS.out.G
        by_cases h40 : 40 < s.size
        · have HV := Lib.hid (show evOf s = none from if_neg (by omega))
          go_wp2
          all_goals (refine ret_cell_tmp rfl rfl (set4 _ _ _ _ HS.out.R) Tryd.underlying23 rfl (by kernel_rfl) rfl ?_; exact ⟨by rw [HV.out]; rfl, bel_set4 _ _ _ _ HS.out.B (Nat.le_refl _)⟩)
        have e40 : decide ((40 : Int) < s.size) = false := decide_eq_false (by omega)
        have hk : kindOf (L x0) = 6 := by have := HK.out.2 (by decide); omega
        have hnf : nfOf 6 = 3 := by decide
        have hk1 : 1 ≤ 6 := by omega
        by_cases hlen : D.length = 4
        · have HS := Lib.hid (show Stt w W b1 p g D 3 (cellsAt 6 (fun _ => 0) 0) from HS.out)
          rw [hlen]
          have HF := Lib.hid (fun f => evOf_some (f := f) HD.out (by omega) hx0 hk hk1 (by rw [hnf]; exact hlen))
          have HN := Lib.hid (fun i y => evOf_none (i := i) (y := y) HD.out hx0 hk (by rw [hnf]; exact hlen))
          have HL := Lib.hid hlen
          clear hk HK hlen h0 hbig
          go_wp2
          go_loopw [51] (fun v51 wr => ∃ (i : Nat) (f : Nat → Nat), v51 = .int .i64 i ∧ i ≤ 3 ∧ Hid (Stt w wr b1 p g D 3 (cellsAt 6 f i)) ∧ Hid (∀ j, j < i → ∃ y, D[j + 1]? = some y ∧ numOf (L y) = some (f j))) (fun v51 _ => 3 - (intOf v51).toNat)
          case atStart => exact ⟨0, fun _ => 0, rfl, by omega, HS, Lib.hid (fun j hj => by omega)⟩
          case round =>
            obtain ⟨i, f, rfl, hi, HT, HJ⟩ := hrel
            clear HS r0 r1 r2 r3 rf q0
            by_cases hlt : i < 3
            · obtain ⟨y, hy⟩ : ∃ y, D[i + 1]? = some y := ⟨_, List.getElem?_eq_getElem (show i + 1 < D.length by rw [HL.out]; omega)⟩
              have hw := HT.out.word hy
              have hp := HT.out.P i hlt
              have hsz : y.size ≤ s.size := word_size HD.out hy
              cases hn : numOf (L y) with
              | some n =>
                obtain ⟨hi1, h5, hn5⟩ := num_some hn
                have HA := Lib.hid (fun W => atoi_num y n hn W)
                have HI := Lib.hid (fun W h => itoa_any (n : Int) (by omega) (by omega) W h)
                rw [hi1] at HI
                have HJ' := Lib.hid (show ∀ j, j < i + 1 → ∃ y, D[j + 1]? = some y ∧ numOf (L y) = some (if j = i then n else f j) from fun j hj => by
                  rcases Nat.lt_or_ge j i with h | h
                  · rw [if_neg (by omega)]; exact HJ.out j h
                  · obtain rfl : j = i := by omega
                    rw [if_pos rfl]; exact ⟨y, hy, hn⟩)
                have h5' : (y.size : Int) ≤ 5 := by omega
                clear hn hi1 hy HF HN HJ
                go_wp2_with (first | (go_at_call 17; refine (HA.out _).mono ?_; rintro e w2 ⟨rfl, hb1⟩; have HT1 := Lib.hid (HT.out.ext hb1); obtain ⟨r0, r1, r2, r3, rf⟩ := HT1.out.rcells; clear hb1) | (go_at_call 18; refine (HI.out _ (HE.out.ext HT1.out.B)).mono ?_; rintro e w3 ⟨rfl, hb2⟩; have HT2 := Lib.hid (HT1.out.ext hb2); obtain ⟨t0, t1, t2, t3, tf⟩ := HT2.out.rcells; obtain ⟨vg, hvg⟩ : ∃ vg, w3.cell? ⟨g, i + 1, none⟩ = some vg := ⟨_, (cell_of_row w3 g (i + 1) _ _ _ HT2.out.G).trans (Array.getElem?_eq_getElem (show i + 1 < 4 by omega))⟩; have hfg := frozen_of_row w3 g (i + 1) _ _ HT2.out.G; clear hb2))
                exact ⟨⟨i + 1, fun j => if j = i then n else f j, by go_num, by omega, Lib.hid (by have := HT2.out.set (i + 1) (.int .i64 n); rw [cellsAt_set (by omega)] at this; exact this), HJ'⟩, by simp [intOf]; omega⟩
              | none =>
                have HV := Lib.hid (HN.out i y hy hn)
                rcases atoi_any y (by omega) with ⟨v, hv0, hv1, hA⟩ | hA
                · have HA := Lib.hid hA
                  have HI := Lib.hid (fun W h => itoa_any v hv0 hv1 W h)
                  by_cases hv : v < 0
                  · clear hn hy HF HN HJ hA
                    go_wp2_with (first | (go_at_call 17; refine (HA.out _).mono ?_; rintro e w2 ⟨rfl, hb1⟩; have HT1 := Lib.hid (HT.out.ext hb1); obtain ⟨r0, r1, r2, r3, rf⟩ := HT1.out.rcells; clear hb1))
                    all_goals (refine ret_cell_tmp rfl rfl (set4 _ _ _ _ HT1.out.R) Tryd.underlying23 rfl (by kernel_rfl) rfl ?_; exact ⟨by rw [HV.out]; rfl, bel_set4 _ _ _ _ HT1.out.B (Nat.le_refl _)⟩)
                  · by_cases he : B (Lib.itoa v) = y
                    · have h5 := num_none hn (by omega) he
                      have h5' : decide ((5 : Int) < y.size) = true := decide_eq_true (by omega)
                      rw [he] at HI
                      clear hn hy HF HN HJ hA he
                      go_wp2_with (first | (go_at_call 17; refine (HA.out _).mono ?_; rintro e w2 ⟨rfl, hb1⟩; have HT1 := Lib.hid (HT.out.ext hb1); obtain ⟨r0, r1, r2, r3, rf⟩ := HT1.out.rcells; clear hb1) | (go_at_call 18; refine (HI.out _ (HE.out.ext HT1.out.B)).mono ?_; rintro e w3 ⟨rfl, hb2⟩; have HT2 := Lib.hid (HT1.out.ext hb2); obtain ⟨t0, t1, t2, t3, tf⟩ := HT2.out.rcells; skip; clear hb2))
                      all_goals (refine ret_cell_tmp rfl rfl (set4 _ _ _ _ HT2.out.R) Tryd.underlying23 rfl (by kernel_rfl) rfl ?_; exact ⟨by rw [HV.out]; rfl, bel_set4 _ _ _ _ HT2.out.B (Nat.le_refl _)⟩)
                    · have hne1 := str_ne he
                      have hne2 := str_nb he
                      obtain ⟨T, hT⟩ : ∃ T, B (Lib.itoa v) = T := ⟨_, rfl⟩
                      rw [hT] at HI hne1 hne2
                      clear hn hy HF HN HJ hA he hT
                      go_wp2_with (first | (go_at_call 17; refine (HA.out _).mono ?_; rintro e w2 ⟨rfl, hb1⟩; have HT1 := Lib.hid (HT.out.ext hb1); obtain ⟨r0, r1, r2, r3, rf⟩ := HT1.out.rcells; clear hb1) | (go_at_call 18; refine (HI.out _ (HE.out.ext HT1.out.B)).mono ?_; rintro e w3 ⟨rfl, hb2⟩; have HT2 := Lib.hid (HT1.out.ext hb2); obtain ⟨t0, t1, t2, t3, tf⟩ := HT2.out.rcells; skip; clear hb2))
                      all_goals (refine ret_cell_tmp rfl rfl (set4 _ _ _ _ HT2.out.R) Tryd.underlying23 rfl (by kernel_rfl) rfl ?_; exact ⟨by rw [HV.out]; rfl, bel_set4 _ _ _ _ HT2.out.B (Nat.le_refl _)⟩)
                · have HA := Lib.hid hA
                  clear hn hy HF HN HJ hA
                  go_wp2_with (first | (go_at_call 17; refine (HA.out _ (HE.out.ext HT.out.B)).mono ?_; rintro e w2 ⟨v, t, N, rfl, hb1⟩; have HT1 := Lib.hid (HT.out.ext hb1); obtain ⟨r0, r1, r2, r3, rf⟩ := HT1.out.rcells; clear hb1))
                  all_goals (refine ret_cell_tmp rfl rfl (set4 _ _ _ _ HT1.out.R) Tryd.underlying23 rfl (by kernel_rfl) rfl ?_; exact ⟨by rw [HV.out]; rfl, bel_set4 _ _ _ _ HT1.out.B (Nat.le_refl _)⟩)
            · obtain rfl : i = 3 := by omega
              obtain ⟨ev, HV, hva⟩ := HF.out f (by rw [hnf]; exact HJ.out)
              rw [hnf] at hva
              rw [← hva] at HT
              have HV := Lib.hid HV
              obtain ⟨r0, r1, r2, r3, rf⟩ := HT.out.rcells
              have q0 : wr.cell? ⟨g, 0, none⟩ = some (.int .i64 ev.k) := cell_of_row wr g 0 _ _ _ HT.out.G
              have q1 : wr.cell? ⟨g, 1, none⟩ = some (.int .i64 ev.a) := cell_of_row wr g 1 _ _ _ HT.out.G
              have q2 : wr.cell? ⟨g, 2, none⟩ = some (.int .i64 ev.p) := cell_of_row wr g 2 _ _ _ HT.out.G
              have q3 : wr.cell? ⟨g, 3, none⟩ = some (.int .i64 ev.v) := cell_of_row wr g 3 _ _ _ HT.out.G
              clear HF HN HJ hva hnf
              go_wp2
              all_goals (refine ret_cell_tmp rfl rfl (set4 _ _ _ _ HT.out.R) Tryd.underlying23 rfl (by kernel_rfl) rfl ?_; exact ⟨by rw [HV.out]; rfl, bel_set4 _ _ _ _ HT.out.B (Nat.le_refl _)⟩)
        · have HV := Lib.hid (evOf_len HD.out hx0 hk (.inr (by rw [hnf]; exact hlen)))
          have hne : ((D.length : Int) != 4) = true := bne_iff_ne.2 (by omega)
          go_wp2
          all_goals (refine ret_cell_tmp rfl rfl (set4 _ _ _ _ HS.out.R) Tryd.underlying23 rfl (by kernel_rfl) rfl ?_; exact ⟨by rw [HV.out]; rfl, bel_set4 _ _ _ _ HS.out.B (Nat.le_refl _)⟩)
      · have e1 : (z == 1) = false := beq_eq_false_iff_ne.2 z1
        have e6 : (z == 6) = false := beq_eq_false_iff_ne.2 z6
        go_upto_region 9 with fail
        generalize hW : wc.alloc (.cells #[.pointer (some ⟨g, 1, none⟩)] 39) = W
        have HS := Lib.hid (HS0.out wc.heap.size 1 W (by rw [← hW]; exact bel_alloc (Below.refl _ _) _) (fun i hi => by rw [← hW, box_cell]; match i, hi with | 0, _ => rfl) (by omega))
        generalize hp : wc.heap.size = p at HS ⊢
        clear hW hp HS0 hgc hglt
        have h4 := HS.out.rcells
        obtain ⟨r0, r1, r2, r3, rf⟩ := h4
        have q0 := cell_of_row W g 0 _ _ _ HS.out.G
        by_cases h40 : 40 < s.size
        · have HV := Lib.hid (show evOf s = none from if_neg (by omega))
          go_wp2
          all_goals (refine ret_cell_tmp rfl rfl (set4 _ _ _ _ HS.out.R) Tryd.underlying23 rfl (by kernel_rfl) rfl ?_; exact ⟨by rw [HV.out]; rfl, bel_set4 _ _ _ _ HS.out.B (Nat.le_refl _)⟩)
        have e40 : decide ((40 : Int) < s.size) = false := decide_eq_false (by omega)
        by_cases hlt : z < 1
        · have HV := Lib.hid (evOf_len HD.out hx0 (HK.out.1 hlt) (.inl rfl))
          go_wp2
          all_goals (refine ret_cell_tmp rfl rfl (set4 _ _ _ _ HS.out.R) Tryd.underlying23 rfl (by kernel_rfl) rfl ?_; exact ⟨by rw [HV.out]; rfl, bel_set4 _ _ _ _ HS.out.B (Nat.le_refl _)⟩)
        obtain ⟨k, rfl⟩ : ∃ k : Nat, z = k := ⟨z.toNat, by omega⟩
        have hk : kindOf (L x0) = k := by have := HK.out.2 (by omega); omega
        have hnf : nfOf k = 1 := by rw [nfOf, if_neg (by omega), if_neg (by omega)]
        have hk1 : 1 ≤ k := by omega
        by_cases hlen : D.length = 2
        · have HS := Lib.hid (show Stt w W b1 p g D 1 (cellsAt k (fun _ => 0) 0) from HS.out)
          rw [hlen]
          have HF := Lib.hid (fun f => evOf_some (f := f) HD.out (by omega) hx0 hk hk1 (by rw [hnf]; exact hlen))
          have HN := Lib.hid (fun i y => evOf_none (i := i) (y := y) HD.out hx0 hk (by rw [hnf]; exact hlen))
          have HL := Lib.hid hlen
          clear hk HK hlen h0 hbig
          go_wp2
          go_loopw [51] (fun v51 wr => ∃ (i : Nat) (f : Nat → Nat), v51 = .int .i64 i ∧ i ≤ 1 ∧ Hid (Stt w wr b1 p g D 1 (cellsAt k f i)) ∧ Hid (∀ j, j < i → ∃ y, D[j + 1]? = some y ∧ numOf (L y) = some (f j))) (fun v51 _ => 1 - (intOf v51).toNat)
          case atStart => exact ⟨0, fun _ => 0, rfl, by omega, HS, Lib.hid (fun j hj => by omega)⟩
          case round =>
            obtain ⟨i, f, rfl, hi, HT, HJ⟩ := hrel
            clear HS r0 r1 r2 r3 rf q0
            by_cases hlt : i < 1
            · obtain ⟨y, hy⟩ : ∃ y, D[i + 1]? = some y := ⟨_, List.getElem?_eq_getElem (show i + 1 < D.length by rw [HL.out]; omega)⟩
              have hw := HT.out.word hy
              have hp := HT.out.P i hlt
              have hsz : y.size ≤ s.size := word_size HD.out hy
              cases hn : numOf (L y) with
              | some n =>
                obtain ⟨hi1, h5, hn5⟩ := num_some hn
                have HA := Lib.hid (fun W => atoi_num y n hn W)
                have HI := Lib.hid (fun W h => itoa_any (n : Int) (by omega) (by omega) W h)
                rw [hi1] at HI
                have HJ' := Lib.hid (show ∀ j, j < i + 1 → ∃ y, D[j + 1]? = some y ∧ numOf (L y) = some (if j = i then n else f j) from fun j hj => by
                  rcases Nat.lt_or_ge j i with h | h
                  · rw [if_neg (by omega)]; exact HJ.out j h
                  · obtain rfl : j = i := by omega
                    rw [if_pos rfl]; exact ⟨y, hy, hn⟩)
                have h5' : (y.size : Int) ≤ 5 := by omega
                clear hn hi1 hy HF HN HJ
                go_wp2_with (first | (go_at_call 17; refine (HA.out _).mono ?_; rintro e w2 ⟨rfl, hb1⟩; have HT1 := Lib.hid (HT.out.ext hb1); obtain ⟨r0, r1, r2, r3, rf⟩ := HT1.out.rcells; clear hb1) | (go_at_call 18; refine (HI.out _ (HE.out.ext HT1.out.B)).mono ?_; rintro e w3 ⟨rfl, hb2⟩; have HT2 := Lib.hid (HT1.out.ext hb2); obtain ⟨t0, t1, t2, t3, tf⟩ := HT2.out.rcells; obtain ⟨vg, hvg⟩ : ∃ vg, w3.cell? ⟨g, i + 1, none⟩ = some vg := ⟨_, (cell_of_row w3 g (i + 1) _ _ _ HT2.out.G).trans (Array.getElem?_eq_getElem (show i + 1 < 4 by omega))⟩; have hfg := frozen_of_row w3 g (i + 1) _ _ HT2.out.G; clear hb2))
                exact ⟨⟨i + 1, fun j => if j = i then n else f j, by go_num, by omega, Lib.hid (by have := HT2.out.set (i + 1) (.int .i64 n); rw [cellsAt_set (by omega)] at this; exact this), HJ'⟩, by simp [intOf]; omega⟩
              | none =>
                have HV := Lib.hid (HN.out i y hy hn)
                rcases atoi_any y (by omega) with ⟨v, hv0, hv1, hA⟩ | hA
                · have HA := Lib.hid hA
                  have HI := Lib.hid (fun W h => itoa_any v hv0 hv1 W h)
                  by_cases hv : v < 0
                  · clear hn hy HF HN HJ hA
                    go_wp2_with (first | (go_at_call 17; refine (HA.out _).mono ?_; rintro e w2 ⟨rfl, hb1⟩; have HT1 := Lib.hid (HT.out.ext hb1); obtain ⟨r0, r1, r2, r3, rf⟩ := HT1.out.rcells; clear hb1))
                    all_goals (refine ret_cell_tmp rfl rfl (set4 _ _ _ _ HT1.out.R) Tryd.underlying23 rfl (by kernel_rfl) rfl ?_; exact ⟨by rw [HV.out]; rfl, bel_set4 _ _ _ _ HT1.out.B (Nat.le_refl _)⟩)
                  · by_cases he : B (Lib.itoa v) = y
                    · have h5 := num_none hn (by omega) he
                      have h5' : decide ((5 : Int) < y.size) = true := decide_eq_true (by omega)
                      rw [he] at HI
                      clear hn hy HF HN HJ hA he
                      go_wp2_with (first | (go_at_call 17; refine (HA.out _).mono ?_; rintro e w2 ⟨rfl, hb1⟩; have HT1 := Lib.hid (HT.out.ext hb1); obtain ⟨r0, r1, r2, r3, rf⟩ := HT1.out.rcells; clear hb1) | (go_at_call 18; refine (HI.out _ (HE.out.ext HT1.out.B)).mono ?_; rintro e w3 ⟨rfl, hb2⟩; have HT2 := Lib.hid (HT1.out.ext hb2); obtain ⟨t0, t1, t2, t3, tf⟩ := HT2.out.rcells; skip; clear hb2))
                      all_goals (refine ret_cell_tmp rfl rfl (set4 _ _ _ _ HT2.out.R) Tryd.underlying23 rfl (by kernel_rfl) rfl ?_; exact ⟨by rw [HV.out]; rfl, bel_set4 _ _ _ _ HT2.out.B (Nat.le_refl _)⟩)
                    · have hne1 := str_ne he
                      have hne2 := str_nb he
                      obtain ⟨T, hT⟩ : ∃ T, B (Lib.itoa v) = T := ⟨_, rfl⟩
                      rw [hT] at HI hne1 hne2
                      clear hn hy HF HN HJ hA he hT
                      go_wp2_with (first | (go_at_call 17; refine (HA.out _).mono ?_; rintro e w2 ⟨rfl, hb1⟩; have HT1 := Lib.hid (HT.out.ext hb1); obtain ⟨r0, r1, r2, r3, rf⟩ := HT1.out.rcells; clear hb1) | (go_at_call 18; refine (HI.out _ (HE.out.ext HT1.out.B)).mono ?_; rintro e w3 ⟨rfl, hb2⟩; have HT2 := Lib.hid (HT1.out.ext hb2); obtain ⟨t0, t1, t2, t3, tf⟩ := HT2.out.rcells; skip; clear hb2))
                      all_goals (refine ret_cell_tmp rfl rfl (set4 _ _ _ _ HT2.out.R) Tryd.underlying23 rfl (by kernel_rfl) rfl ?_; exact ⟨by rw [HV.out]; rfl, bel_set4 _ _ _ _ HT2.out.B (Nat.le_refl _)⟩)
                · have HA := Lib.hid hA
                  clear hn hy HF HN HJ hA
                  go_wp2_with (first | (go_at_call 17; refine (HA.out _ (HE.out.ext HT.out.B)).mono ?_; rintro e w2 ⟨v, t, N, rfl, hb1⟩; have HT1 := Lib.hid (HT.out.ext hb1); obtain ⟨r0, r1, r2, r3, rf⟩ := HT1.out.rcells; clear hb1))
                  all_goals (refine ret_cell_tmp rfl rfl (set4 _ _ _ _ HT1.out.R) Tryd.underlying23 rfl (by kernel_rfl) rfl ?_; exact ⟨by rw [HV.out]; rfl, bel_set4 _ _ _ _ HT1.out.B (Nat.le_refl _)⟩)
            · obtain rfl : i = 1 := by omega
              obtain ⟨ev, HV, hva⟩ := HF.out f (by rw [hnf]; exact HJ.out)
              rw [hnf] at hva
              rw [← hva] at HT
              have HV := Lib.hid HV
              obtain ⟨r0, r1, r2, r3, rf⟩ := HT.out.rcells
              have q0 : wr.cell? ⟨g, 0, none⟩ = some (.int .i64 ev.k) := cell_of_row wr g 0 _ _ _ HT.out.G
              have q1 : wr.cell? ⟨g, 1, none⟩ = some (.int .i64 ev.a) := cell_of_row wr g 1 _ _ _ HT.out.G
              have q2 : wr.cell? ⟨g, 2, none⟩ = some (.int .i64 ev.p) := cell_of_row wr g 2 _ _ _ HT.out.G
              have q3 : wr.cell? ⟨g, 3, none⟩ = some (.int .i64 ev.v) := cell_of_row wr g 3 _ _ _ HT.out.G
              clear HF HN HJ hva hnf
              go_wp2
              all_goals (refine ret_cell_tmp rfl rfl (set4 _ _ _ _ HT.out.R) Tryd.underlying23 rfl (by kernel_rfl) rfl ?_; exact ⟨by rw [HV.out]; rfl, bel_set4 _ _ _ _ HT.out.B (Nat.le_refl _)⟩)
        · have HV := Lib.hid (evOf_len HD.out hx0 hk (.inr (by rw [hnf]; exact hlen)))
          have hne : ((D.length : Int) != 2) = true := bne_iff_ne.2 (by omega)
          go_wp2
          all_goals (refine ret_cell_tmp rfl rfl (set4 _ _ _ _ HS.out.R) Tryd.underlying23 rfl (by kernel_rfl) rfl ?_; exact ⟨by rw [HV.out]; rfl, bel_set4 _ _ _ _ HS.out.B (Nat.le_refl _)⟩)
end Go.Proofs.YtjnangiggnmkoaaDoor
