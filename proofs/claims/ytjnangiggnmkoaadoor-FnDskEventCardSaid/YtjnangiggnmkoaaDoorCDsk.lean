/- The reference's reading of a line: its contract. -/
import Derived.Test.YtjnangiggnmkoaaDoorCEv
namespace Go.Proofs.YtjnangiggnmkoaaDoor
open Go.RowKit
set_option maxRecDepth 100000
set_option maxHeartbeats 1000000
set_option linter.unusedVariables false
/-- What is said, as the program bears it. -/
def evArr (o : Option Ev) : Array Value := match o with
  | none => #[.int .i64 0, .int .i64 0, .int .i64 0, .int .i64 0]
  | some e => #[.int .i64 e.k, .int .i64 e.a, .int .i64 e.p, .int .i64 e.v]
theorem add_zero' (a : Addr) : a.add 0 = a := by unfold Addr.add; rw [if_pos rfl]
theorem pos_words {s : ByteArray} {D : List ByteArray} (h : D.map L = splitSp (L s)) : ∃ x0, D[0]? = some x0 ∧ 0 < D.length := by
  cases D with
  | nil => exact absurd h.symm (splitSp_ne _)
  | cons x D => exact ⟨x, rfl, by simp⟩
theorem evSpec_at {s : ByteArray} {D : List ByteArray} {x0 : ByteArray} (h : D.map L = splitSp (L s)) (h0 : D[0]? = some x0) :
    evSpec s = if kindOf (L x0) = 0 ∨ 40 < s.size ∨ numAt (D.map L) 1 < 0 ∨ numAt (D.map L) 2 < 0 ∨ numAt (D.map L) 3 < 0 then none
      else if evText ⟨kindOf (L x0), (numAt (D.map L) 1).toNat, (numAt (D.map L) 2).toNat, (numAt (D.map L) 3).toNat⟩ = L s then some ⟨kindOf (L x0), (numAt (D.map L) 1).toNat, (numAt (D.map L) 2).toNat, (numAt (D.map L) 3).toNat⟩ else none := by
  unfold evSpec
  rw [← h]
  cases D with
  | nil => cases h0
  | cons x D => obtain rfl : x = x0 := by simpa using h0
                rfl
theorem split_len : ∀ (l : Bs) (x : Bs), x ∈ splitSp l → x.length ≤ l.length
  | [], x, h => by simp [splitSp] at h; subst h; simp
  | c :: r, x, h => by
    unfold splitSp at h
    split at h
    · rcases List.mem_cons.1 h with rfl | h
      · simp
      · have := split_len r x h; simp; omega
    · have ih := split_len r
      cases hs : splitSp r with
      | nil => exact absurd hs (splitSp_ne r)
      | cons y ys =>
        rw [hs] at h ih
        simp only [pre, List.mem_cons] at h
        rcases h with rfl | h
        · have := ih y List.mem_cons_self; simp; omega
        · have := ih x (List.mem_cons_of_mem _ h); simp; omega
theorem word_size {s : ByteArray} {D : List ByteArray} {x : ByteArray} {i : Nat} (h : D.map L = splitSp (L s)) (hx : D[i]? = some x) : x.size ≤ s.size := by
  have := split_len (L s) (L x) (by rw [← h]; exact List.mem_map_of_mem (List.mem_of_getElem? hx))
  rw [L_length, L_length] at this; exact this
theorem if_neg_or {p q : Prop} [Decidable (p ∨ q)] [Decidable q] {α : Type} {x y : α} (h : ¬ p) : (if p ∨ q then x else y) = if q then x else y := by
  by_cases hq : q
  · rw [if_pos (.inr hq), if_pos hq]
  · rw [if_neg (fun e => e.elim h hq), if_neg hq]
theorem num1_le (x : Bs) : num1 x ≤ 100000 := by
  unfold num1
  split
  · rename_i h
    have hv := valF_lt x 0 (fun b hb => by
      have := List.all_eq_true.1 h.1 b hb
      simp [isDig] at this; omega)
    have hp : (10 : Nat) ^ x.length ≤ 10 ^ 5 := Nat.pow_le_pow_right (by omega) h.2.2
    unfold val; omega
  · omega
theorem numAt_le (ws : List Bs) (i : Nat) : numAt ws i ≤ 100000 := by
  unfold numAt
  cases ws[i]? with
  | none => simp
  | some x => exact num1_le x
theorem post9 {w w2 w9 : World} {g t : Nat} {a b c d e0 e1 e2 e3 : Value} (hR : w2.heap[g]? = some (.cells #[a, b, c, d] t (0, 0))) (hB : Below w.heap.size w w2) (h9 : Below (w2.alloc (.cells #[e0, e1, e2, e3] t)).heap.size (w2.alloc (.cells #[e0, e1, e2, e3] t)) w9) :
    w9.cell? ⟨w2.heap.size, 0, none⟩ = some e0 ∧ w9.cell? ⟨w2.heap.size, 1, none⟩ = some e1 ∧ w9.cell? ⟨w2.heap.size, 2, none⟩ = some e2 ∧ w9.cell? ⟨w2.heap.size, 3, none⟩ = some e3 ∧
    w9.cell? ⟨g, 0, none⟩ = some a ∧ w9.cell? ⟨g, 1, none⟩ = some b ∧ w9.cell? ⟨g, 2, none⟩ = some c ∧ w9.cell? ⟨g, 3, none⟩ = some d ∧ (∀ i, w9.frozen? ⟨g, i, none⟩ = false) ∧
    Hid (w9.heap[g]? = some (.cells #[a, b, c, d] t (0, 0))) ∧ Hid (Below w.heap.size w w9) := by
  have hb := bel_trans (bel_alloc (Below.refl _ w2) _) h9
  have h1 := box_keep hR hb
  have h2 := box_keep (heap_alloc_new w2 (.cells #[e0, e1, e2, e3] t)) h9
  exact ⟨cell_of_row w9 _ 0 _ _ _ h2, cell_of_row w9 _ 1 _ _ _ h2, cell_of_row w9 _ 2 _ _ _ h2, cell_of_row w9 _ 3 _ _ _ h2, cell_of_row w9 _ 0 _ _ _ h1, cell_of_row w9 _ 1 _ _ _ h1, cell_of_row w9 _ 2 _ _ _ h1, cell_of_row w9 _ 3 _ _ _ h1,
    fun i => frozen_of_row w9 _ i _ _ h1, Lib.hid h1, Lib.hid (bel_trans hB hb)⟩
set_option maxHeartbeats 8000000 in
theorem specEv_c (s : ByteArray) (w : World) (hs : s.size ≤ 1048576) :
    Calls Tryd.prog 5 #[.string s] w fun e w' => e = .returned (.tuple #[.agg (evArr (evSpec s)), .bool (evSpec s).isSome]) ∧ Below w.heap.size w w' := by
  have HW := Lib.hid (fun W => words_c s W (by omega))
  have HK := Lib.hid (fun x W => kind_c x W)
  go_enter Tryd.func5, Tryd.ntmps5
  go_upto_region 3 with (first | (go_at_call 10; refine (HW.out _).mono ?_; rintro e w1 ⟨v, D, rfl, ⟨A, c, rfl, hl, hl', hC⟩, hD, hb⟩; obtain ⟨x0, hx0, h0⟩ : ∃ x0, D[0]? = some x0 ∧ 0 < D.length := pos_words hD; obtain ⟨ad, rfl, hc0⟩ := str_at hC hx0; rw [add_zero'] at hc0; have HD := Lib.hid hD; have HC := Lib.hid hC; have HB := Lib.hid hb; have HX0 := Lib.hid hx0; clear hD hC hb hx0) | (go_at_call 11; refine (HK.out _ _).mono ?_; rintro e w2 ⟨rfl, hb2⟩; obtain ⟨k, hk⟩ : ∃ k, kindOf (L x0) = k := ⟨_, rfl⟩; rw [hk]; have HB2 := Lib.hid hb2; have Hk := Lib.hid hk; clear hb2 hk))
  have HC2 := Lib.hid (Kd.C_ext HB2.out HC.out)
  have HB3 := Lib.hid (bel_trans HB.out HB2.out)
  have hR : w2.heap[w.heap.size]? = some (.cells #[.int .i64 0, .int .i64 0, .int .i64 0, .int .i64 0] 23 (0, 0)) := box_keep (heap_alloc_new w _) HB3.out
  have hsz : w.heap.size < w2.heap.size := (Array.getElem?_eq_some_iff.1 hR).1
  have HB4 := Lib.hid (bel_trans (bel_alloc (Below.refl _ _) _) HB3.out)
  have r0 := cell_of_row w2 _ 0 _ _ _ hR
  have r1 := cell_of_row w2 _ 1 _ _ _ hR
  have r2 := cell_of_row w2 _ 2 _ _ _ hR
  have r3 := cell_of_row w2 _ 3 _ _ _ hR
  have f0 : ∀ i, w2.frozen? ⟨w.heap.size, i, none⟩ = false := fun i => frozen_of_row w2 _ i _ _ hR
  have HR := Lib.hid hR
  clear hR HB HB2 HC HB3 hc0
  have hE0 : ∀ (o : Obj) (a b c d : Value), (((((w2.setCell ⟨w.heap.size, 0, none⟩ a).setCell ⟨w.heap.size, 1, none⟩ b).setCell ⟨w.heap.size, 2, none⟩ c).setCell ⟨w.heap.size, 3, none⟩ d).alloc o).heap[w.heap.size]? = some (.cells #[a, b, c, d] 23 (0, 0)) := fun o a b c d => by
    rw [Below.heap_alloc _ o _ (by simpa [World.setCell] using hsz)]
    exact set4 _ _ _ _ HR.out
  have hB0 : ∀ (o : Obj) (a b c d : Value), Below w.heap.size w (((((w2.setCell ⟨w.heap.size, 0, none⟩ a).setCell ⟨w.heap.size, 1, none⟩ b).setCell ⟨w.heap.size, 2, none⟩ c).setCell ⟨w.heap.size, 3, none⟩ d).alloc o) := fun o a b c d =>
    (bel_set4 a b c d HB4.out (Nat.le_refl _)).alloc (by simp [World.setCell]; omega) o
  replace hE0 := Lib.hid hE0
  replace hB0 := Lib.hid hB0
  by_cases hk0 : k = 0
  · subst hk0
    go_wp2
    refine ret_cell_tmp rfl rfl (hE0.out _ _ _ _ _) Tryd.underlying23 rfl (by kernel_rfl) rfl ?_
    exact ⟨by rw [evSpec_at HD.out HX0.out, if_pos (.inl Hk.out)]; rfl, hB0.out _ _ _ _ _⟩
  by_cases h40 : 40 < s.size
  · go_wp2
    refine ret_cell_tmp rfl rfl (hE0.out _ _ _ _ _) Tryd.underlying23 rfl (by kernel_rfl) rfl ?_
    exact ⟨by rw [evSpec_at HD.out HX0.out, if_pos (.inr (.inl h40))]; rfl, hB0.out _ _ _ _ _⟩
  have e0 : ((k : Int) == 0) = false := beq_eq_false_iff_ne.2 (by omega)
  have e40 : decide ((40 : Int) < s.size) = false := decide_eq_false (by omega)
  have hk9 : k < 9 := by rw [← Hk.out]; exact kind_lt _
  have HT := Lib.hid (fun (a p v : Nat) (ha : a ≤ 100000) (hp : p ≤ 100000) (hv : v ≤ 100000) W => text_c k a p v W (by omega) hk9 ha hp hv)
  have HN := Lib.hid (fun (i : Nat) (x : ByteArray) (h : D[i]? = some x) W => num9_c x W (Nat.le_trans (word_size HD.out h) (by omega)))
  have hspec := evSpec_at HD.out HX0.out
  rw [Hk.out, if_neg_or hk0, if_neg_or h40] at hspec
  have HAT := Lib.hid (fun (i : Nat) (x : ByteArray) (h : D[i]? = some x) => str_at HC2.out h)
  obtain ⟨n1, n2, n3, hn1, hn2, hn3⟩ : ∃ n1 n2 n3, numAt (D.map L) 1 = n1 ∧ numAt (D.map L) 2 = n2 ∧ numAt (D.map L) 3 = n3 := ⟨_, _, _, rfl, rfl, rfl⟩
  have hw1 : 1 < D.length → ∃ x, (∀ o, (w2.alloc o).cell? ⟨ad.block, ad.off + 1, none⟩ = some (.string x)) ∧ Hid (∀ W, Calls Tryd.prog 12 #[.string x] W fun e w' => e = .returned (.int .i64 n1) ∧ W = w') := fun h => by
    obtain ⟨ad', ea, hc⟩ := HAT.out 1 D[1] (List.getElem?_eq_getElem h)
    injection ea with ea; subst ea
    exact ⟨_, fun o => cell_keep (bel_alloc (Below.refl _ _) o) hc, Lib.hid (fun W => by have := HN.out 1 D[1] (List.getElem?_eq_getElem h) W; rw [← hn1]; simpa [numAt, List.getElem?_eq_getElem h] using this)⟩
  have hw2 : 2 < D.length → ∃ x, (∀ o, (w2.alloc o).cell? ⟨ad.block, ad.off + 2, none⟩ = some (.string x)) ∧ Hid (∀ W, Calls Tryd.prog 12 #[.string x] W fun e w' => e = .returned (.int .i64 n2) ∧ W = w') := fun h => by
    obtain ⟨ad', ea, hc⟩ := HAT.out 2 D[2] (List.getElem?_eq_getElem h)
    injection ea with ea; subst ea
    exact ⟨_, fun o => cell_keep (bel_alloc (Below.refl _ _) o) hc, Lib.hid (fun W => by have := HN.out 2 D[2] (List.getElem?_eq_getElem h) W; rw [← hn2]; simpa [numAt, List.getElem?_eq_getElem h] using this)⟩
  have hw3 : 3 < D.length → ∃ x, (∀ o, (w2.alloc o).cell? ⟨ad.block, ad.off + 3, none⟩ = some (.string x)) ∧ Hid (∀ W, Calls Tryd.prog 12 #[.string x] W fun e w' => e = .returned (.int .i64 n3) ∧ W = w') := fun h => by
    obtain ⟨ad', ea, hc⟩ := HAT.out 3 D[3] (List.getElem?_eq_getElem h)
    injection ea with ea; subst ea
    exact ⟨_, fun o => cell_keep (bel_alloc (Below.refl _ _) o) hc, Lib.hid (fun W => by have := HN.out 3 D[3] (List.getElem?_eq_getElem h) W; rw [← hn3]; simpa [numAt, List.getElem?_eq_getElem h] using this)⟩
  have hz1 : ¬ 1 < D.length → n1 = 0 := fun h => by rw [← hn1]; simp [numAt, List.getElem?_eq_none (show D.length ≤ 1 by omega)]
  have hz2 : ¬ 2 < D.length → n2 = 0 := fun h => by rw [← hn2]; simp [numAt, List.getElem?_eq_none (show D.length ≤ 2 by omega)]
  have hz3 : ¬ 3 < D.length → n3 = 0 := fun h => by rw [← hn3]; simp [numAt, List.getElem?_eq_none (show D.length ≤ 3 by omega)]
  have hm1 : n1 ≤ 100000 := hn1 ▸ numAt_le _ _
  have hm2 : n2 ≤ 100000 := hn2 ▸ numAt_le _ _
  have hm3 : n3 ≤ 100000 := hn3 ▸ numAt_le _ _
  rw [hn1, hn2, hn3] at hspec
  have HS := Lib.hid hspec
  have hk1 : 1 ≤ k := by omega
  have h40' : (s.size : Int) ≤ 40 := by omega
  clear hk0 h40 hspec hn1 hn2 hn3 HN HAT HC2 HK HW HX0 HD Hk
  by_cases hl1 : 1 < D.length
  · by_cases hl2 : 2 < D.length
    · by_cases hl3 : 3 < D.length
      · obtain ⟨x1, hc1, H1⟩ := hw1 hl1
        obtain ⟨x2, hc2, H2⟩ := hw2 hl2
        obtain ⟨x3, hc3, H3⟩ := hw3 hl3
        clear hw1 hw2 hw3 hz1 hz2 hz3
        by_cases hg1 : n1 < 0
        · have HSn := Lib.hid (HS.out.trans (if_pos (.inl hg1)))
          clear HS
          go_wp2_with (first | (go_at_call_of 12 (Value.string x1); refine (H1.out _).mono ?_; rintro e w9 ⟨rfl, rfl⟩) | (go_at_call_of 12 (Value.string x2); refine (H2.out _).mono ?_; rintro e w9 ⟨rfl, rfl⟩) | (go_at_call_of 12 (Value.string x3); refine (H3.out _).mono ?_; rintro e w9 ⟨rfl, rfl⟩))
          all_goals (refine ret_cell_tmp rfl rfl (hE0.out _ _ _ _ _) Tryd.underlying23 rfl (by kernel_rfl) rfl ?_; exact ⟨by rw [HSn.out]; rfl, hB0.out _ _ _ _ _⟩)
        by_cases hg2 : n2 < 0
        · have HSn := Lib.hid (HS.out.trans (if_pos (.inr (.inl hg2))))
          clear HS
          go_wp2_with (first | (go_at_call_of 12 (Value.string x1); refine (H1.out _).mono ?_; rintro e w9 ⟨rfl, rfl⟩) | (go_at_call_of 12 (Value.string x2); refine (H2.out _).mono ?_; rintro e w9 ⟨rfl, rfl⟩) | (go_at_call_of 12 (Value.string x3); refine (H3.out _).mono ?_; rintro e w9 ⟨rfl, rfl⟩))
          all_goals (refine ret_cell_tmp rfl rfl (hE0.out _ _ _ _ _) Tryd.underlying23 rfl (by kernel_rfl) rfl ?_; exact ⟨by rw [HSn.out]; rfl, hB0.out _ _ _ _ _⟩)
        by_cases hg3 : n3 < 0
        · have HSn := Lib.hid (HS.out.trans (if_pos (.inr (.inr hg3))))
          clear HS
          go_wp2_with (first | (go_at_call_of 12 (Value.string x1); refine (H1.out _).mono ?_; rintro e w9 ⟨rfl, rfl⟩) | (go_at_call_of 12 (Value.string x2); refine (H2.out _).mono ?_; rintro e w9 ⟨rfl, rfl⟩) | (go_at_call_of 12 (Value.string x3); refine (H3.out _).mono ?_; rintro e w9 ⟨rfl, rfl⟩))
          all_goals (refine ret_cell_tmp rfl rfl (hE0.out _ _ _ _ _) Tryd.underlying23 rfl (by kernel_rfl) rfl ?_; exact ⟨by rw [HSn.out]; rfl, hB0.out _ _ _ _ _⟩)
        obtain ⟨a1, rfl⟩ : ∃ a : Nat, n1 = a := ⟨n1.toNat, by omega⟩
        obtain ⟨a2, rfl⟩ : ∃ a : Nat, n2 = a := ⟨n2.toNat, by omega⟩
        obtain ⟨a3, rfl⟩ : ∃ a : Nat, n3 = a := ⟨n3.toNat, by omega⟩
        have HTT := Lib.hid (HT.out a1 a2 a3 (by omega) (by omega) (by omega))
        have HS2 := HS.out.trans (if_neg (by simp; try omega))
        simp only [Int.toNat_natCast] at HS2
        by_cases ht : evText ⟨k, a1, a2, a3⟩ = L s
        · have HSn := Lib.hid (HS2.trans (if_pos ht))
          rw [ht, B_L] at HTT
          clear HS HS2 HT ht
          go_wp2_with (first | (go_at_call_of 12 (Value.string x1); refine (H1.out _).mono ?_; rintro e w9 ⟨rfl, rfl⟩) | (go_at_call_of 12 (Value.string x2); refine (H2.out _).mono ?_; rintro e w9 ⟨rfl, rfl⟩) | (go_at_call_of 12 (Value.string x3); refine (H3.out _).mono ?_; rintro e w9 ⟨rfl, rfl⟩) | (go_at_call 13; refine (HTT.out _).mono ?_; rintro e w9 ⟨rfl, hb9⟩; obtain ⟨e0, e1, e2, e3, q0, q1, q2, q3, qf, HR9, HB9⟩ := post9 HR.out HB4.out hb9; clear hb9))
          all_goals (refine ret_cell_tmp rfl rfl (set4 _ _ _ _ HR9.out) Tryd.underlying23 rfl (by kernel_rfl) rfl ?_; exact ⟨by rw [HSn.out]; rfl, bel_set4 _ _ _ _ HB9.out (Nat.le_refl _)⟩)
        · have HSn := Lib.hid (HS2.trans (if_neg ht))
          have hne := str_ne (x := B (evText ⟨k, a1, a2, a3⟩)) (y := s) (fun e => ht (by rw [← e, L_B]))
          obtain ⟨T, hT⟩ : ∃ T, B (evText ⟨k, a1, a2, a3⟩) = T := ⟨_, rfl⟩
          rw [hT] at hne HTT
          clear HS HS2 HT ht hT
          go_wp2_with (first | (go_at_call_of 12 (Value.string x1); refine (H1.out _).mono ?_; rintro e w9 ⟨rfl, rfl⟩) | (go_at_call_of 12 (Value.string x2); refine (H2.out _).mono ?_; rintro e w9 ⟨rfl, rfl⟩) | (go_at_call_of 12 (Value.string x3); refine (H3.out _).mono ?_; rintro e w9 ⟨rfl, rfl⟩) | (go_at_call 13; refine (HTT.out _).mono ?_; rintro e w9 ⟨rfl, hb9⟩; obtain ⟨e0, e1, e2, e3, q0, q1, q2, q3, qf, HR9, HB9⟩ := post9 HR.out HB4.out hb9; clear hb9))
          all_goals (refine ret_cell_tmp rfl rfl (set4 _ _ _ _ HR9.out) Tryd.underlying23 rfl (by kernel_rfl) rfl ?_; exact ⟨by rw [HSn.out]; rfl, bel_set4 _ _ _ _ HB9.out (Nat.le_refl _)⟩)
      · obtain ⟨x1, hc1, H1⟩ := hw1 hl1
        obtain ⟨x2, hc2, H2⟩ := hw2 hl2
        obtain rfl := hz3 hl3
        clear hw1 hw2 hw3 hz1 hz2 hz3
        by_cases hg1 : n1 < 0
        · have HSn := Lib.hid (HS.out.trans (if_pos (.inl hg1)))
          clear HS
          go_wp2_with (first | (go_at_call_of 12 (Value.string x1); refine (H1.out _).mono ?_; rintro e w9 ⟨rfl, rfl⟩) | (go_at_call_of 12 (Value.string x2); refine (H2.out _).mono ?_; rintro e w9 ⟨rfl, rfl⟩))
          all_goals (refine ret_cell_tmp rfl rfl (hE0.out _ _ _ _ _) Tryd.underlying23 rfl (by kernel_rfl) rfl ?_; exact ⟨by rw [HSn.out]; rfl, hB0.out _ _ _ _ _⟩)
        by_cases hg2 : n2 < 0
        · have HSn := Lib.hid (HS.out.trans (if_pos (.inr (.inl hg2))))
          clear HS
          go_wp2_with (first | (go_at_call_of 12 (Value.string x1); refine (H1.out _).mono ?_; rintro e w9 ⟨rfl, rfl⟩) | (go_at_call_of 12 (Value.string x2); refine (H2.out _).mono ?_; rintro e w9 ⟨rfl, rfl⟩))
          all_goals (refine ret_cell_tmp rfl rfl (hE0.out _ _ _ _ _) Tryd.underlying23 rfl (by kernel_rfl) rfl ?_; exact ⟨by rw [HSn.out]; rfl, hB0.out _ _ _ _ _⟩)
        obtain ⟨a1, rfl⟩ : ∃ a : Nat, n1 = a := ⟨n1.toNat, by omega⟩
        obtain ⟨a2, rfl⟩ : ∃ a : Nat, n2 = a := ⟨n2.toNat, by omega⟩
        have HTT := Lib.hid (HT.out a1 a2 0 (by omega) (by omega) (by omega))
        have HS2 := HS.out.trans (if_neg (by simp; try omega))
        simp only [Int.toNat_natCast, Int.toNat_zero] at HS2
        by_cases ht : evText ⟨k, a1, a2, 0⟩ = L s
        · have HSn := Lib.hid (HS2.trans (if_pos ht))
          rw [ht, B_L] at HTT
          clear HS HS2 HT ht
          go_wp2_with (first | (go_at_call_of 12 (Value.string x1); refine (H1.out _).mono ?_; rintro e w9 ⟨rfl, rfl⟩) | (go_at_call_of 12 (Value.string x2); refine (H2.out _).mono ?_; rintro e w9 ⟨rfl, rfl⟩) | (go_at_call 13; refine (HTT.out _).mono ?_; rintro e w9 ⟨rfl, hb9⟩; obtain ⟨e0, e1, e2, e3, q0, q1, q2, q3, qf, HR9, HB9⟩ := post9 HR.out HB4.out hb9; clear hb9))
          all_goals (refine ret_cell_tmp rfl rfl (set4 _ _ _ _ HR9.out) Tryd.underlying23 rfl (by kernel_rfl) rfl ?_; exact ⟨by rw [HSn.out]; rfl, bel_set4 _ _ _ _ HB9.out (Nat.le_refl _)⟩)
        · have HSn := Lib.hid (HS2.trans (if_neg ht))
          have hne := str_ne (x := B (evText ⟨k, a1, a2, 0⟩)) (y := s) (fun e => ht (by rw [← e, L_B]))
          obtain ⟨T, hT⟩ : ∃ T, B (evText ⟨k, a1, a2, 0⟩) = T := ⟨_, rfl⟩
          rw [hT] at hne HTT
          clear HS HS2 HT ht hT
          go_wp2_with (first | (go_at_call_of 12 (Value.string x1); refine (H1.out _).mono ?_; rintro e w9 ⟨rfl, rfl⟩) | (go_at_call_of 12 (Value.string x2); refine (H2.out _).mono ?_; rintro e w9 ⟨rfl, rfl⟩) | (go_at_call 13; refine (HTT.out _).mono ?_; rintro e w9 ⟨rfl, hb9⟩; obtain ⟨e0, e1, e2, e3, q0, q1, q2, q3, qf, HR9, HB9⟩ := post9 HR.out HB4.out hb9; clear hb9))
          all_goals (refine ret_cell_tmp rfl rfl (set4 _ _ _ _ HR9.out) Tryd.underlying23 rfl (by kernel_rfl) rfl ?_; exact ⟨by rw [HSn.out]; rfl, bel_set4 _ _ _ _ HB9.out (Nat.le_refl _)⟩)
    · have hl3 : ¬ 3 < D.length := by omega
      obtain ⟨x1, hc1, H1⟩ := hw1 hl1
      obtain rfl := hz2 hl2
      obtain rfl := hz3 hl3
      clear hw1 hw2 hw3 hz1 hz2 hz3
      by_cases hg1 : n1 < 0
      · have HSn := Lib.hid (HS.out.trans (if_pos (.inl hg1)))
        clear HS
        go_wp2_with (first | (go_at_call_of 12 (Value.string x1); refine (H1.out _).mono ?_; rintro e w9 ⟨rfl, rfl⟩))
        all_goals (refine ret_cell_tmp rfl rfl (hE0.out _ _ _ _ _) Tryd.underlying23 rfl (by kernel_rfl) rfl ?_; exact ⟨by rw [HSn.out]; rfl, hB0.out _ _ _ _ _⟩)
      obtain ⟨a1, rfl⟩ : ∃ a : Nat, n1 = a := ⟨n1.toNat, by omega⟩
      have HTT := Lib.hid (HT.out a1 0 0 (by omega) (by omega) (by omega))
      have HS2 := HS.out.trans (if_neg (by simp; try omega))
      simp only [Int.toNat_natCast, Int.toNat_zero] at HS2
      by_cases ht : evText ⟨k, a1, 0, 0⟩ = L s
      · have HSn := Lib.hid (HS2.trans (if_pos ht))
        rw [ht, B_L] at HTT
        clear HS HS2 HT ht
        go_wp2_with (first | (go_at_call_of 12 (Value.string x1); refine (H1.out _).mono ?_; rintro e w9 ⟨rfl, rfl⟩) | (go_at_call 13; refine (HTT.out _).mono ?_; rintro e w9 ⟨rfl, hb9⟩; obtain ⟨e0, e1, e2, e3, q0, q1, q2, q3, qf, HR9, HB9⟩ := post9 HR.out HB4.out hb9; clear hb9))
        all_goals (refine ret_cell_tmp rfl rfl (set4 _ _ _ _ HR9.out) Tryd.underlying23 rfl (by kernel_rfl) rfl ?_; exact ⟨by rw [HSn.out]; rfl, bel_set4 _ _ _ _ HB9.out (Nat.le_refl _)⟩)
      · have HSn := Lib.hid (HS2.trans (if_neg ht))
        have hne := str_ne (x := B (evText ⟨k, a1, 0, 0⟩)) (y := s) (fun e => ht (by rw [← e, L_B]))
        obtain ⟨T, hT⟩ : ∃ T, B (evText ⟨k, a1, 0, 0⟩) = T := ⟨_, rfl⟩
        rw [hT] at hne HTT
        clear HS HS2 HT ht hT
        go_wp2_with (first | (go_at_call_of 12 (Value.string x1); refine (H1.out _).mono ?_; rintro e w9 ⟨rfl, rfl⟩) | (go_at_call 13; refine (HTT.out _).mono ?_; rintro e w9 ⟨rfl, hb9⟩; obtain ⟨e0, e1, e2, e3, q0, q1, q2, q3, qf, HR9, HB9⟩ := post9 HR.out HB4.out hb9; clear hb9))
        all_goals (refine ret_cell_tmp rfl rfl (set4 _ _ _ _ HR9.out) Tryd.underlying23 rfl (by kernel_rfl) rfl ?_; exact ⟨by rw [HSn.out]; rfl, bel_set4 _ _ _ _ HB9.out (Nat.le_refl _)⟩)
  · have hl2 : ¬ 2 < D.length := by omega
    have hl3 : ¬ 3 < D.length := by omega
    obtain rfl := hz1 hl1
    obtain rfl := hz2 hl2
    obtain rfl := hz3 hl3
    clear hw1 hw2 hw3 hz1 hz2 hz3
    have HTT := Lib.hid (HT.out 0 0 0 (by omega) (by omega) (by omega))
    have HS2 := HS.out.trans (if_neg (by simp; try omega))
    simp only [Int.toNat_zero] at HS2
    by_cases ht : evText ⟨k, 0, 0, 0⟩ = L s
    · have HSn := Lib.hid (HS2.trans (if_pos ht))
      rw [ht, B_L] at HTT
      clear HS HS2 HT ht
      go_wp2_with (first | (go_at_call 13; refine (HTT.out _).mono ?_; rintro e w9 ⟨rfl, hb9⟩; obtain ⟨e0, e1, e2, e3, q0, q1, q2, q3, qf, HR9, HB9⟩ := post9 HR.out HB4.out hb9; clear hb9))
      all_goals (refine ret_cell_tmp rfl rfl (set4 _ _ _ _ HR9.out) Tryd.underlying23 rfl (by kernel_rfl) rfl ?_; exact ⟨by rw [HSn.out]; rfl, bel_set4 _ _ _ _ HB9.out (Nat.le_refl _)⟩)
    · have HSn := Lib.hid (HS2.trans (if_neg ht))
      have hne := str_ne (x := B (evText ⟨k, 0, 0, 0⟩)) (y := s) (fun e => ht (by rw [← e, L_B]))
      obtain ⟨T, hT⟩ : ∃ T, B (evText ⟨k, 0, 0, 0⟩) = T := ⟨_, rfl⟩
      rw [hT] at hne HTT
      clear HS HS2 HT ht hT
      go_wp2_with (first | (go_at_call 13; refine (HTT.out _).mono ?_; rintro e w9 ⟨rfl, hb9⟩; obtain ⟨e0, e1, e2, e3, q0, q1, q2, q3, qf, HR9, HB9⟩ := post9 HR.out HB4.out hb9; clear hb9))
      all_goals (refine ret_cell_tmp rfl rfl (set4 _ _ _ _ HR9.out) Tryd.underlying23 rfl (by kernel_rfl) rfl ?_; exact ⟨by rw [HSn.out]; rfl, bel_set4 _ _ _ _ HB9.out (Nat.le_refl _)⟩)
end Go.Proofs.YtjnangiggnmkoaaDoor
