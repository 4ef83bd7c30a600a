/- Numerals, words and names as Go's library gives them: contracts. -/
import Derived.Test.YtjnangiggnmkoaaDoorCEv
import Derived.Test.YtjnangiggnmkoaaDoorShelf
import Derived.Lib.AtoiErrMem
import Derived.Lib.AppendIntMem
import Derived.Lib.AtoiAllCases
import Derived.Lib.SlicesS
import Derived.Lib.SplitLaws
namespace Go.Proofs.YtjnangiggnmkoaaDoor
open Go.RowKit
set_option maxRecDepth 100000
set_option maxHeartbeats 1000000
set_option linter.unusedVariables false
/-- What the library's variables hold. -/
structure Env (w : World) : Prop where
  sy : ∃ t p, w.var? Tryd.prog "strconv.ErrSyntax" = some #[.iface t p]
  rg : ∃ t p, w.var? Tryd.prog "strconv.ErrRange" = some #[.iface t p]
  tab : Lib.TabIs Tryd.prog w "internal/strconv.uint64pow10" .u64 Lib.pow10Tab
  ml : ∃ m, w.cell? ⟨2, 0, none⟩ = some (.int .i64 m)
theorem var_lt {P : Program} {w : World} {n : String} {g : Nat} {v : Value} (hg : P.globalNamed n = some g) (h : w.var? P n = some #[v]) : g < w.heap.size := by
  have := World.var?_cell hg h 0
  exact World.block_lt_of_cell? w _ this
theorem Env.ext {w w' : World} (h : Env w) (hb : Below w.heap.size w w') : Env w' where
  sy := by obtain ⟨t, p, h1⟩ := h.sy; exact ⟨t, p, var?_below hb (g := 0) (by kernel_rfl) (var_lt (by kernel_rfl) h1) h1⟩
  rg := by obtain ⟨t, p, h1⟩ := h.rg; exact ⟨t, p, var?_below hb (g := 1) (by kernel_rfl) (var_lt (by kernel_rfl) h1) h1⟩
  tab := var?_below hb (g := 3) (by kernel_rfl) (World.block_lt_of_cell? w _ (Lib.TabIs.cell h.tab (by kernel_rfl) 0 (by decide))) h.tab
  ml := by obtain ⟨m, h1⟩ := h.ml; exact ⟨m, cell_keep hb h1⟩
theorem atoi_dec (n : Nat) : Lib.atoi (Lib.decDigits n) = some (n : Int) := by
  have hd := dec_dig n
  have hv := decFrom_val (Lib.decDigits n) 0 hd
  have hval : valF 0 (Lib.decDigits n) = n := val_dec n
  cases h : Lib.decDigits n with
  | nil => exact absurd h (dec_ne n)
  | cons b r =>
    rw [h] at hd hv hval
    simp only [List.all_cons, Bool.and_eq_true, isDig, decide_eq_true_eq] at hd
    have e1 : b ≠ 45 := by rintro rfl; simp at hd
    have e2 : b ≠ 43 := by rintro rfl; simp at hd
    show (if (b == 45) = true then _ else if (b == 43) = true then _ else (Lib.decNat (b :: r)).map fun (m : Nat) => (m : Int)) = _
    rw [if_neg (by simpa using e1), if_neg (by simpa using e2)]
    unfold Lib.decNat
    rw [if_neg (by simp), hv, hval]; rfl
theorem atoi_num (x : ByteArray) (n : Nat) (h : numOf (L x) = some n) (w : World) :
    Calls Tryd.prog 17 #[.string x] w fun e w' => e = .returned (.tuple #[.int .i64 n, .nilIface]) ∧ Below w.heap.size w w' := by
  obtain ⟨hx, hn⟩ := numOf_dec.1 h
  have hl : x.size ≤ 18 := by rw [← L_length, hx]; have := (dec_len5 n).2 hn; omega
  refine (Tryd.strconv_Atoi_ok x (by omega) n ?_ w).mono ?_
  · show Lib.atoiAll (L x) = _
    rw [Lib.atoiAll_short _ (by rw [L_length]; exact hl), hx, atoi_dec]; rfl
  · rintro e w' ⟨rfl, rfl | ⟨t, rfl⟩⟩
    · exact ⟨rfl, Below.refl _ _⟩
    · exact ⟨rfl, Lib.bytesWorld_below w _ t⟩
theorem atoi_any (x : ByteArray) (hs : x.size ≤ 281474976710656) :
    (∃ v, -9223372036854775808 ≤ v ∧ v ≤ 9223372036854775807 ∧ ∀ w, Calls Tryd.prog 17 #[.string x] w fun e w' => e = .returned (.tuple #[.int .i64 v, .nilIface]) ∧ Below w.heap.size w w') ∨
    (∀ w, Env w → Calls Tryd.prog 17 #[.string x] w fun e w' => ∃ v t N, e = .returned (.tuple #[.int .i64 v, .iface t (.pointer (some ⟨N, 0, none⟩))]) ∧ Below w.heap.size w w') := by
  cases h : Lib.atoiAll (L x)
  case ok v =>
    refine .inl ⟨v, (Lib.atoiAll_bounds h).1, (Lib.atoiAll_bounds h).2, fun w => (Tryd.strconv_Atoi_ok x (by omega) v h w).mono ?_⟩
    rintro e w' ⟨rfl, hw⟩
    refine ⟨rfl, ?_⟩
    rcases hw with rfl | ⟨t, rfl⟩
    · exact Below.refl _ _
    · exact Lib.bytesWorld_below w _ t
  case range =>
    refine .inr (fun w hE => ?_)
    obtain ⟨t, p, hv⟩ := hE.rg
    refine (Go.Proofs.Any.strconv_Atoi_range_var Tryd.laysC172 x hs h t p w hv).mono ?_
    rintro e w' ⟨N, rfl, _, _, hb⟩
    exact ⟨_, _, N, rfl, hb⟩
  refine .inr (fun w hE => ?_)
  obtain ⟨t, p, hv⟩ := hE.sy
  refine (Go.Proofs.Any.strconv_Atoi_syntax_var Tryd.laysC172 x hs h t p w hv).mono ?_
  rintro e w' ⟨N, rfl, _, _, hb⟩
  exact ⟨0, _, N, rfl, hb⟩
theorem itoa_any (v : Int) (h0 : -9223372036854775808 ≤ v) (h1 : v ≤ 9223372036854775807) (w : World) (hE : Env w) :
    Calls Tryd.prog 18 #[.int .i64 v] w fun e w' => e = .returned (.string (B (Lib.itoa v))) ∧ Below w.heap.size w w' := by
  refine (Tryd.strconv_Itoa v h0 h1 w hE.tab).mono ?_
  rintro e w' ⟨rfl, k, os, rfl⟩
  exact ⟨rfl, Lib.below_grow _ w (Nat.le_refl _) k os⟩
/-- What is no numeral of one to five digits fails one of the tests. -/
theorem num_none {x : ByteArray} {v : Int} (h : numOf (L x) = none) (h0 : 0 ≤ v) (he : B (Lib.itoa v) = x) : 5 < x.size := by
  obtain ⟨n, rfl⟩ : ∃ n : Nat, v = n := ⟨v.toNat, by omega⟩
  have hx : L x = Lib.decDigits n := by rw [← he, L_B, Lib.itoa_nonneg]
  rcases Nat.lt_or_ge 5 x.size with h5 | h5
  · exact h5
  · have : numOf (L x) = some n := numOf_dec.2 ⟨hx, (dec_len5 n).1 (by rw [← hx, L_length]; exact h5)⟩
    rw [h] at this; cases this
theorem num_some {x : ByteArray} {n : Nat} (h : numOf (L x) = some n) : B (Lib.itoa n) = x ∧ x.size ≤ 5 ∧ n < 100000 := by
  obtain ⟨hx, hn⟩ := numOf_dec.1 h
  exact ⟨by rw [Lib.itoa_nonneg, ← hx, B_L], by rw [← L_length, hx]; exact (dec_len5 n).2 hn, hn⟩
/-! names -/
theorem inames_c (w : World) : Calls Tryd.prog 16 #[] w fun e w' => ∃ b, e = .returned (.slice (some ⟨b, 0, none⟩) 9 9) ∧ w'.heap[b]? = some (.cells (namesB.map Value.string).toArray 9 (0, 0)) ∧ Below w.heap.size w w' := by
  have hC := Lib.hid (heap_alloc_new w (.cells (namesB.map Value.string).toArray 9))
  go_enter Tryd.func16, Tryd.ntmps16
  go_wp2
  go_ret
  exact ⟨_, rfl, hC.out, bel_alloc (Below.refl _ _) _⟩
/-- Where a word stands among the names, as Go's library says it. -/
def ixZ (x : ByteArray) : Int := Lib.idxOfS namesB x
theorem ixZ_kind (x : ByteArray) : (ixZ x < 1 → kindOf (L x) = 0) ∧ (1 ≤ ixZ x → ixZ x = kindOf (L x)) := by
  have hd : ∀ j, j < 9 → namesB.getD j ByteArray.empty = B (names.getD j []) := fun j hj => by
    rw [List.getD_eq_getElem?_getD, namesB_at hj]; rfl
  by_cases hx : ∃ j, j < 9 ∧ names.getD j [] = L x
  · obtain ⟨j, hj, he⟩ := hx
    have hk := kind_hit hj he
    have hi : ixZ x = j := by
      refine (show ixZ x = Lib.idxOfS (namesB.take 9) x from rfl).trans (Lib.idxOfS_hit namesB 9 j x hj (by decide +kernel) (by rw [hd j hj, he, B_L]) (fun i hij e => ?_))
      rw [hd i (by omega)] at e
      have := kind_hit (x := L x) (show i < 9 by omega) (by rw [← e, L_B])
      omega
    rw [hi, hk]
    exact ⟨fun h => by omega, fun _ => rfl⟩
  · have hi : ixZ x = -1 := (show ixZ x = Lib.idxOfS (namesB.take 9) x from rfl).trans (Lib.idxOfS_miss namesB 9 x (fun j hj e => hx ⟨j, hj, by rw [hd j hj] at e; rw [← e, L_B]⟩))
    rw [hi]
    exact ⟨fun _ => kind_miss (fun j _ h9 e => hx ⟨j, h9, e⟩), fun h => by omega⟩
theorem ixZ_ge (x : ByteArray) : -1 ≤ ixZ x ∧ ixZ x < 9 := by
  by_cases h : 1 ≤ ixZ x
  · have := (ixZ_kind x).2 h; have := kind_lt (L x); omega
  · by_cases hm : 0 ≤ ixZ x
    · omega
    · by_cases hx : x ∈ namesB
      · exact absurd ((Lib.idxOfS_nonneg_iff namesB x).2 hx) hm
      · have hi : ixZ x = -1 := (show ixZ x = Lib.idxOfS (namesB.take 9) x from rfl).trans (Lib.idxOfS_miss namesB 9 x (fun j hj e => hx (by
          rw [← e, List.getD_eq_getElem?_getD, List.getElem?_eq_getElem (show j < namesB.length from hj)]; exact List.getElem_mem _)))
        omega
theorem index_c (b : Nat) (x : ByteArray) (w : World) (h : w.heap[b]? = some (.cells (namesB.map Value.string).toArray 9 (0, 0))) :
    Calls Tryd.prog 15 #[.slice (some ⟨b, 0, none⟩) 9 9, .string x] w fun e w' => e = .returned (.int .i64 (ixZ x)) ∧ w' = w :=
  Tryd.slices_Index_string b 0 9 9 namesB x w (by decide +kernel) (by decide) (fun j hj => by
    rw [Nat.zero_add, cell_of_row w b j _ _ _ h, List.getD_eq_getElem?_getD, List.getElem?_eq_getElem hj]
    simp [hj])
/-! the words of a line -/
theorem index_sp : ∀ (l : Bs), (Lib.index l [32] = -1 ∧ splitSp l = [l]) ∨ ∃ i : Nat, Lib.index l [32] = i ∧ splitSp l = l.take i :: splitSp (l.drop (i + 1))
  | [] => .inl ⟨by simp [Lib.index], rfl⟩
  | c :: r => by
    by_cases hc : c = 32
    · subst hc
      exact .inr ⟨0, by rw [Lib.index]; simp [List.isPrefixOf], by simp [splitSp]⟩
    · have hp : ([32] : List UInt8).isPrefixOf (c :: r) = false := by simp [List.isPrefixOf, Ne.symm hc]
      have hix : Lib.index (c :: r) [32] = if Lib.index r [32] == -1 then -1 else Lib.index r [32] + 1 := by rw [Lib.index, hp]; simp
      rcases index_sp r with ⟨h1, h2⟩ | ⟨i, h1, h2⟩
      · exact .inl ⟨by rw [hix, h1]; rfl, by rw [splitSp, if_neg hc, h2]; rfl⟩
      · refine .inr ⟨i + 1, by rw [hix, h1, if_neg (by intro e; have := beq_iff_eq.1 e; omega)]; omega, ?_⟩
        rw [splitSp, if_neg hc, h2]; rfl
theorem splitK_sp : ∀ (k : Nat) (l : Bs), Lib.count l [32] = k → Lib.splitK [32] 0 k l = splitSp l
  | 0, l, h => by
    rcases index_sp l with ⟨h1, h2⟩ | ⟨i, h1, h2⟩
    · rw [h2]; rfl
    · rw [Lib.count_hit (by simp) h1] at h; omega
  | k + 1, l, h => by
    rcases index_sp l with ⟨h1, h2⟩ | ⟨i, h1, h2⟩
    · rw [Lib.count_miss h1] at h; omega
    · rw [Lib.count_hit (by simp) h1] at h
      unfold Lib.splitK
      rw [if_neg (by rw [h1]; intro e; have := beq_iff_eq.1 e; omega), h1, h2, Int.toNat_natCast, splitK_sp k _ (by simp at h ⊢; omega)]
      rfl
theorem split_c (s : ByteArray) (w : World) (hs : s.size < 4294967281) (hE : Env w) :
    Calls Tryd.prog 14 #[.string s, .string ⟨#[32]⟩] w fun e w' => ∃ (b : Nat) (D : List ByteArray), e = .returned (.slice (some ⟨b, 0, none⟩) D.length D.length) ∧ D.map L = splitSp (L s) ∧ w'.heap[b]? = some (.cells (D.map Value.string).toArray 9 (0, 0)) ∧ Below w.heap.size w w' := by
  obtain ⟨m, hm⟩ := hE.ml
  refine (Tryd.strings_Split s ⟨#[32]⟩ m w hs hm (by decide)).mono ?_
  rintro e w' ⟨rfl, rfl⟩
  refine ⟨w.heap.size, Lib.splitB ⟨#[32]⟩ 0 (Lib.countB s ⟨#[32]⟩) s, ?_, ?_, heap_alloc_new w _, bel_alloc (Below.refl _ _) _⟩
  · rw [Lib.splitB_all ⟨#[32]⟩ (by decide) 0 _ s rfl]
  · exact (Lib.splitB_data _ _ _ _).trans (splitK_sp _ _ rfl)
end Go.Proofs.YtjnangiggnmkoaaDoor
