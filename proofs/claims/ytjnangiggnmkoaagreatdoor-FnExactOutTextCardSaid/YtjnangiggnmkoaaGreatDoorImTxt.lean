/- Contracts: the program's text of a term (by a builder). -/
import Derived.Test.YtjnangiggnmkoaaGreatDoorBld
import Derived.Test.YtjnangiggnmkoaaGreatDoorImOut
import Derived.Lib.AppendIntMem
namespace Go.Proofs.YtjnangiggnmkoaaGreatDoor
open Go.RowKit
set_option maxRecDepth 100000
set_option maxHeartbeats 2000000
set_option linter.unusedVariables false
def Tab (w : World) : Prop := Lib.TabIs Tryz.prog w "internal/strconv.uint64pow10" .u64 Lib.pow10Tab
theorem Tab.ext {w w' : World} (h : Tab w) (hb : Below w.heap.size w w') : Tab w' :=
  var?_below hb (g := 0) (by kernel_rfl) (World.block_lt_of_cell? w _ (Lib.TabIs.cell h (by kernel_rfl) 0 (by decide))) h
theorem itoa_c (v : Int) (h0 : -99999 ≤ v) (h1 : v ≤ 99999) (w : World) (hT : Tab w) :
    Calls Tryz.prog 63 #[.int .i64 v] w fun e w' => e = .returned (.string (B (Lib.itoa v))) ∧ Below w.heap.size w w' := by
  refine (Tryz.strconv_Itoa v (by omega) (by omega) w hT).mono ?_
  rintro e w' ⟨rfl, k, os, rfl⟩
  exact ⟨rfl, Lib.below_grow _ w (Nat.le_refl _) k os⟩
def Bld (b0 b : Nat) (l : Bs) (w : World) : Prop := Lib.IsBuilderF 59 5 b0 b (Lib.byteCells l) w
structure BW (b0 b : Nat) (w w' : World) : Prop where
  bel : Below b0 w w'
  oth : Lib.OthersKept 5 (some b) w w'
theorem BW.trans {b0 b : Nat} {w w1 w2 : World} (h : BW b0 b w w1) (k : BW b0 b w1 w2) : BW b0 b w w2 := ⟨h.bel.trans k.bel, h.oth.trans k.oth⟩
theorem BW.of_below {b0 b : Nat} {w w' : World} (hb : b0 ≤ w.heap.size) (h : Below w.heap.size w w') : BW b0 b w w' :=
  ⟨h.mono hb, fun k o hk _ _ => (h.block k (Array.getElem?_eq_some_iff.1 hk).1).trans hk⟩
theorem Bld.lt {b0 b : Nat} {l : Bs} {w : World} (h : Bld b0 b l w) : b < w.heap.size := h.elim (·.lt) (·.lt)
theorem BAt.ext {b0 b : Nat} {p : Value} {bs : List Value} {w w' : World} (h : Lib.BuilderAtF 59 5 b0 b p bs w) (hb : Below w.heap.size w w') : Lib.BuilderAtF 59 5 b0 b p bs w' := by
  have hlt := h.lt
  obtain ⟨hB, v, hbk, hown, hne⟩ := h
  refine ⟨hB, v, (hb.block b hlt).trans hbk, hown.kept (row := none) ⟨hb.os, hb.tape, hb.output, hb.size, fun k hk _ => hb.block k hk⟩ ?_, hne⟩
  cases hv : v.ownBlock <;> simp
theorem Bld.ext {b0 b : Nat} {l : Bs} {w w' : World} (h : Bld b0 b l w) (hb : Below w.heap.size w w') : Bld b0 b l w' := h.imp (BAt.ext · hb) (BAt.ext · hb)
theorem Bld.ty {b0 b : Nat} {l : Bs} {w : World} (h : Bld b0 b l w) : ∃ c f, w.heap[b]? = some (.cells c 59 f) := by
  rcases h with ⟨_, v, hb, _⟩ | ⟨_, v, hb, _⟩ <;> exact ⟨_, _, hb⟩
theorem BW.keep {b0 b : Nat} {l : Bs} {w w' : World} (h : BW b0 b w w') (hB : Bld b0 b l w) {E : List Nat} (hE : ∀ q ∈ E, q ≠ 5 ∧ q ≠ 59) : Keep E w w' := fun k c q f hk hq => by
  obtain ⟨c', f', hb⟩ := hB.ty
  refine (h.oth k _ hk (fun e => ?_) (fun c2 f2 e => ?_)).trans hk.symm
  · injection e with e
    subst e
    rw [hk] at hb
    injection hb with hb
    injection hb with _ hq' _
    exact (hE q hq).2 hq'
  · injection e with _ hq' _
    exact (hE q hq).1 hq'
theorem BW.S {α : Type} {b0 b : Nat} {l : Bs} {w w' : World} (h : BW b0 b w w') (hB : Bld b0 b l w) {d : Kd α} {e2 : Nat} {v : Value} {xs : List α} (hs : d.S e2 w v xs) (hE : ∀ q ∈ e2 :: d.E, q ≠ 5 ∧ q ≠ 59) : d.S e2 w' v xs := Kd.S_mov (h.keep hB hE) hs
theorem BW.O {α : Type} {b0 b : Nat} {l : Bs} {w w' : World} (h : BW b0 b w w') (hB : Bld b0 b l w) {d : Kd α} {e2 b2 : Nat} {v : Value} {xs : List α} (hs : d.O e2 w b2 v xs) (hE : ∀ q ∈ e2 :: d.E, q ≠ 5 ∧ q ≠ 59) : d.O e2 w' b2 v xs :=
  Kd.O_mov (h.keep hB (fun q hq => hE q (List.mem_cons_of_mem _ hq))) (fun k hk => by obtain ⟨c, hc⟩ := Kd.O_typed hs k hk; exact h.keep hB hE k c e2 _ hc List.mem_cons_self) hs
theorem cellBE : ∀ q ∈ 47 :: Kd.cell.E, q ≠ 5 ∧ q ≠ 59 := fun q hq => by
  have : q = 47 := by simpa [Kd.cell] using hq
  rw [this]; decide
theorem trmBE : ∀ q ∈ 28 :: Kd.trm.E, q ≠ 5 ∧ q ≠ 59 := fun q hq => by
  have : q = 28 ∨ q = 47 := by simpa [Kd.trm, Kd.slice, Kd.cell] using hq
  rcases this with this | this <;> rw [this] <;> decide
theorem write_c (b0 b : Nat) (l : Bs) (s : ByteArray) (w w1 : World) (hB : Bld b0 b l w) (hb : Below w.heap.size w w1) (hb0 : b0 ≤ w.heap.size) (hl : l.length ≤ 1000000000) (hs : s.size ≤ 1000000000) :
    Calls Tryz.prog 62 #[.pointer (some ⟨b, 0, none⟩), .string s] w1 fun e w' => e = .returned (.tuple #[.int .i64 s.size, .nilIface]) ∧ Bld b0 b (l ++ L s) w' ∧ BW b0 b w w' := by
  refine (Any.Builder_WriteString_k Tryz.lays166 Tryz.bldExtra b0 b (Lib.byteCells l) s w1 (hB.ext hb) (by rw [Lib.byteCells_length]; omega) (Nat.le_trans hb0 hb.size)).mono ?_
  rintro e w' ⟨rfl, h1, h2, h3⟩
  refine ⟨rfl, .inr ?_, (BW.of_below hb0 hb).trans ⟨h2, h3⟩⟩
  rw [Lib.byteCells_append]
  exact h1
/-- What is still to be written of a term behind its word. -/
def tl : Bool → List Trm → Bs
  | true, [] => []
  | false, [] => [41]
  | f, a :: r => (if f then 40 else 44) :: (txt a ++ tl false r)
theorem joinT_tl : ∀ (a : Trm) (r : List Trm), joinT (a :: r) ++ [41] = txt a ++ tl false r
  | a, [] => by simp [joinT, tl]
  | a, b :: r => by
    have := joinT_tl b r
    rw [joinT, List.append_assoc, List.cons_append, this]
    simp [tl]
theorem txt_tl {c : Cell} {r : Trm} (h : Ms 1 (c :: r)) : txt (c :: r) = wordB c ++ tl true (argsOf (ar c).toNat r) := by
  rw [txt_cons h]
  congr 1
  have hl := argsOf_len (ar c).toNat r
  split
  · rename_i h0
    match hA : argsOf (ar c).toNat r with
    | [] => rw [hA] at hl; simp at hl; omega
    | a :: l => rw [List.cons_append, joinT_tl, tl, if_pos rfl]
  · rename_i h0
    rw [List.eq_nil_of_length_eq_zero (by omega : (argsOf (ar c).toNat r).length = 0)]
    rfl
theorem closeB_len : ∀ op : List Nat, (closeB op).1.length + (closeB op).2.length ≤ op.length + 1
  | [] => by simp [closeB]
  | 0 :: op => by simp [closeB]
  | 1 :: op => by have := closeB_len op; simp [closeB]; omega
  | (m + 2) :: op => by simp [closeB]; omega
theorem R_len : ∀ (t : Trm) (op : List Nat), t.all cellOk = true → (R op t).length ≤ 10 * t.length + op.length
  | [], op, _ => by simp [R]
  | c :: t, op, h => by
    have hc : cellOk c = true := List.all_eq_true.1 h c List.mem_cons_self
    have hw := word_len hc
    have ht : t.all cellOk = true := List.all_eq_true.2 (fun x hx => List.all_eq_true.1 h x (List.mem_cons_of_mem _ hx))
    rw [R, List.length_append, List.length_cons]
    split
    · have := R_len t ((ar c).toNat :: op) ht
      rw [List.length_cons] at this ⊢
      omega
    · have := R_len t (closeB op).2 ht
      have := closeB_len op
      rw [List.length_append]
      omega
theorem txt_len {t : Trm} (h : trmOk t = true) : (txt t).length ≤ 1000000000 := by
  obtain ⟨_, h40, hall⟩ := trmOk_iff.1 h
  have := R_len t [] hall
  unfold txt
  simp only [List.length_nil] at this
  omega
theorem str_c (b0 b : Nat) (l : Bs) (w : World) (hB : Bld b0 b l w) (hb : b0 ≤ w.heap.size) :
    Calls Tryz.prog 33 #[.pointer (some ⟨b, 0, none⟩)] w fun e w' => e = .returned (.string (B l)) ∧ Below b0 w w' := by
  refine (Any.Builder_String_any_f Tryz.lays169 Tryz.bldExtra b0 b l w hB hb).mono ?_
  rintro e w' ⟨rfl, _, h⟩
  exact ⟨rfl, h⟩
theorem TabAt {w0 w : World} (h : Tab w0) (hb : Below w0.heap.size w0 w) : Tab w := h.ext hb
end Go.Proofs.YtjnangiggnmkoaaGreatDoor
