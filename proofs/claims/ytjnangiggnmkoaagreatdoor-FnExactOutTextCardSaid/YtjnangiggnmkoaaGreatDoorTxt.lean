/- The text of a term: by a pile of counts, and by its arguments. No program in sight. -/
import Derived.Test.YtjnangiggnmkoaaGreatDoorUni4
import Derived.Test.YtjnangiggnmkoaaGreatDoorModel2
namespace Go.Proofs.YtjnangiggnmkoaaGreatDoor
set_option linter.unusedVariables false
def wordB (c : Cell) : Bs := if c.k = 1 then 88 :: Lib.itoa c.n else if c.k = 2 then Lib.itoa c.n else L c.s
/-- What closes behind a term: brackets, or a comma; and the pile that is left. -/
def closeB : List Nat → Bs × List Nat
  | [] => ([], [])
  | 0 :: op => ([], 0 :: op)
  | 1 :: op => (41 :: (closeB op).1, (closeB op).2)
  | (m + 2) :: op => ([44], (m + 1) :: op)
def R : List Nat → Trm → Bs
  | _, [] => []
  | op, c :: t => wordB c ++ if 0 < (ar c).toNat then 40 :: R ((ar c).toNat :: op) t else (closeB op).1 ++ R (closeB op).2 t
def txt (t : Trm) : Bs := R [] t
/-- What stands behind a term that has come to its end. -/
def Fin' (op : List Nat) (r : Trm) : Bs := (closeB op).1 ++ R (closeB op).2 r
def joinT : List Trm → Bs
  | [] => []
  | [a] => txt a
  | a :: b :: l => txt a ++ 44 :: joinT (b :: l)
theorem R_both : ∀ (n : Nat) (u : Trm), u.length ≤ n →
    (∀ (op : List Nat) (rest : Trm), Ms 1 u → R op (u ++ rest) = txt u ++ Fin' op rest) ∧
    (∀ (m : Nat) (op : List Nat) (rest : Trm), Ms (m + 1) u → R ((m + 1) :: op) (u ++ rest) = joinT (argsOf (m + 1) u) ++ 41 :: Fin' op rest) := by
  intro n
  induction n with
  | zero =>
    intro u hu
    obtain rfl : u = [] := List.eq_nil_of_length_eq_zero (by omega)
    exact ⟨fun _ _ h => by rw [Ms_nil] at h; omega, fun _ _ _ h => by rw [Ms_nil] at h; omega⟩
  | succ n ih =>
    intro u hu
    have A : ∀ (op : List Nat) (rest : Trm), Ms 1 u → R op (u ++ rest) = txt u ++ Fin' op rest := by
      intro op rest h
      match u, h with
      | c :: r, h =>
        have hr : Ms (ar c).toNat r := by rw [show 1 = 0 + 1 by rfl, Ms_cons, Nat.zero_add] at h; exact h
        unfold txt
        rw [List.cons_append, R, R]
        by_cases h0 : 0 < (ar c).toNat
        · rw [if_pos h0, if_pos h0]
          obtain ⟨m, hm⟩ : ∃ m, (ar c).toNat = m + 1 := ⟨(ar c).toNat - 1, by omega⟩
          rw [hm] at hr ⊢
          have ih2 := (ih r (by simp at hu; omega)).2 m
          rw [ih2 op rest hr]
          have := ih2 [] [] hr
          rw [List.append_nil] at this
          rw [this]
          simp [Fin', closeB, R]
        · rw [if_neg h0, if_neg h0]
          obtain rfl : r = [] := by
            have h0 : (ar c).toNat = 0 := by omega
            rw [h0, Ms_zero] at hr; exact hr
          simp [Fin', closeB, R]
    refine ⟨A, ?_⟩
    intro m
    induction m generalizing u with
    | zero =>
      intro op rest h
      have h1 := A (1 :: op) rest h
      have e : fst1 u = u := by have := fst1_pre [] h; rwa [List.append_nil] at this
      rw [show 0 + 1 = 1 by rfl, h1, argsOf, argsOf, joinT, e]
      simp [Fin', closeB]
    | succ m ihm =>
      intro op rest h
      rw [show m + 1 + 1 = 1 + (m + 1) by omega] at h
      obtain ⟨x, y, rfl, hx, hy⟩ := Ms_split h
      have hxl := Ms_pos (m := 0) hx
      have hyl := Ms_pos (m := m) hy
      rw [List.length_append] at hu
      have hAx := (ih x (by omega)).1 ((m + 1 + 1) :: op) (y ++ rest) hx
      have hBy := (ih y (by omega)).2 m op rest hy
      rw [List.append_assoc, hAx, argsOf, fst1_pre y hx, rst1_pre y hx, argsOf, joinT]
      rw [argsOf] at hBy
      simp only [Fin', closeB] at *
      rw [List.singleton_append, hBy]
      simp
theorem txt_cons {c : Cell} {r : Trm} (h : Ms 1 (c :: r)) : txt (c :: r) = wordB c ++ if 0 < (ar c).toNat then 40 :: joinT (argsOf (ar c).toNat r) ++ [41] else [] := by
  have hr : Ms (ar c).toNat r := by rw [show 1 = 0 + 1 by rfl, Ms_cons, Nat.zero_add] at h; exact h
  unfold txt
  rw [R]
  by_cases h0 : 0 < (ar c).toNat
  · rw [if_pos h0, if_pos h0]
    obtain ⟨m, hm⟩ : ∃ m, (ar c).toNat = m + 1 := ⟨(ar c).toNat - 1, by omega⟩
    rw [hm] at hr ⊢
    have := (R_both r.length r (Nat.le_refl _)).2 m [] [] hr
    rw [List.append_nil] at this
    rw [this]
    simp [Fin', closeB, R]
  · rw [if_neg h0, if_neg h0]
    obtain rfl : r = [] := by
      have h0 : (ar c).toNat = 0 := by omega
      rw [h0, Ms_zero] at hr; exact hr
    simp [closeB, R]
theorem dec_len5' {u : Nat} (h : u < 100000) : (Lib.decDigits u).length ≤ 5 := (dec_len5 u).2 h
theorem itoa_len {n : Int} (h0 : -99999 ≤ n) (h1 : n ≤ 99999) : (Lib.itoa n).length ≤ 6 := by
  unfold Lib.itoa
  split
  · have := dec_len5' (u := n.natAbs) (by omega)
    simp; omega
  · have := dec_len5' (u := n.toNat) (by omega)
    omega
theorem nameOk_len {s : ByteArray} (h : nameOk s = true) : s.size ≤ 8 := by
  unfold nameOk at h
  simp only [Bool.and_eq_true, decide_eq_true_eq] at h
  exact h.1.1.2
theorem cellOk_fun {c : Cell} (h : cellOk c = true) (hc : c.k = 3) : nameOk c.s = true := by
  unfold cellOk at h
  rw [if_neg (by omega), if_neg (by omega), if_pos hc] at h
  simp at h
  exact h.2
theorem cellOk_k {c : Cell} (h : cellOk c = true) : c.k = 1 ∨ c.k = 2 ∨ c.k = 3 := by
  unfold cellOk at h
  split at h
  · exact .inl ‹_›
  · split at h
    · exact .inr (.inl ‹_›)
    · split at h
      · exact .inr (.inr ‹_›)
      · cases h
theorem cellOk_n' {c : Cell} (h : cellOk c = true) : -99999 ≤ c.n ∧ c.n ≤ 99999 := by
  unfold cellOk at h
  split at h
  · simp at h; omega
  · split at h
    · simp at h; omega
    · split at h
      · simp at h; omega
      · cases h
theorem word_len {c : Cell} (h : cellOk c = true) : (wordB c).length ≤ 8 := by
  have hn := cellOk_n' h
  have hi := itoa_len hn.1 hn.2
  unfold wordB
  rcases cellOk_k h with h1 | h1 | h1
  · rw [if_pos h1, List.length_cons]; omega
  · rw [if_neg (by omega), if_pos h1]; omega
  · rw [if_neg (by omega), if_neg (by omega), L_length]
    exact nameOk_len (cellOk_fun h h1)
end Go.Proofs.YtjnangiggnmkoaaGreatDoor
