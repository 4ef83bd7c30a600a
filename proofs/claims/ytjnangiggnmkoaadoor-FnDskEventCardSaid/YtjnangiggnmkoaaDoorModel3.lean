/- The plain model of lines that say what happens. No program in sight. -/
import Derived.Test.YtjnangiggnmkoaaDoorModel2
namespace Go.Proofs.YtjnangiggnmkoaaDoor
def names : List Bs := [[], [97, 115, 107], [114, 117, 110], [104, 101, 97, 114], [108, 111, 115, 101], [116, 119, 105, 99, 101], [98, 101, 110, 100], [102, 97, 108, 108], [114, 105, 115, 101]]
/-- Where a thing stands among some. -/
def ixOf {α : Type} [DecidableEq α] (x : α) : List α → Option Nat
  | [] => none
  | y :: ys => if y = x then some 0 else (ixOf x ys).map (· + 1)
theorem ixOf_some {α : Type} [DecidableEq α] {x : α} : ∀ {xs : List α} {i : Nat}, ixOf x xs = some i ↔ xs[i]? = some x ∧ ∀ j, j < i → xs[j]? ≠ some x
  | [], i => by simp [ixOf]
  | y :: ys, i => by
    unfold ixOf
    split
    · rename_i h
      subst h
      cases i with
      | zero => simp
      | succ i => simp only [Option.some.injEq]; constructor
                  · intro e; omega
                  · intro ⟨_, h⟩; exact absurd rfl (h 0 (by omega))
    · rename_i h
      cases i with
      | zero => simp [h]
      | succ i =>
        have ih := @ixOf_some α _ x ys i
        simp only [Option.map_eq_some_iff, Nat.add_right_cancel_iff, exists_eq_right, ih, List.getElem?_cons_succ]
        refine and_congr_right fun _ => ⟨fun hj j hlt => ?_, fun hj j hlt => ?_⟩
        · cases j with
          | zero => simpa using h
          | succ j => exact hj j (by omega)
        · exact hj (j + 1) (by omega)
theorem ixOf_none {α : Type} [DecidableEq α] {x : α} {xs : List α} : ixOf x xs = none ↔ x ∉ xs := by
  induction xs with
  | nil => simp [ixOf]
  | cons y ys ih =>
    unfold ixOf
    split
    · rename_i h; simp [h]
    · rename_i h
      simp only [Option.map_eq_none_iff, ih, List.mem_cons, not_or]
      exact ⟨fun hm => ⟨fun e => h e.symm, hm⟩, fun hm => hm.2⟩
def kindOf (x : Bs) : Nat := (ixOf x names).getD 0
theorem names_no32 : ∀ x ∈ names, (32 : UInt8) ∉ x := by decide +kernel
theorem kind_name {x : Bs} {k : Nat} (h : kindOf x = k) (h1 : 1 ≤ k) : k < 9 ∧ names.getD k [] = x := by
  unfold kindOf at h
  cases hi : ixOf x names with
  | none => rw [hi] at h; simp at h; omega
  | some i =>
    rw [hi] at h
    obtain rfl : i = k := h
    have hg := (ixOf_some.1 hi).1
    have hl := (List.getElem?_eq_some_iff.1 hg).1
    exact ⟨hl, by rw [List.getD_eq_getElem?_getD, hg]; rfl⟩
theorem kind_of_name {k : Nat} (h9 : k < 9) : kindOf (names.getD k []) = k :=
  (show ∀ k : Fin 9, kindOf (names.getD k.val []) = k.val by decide +kernel) ⟨k, h9⟩
theorem kind_lt (x : Bs) : kindOf x < 9 := by
  rcases Nat.eq_zero_or_pos (kindOf x) with h | h
  · omega
  · exact (kind_name rfl h).1
/-- What is said, by its parts. -/
structure Ev where
  k : Nat
  a : Nat
  p : Nat
  v : Nat
def evWords : List Bs → Option Ev
  | [x] => if kindOf x = 1 then some ⟨1, 0, 0, 0⟩ else none
  | [x, a] => if 2 ≤ kindOf x ∧ kindOf x ≠ 6 then (numOf a).map fun n => ⟨kindOf x, n, 0, 0⟩ else none
  | [x, a, p, v] => if kindOf x = 6 then (numOf a).bind fun n => (numOf p).bind fun m => (numOf v).map fun r => ⟨6, n, m, r⟩ else none
  | _ => none
def evOf (s : ByteArray) : Option Ev := if s.size ≤ 40 then evWords (splitSp (L s)) else none
/-- The text of what is said. -/
def evText (e : Ev) : Bs :=
  if e.k = 1 then names.getD 1 []
  else if e.k = 6 then names.getD 6 [] ++ 32 :: (Lib.decDigits e.a ++ 32 :: (Lib.decDigits e.p ++ 32 :: Lib.decDigits e.v))
  else names.getD e.k [] ++ 32 :: Lib.decDigits e.a
theorem name_no32 {k : Nat} (h : k < 9) : (32 : UInt8) ∉ names.getD k [] := by
  refine names_no32 _ ?_
  rw [List.getD_eq_getElem?_getD, List.getElem?_eq_getElem (show k < names.length from h)]
  exact List.getElem_mem _
/-- A line is the text of what it says, and of nothing else. -/
theorem evText_words {e : Ev} (h9 : e.k < 9) : splitSp (evText e) =
    (if e.k = 1 then [names.getD 1 []] else if e.k = 6 then [names.getD 6 [], Lib.decDigits e.a, Lib.decDigits e.p, Lib.decDigits e.v] else [names.getD e.k [], Lib.decDigits e.a]) := by
  unfold evText
  split
  · rw [split_word _ (name_no32 (by omega))]
  · split
    · rw [split_app _ _ (name_no32 (by omega)), split_app _ _ (dec_no32 _), split_app _ _ (dec_no32 _), split_word _ (dec_no32 _)]
    · rw [split_app _ _ (name_no32 h9), split_word _ (dec_no32 _)]
theorem split_inj {a b : Bs} (h : splitSp a = splitSp b) : a = b := by rw [← join_split a, ← join_split b, h]
/-- A number as the reference reads it: -1, if it is none; 0, if there is none. -/
def num1 (x : Bs) : Int := if x.all isDig = true ∧ 1 ≤ x.length ∧ x.length ≤ 5 then (val x : Int) else -1
def numAt (ws : List Bs) (i : Nat) : Int := (ws[i]?.map num1).getD 0
/-- What the reference makes of a line. -/
def evSpec (s : ByteArray) : Option Ev :=
  let ws := splitSp (L s)
  let k := kindOf (ws.headD [])
  if k = 0 ∨ 40 < s.size ∨ numAt ws 1 < 0 ∨ numAt ws 2 < 0 ∨ numAt ws 3 < 0 then none
  else
    let e : Ev := ⟨k, (numAt ws 1).toNat, (numAt ws 2).toNat, (numAt ws 3).toNat⟩
    if evText e = L s then some e else none
theorem num1_dec (n : Nat) (h : n < 100000) : num1 (Lib.decDigits n) = n := by
  unfold num1
  rw [if_pos ⟨dec_dig n, List.length_pos_iff.2 (dec_ne n), (dec_len5 n).2 h⟩, val_dec]
theorem numOf_num1 {x : Bs} (h : 0 ≤ num1 x) (he : Lib.decDigits (num1 x).toNat = x) : numOf x = some (num1 x).toNat := by
  rw [numOf_dec]
  refine ⟨he.symm, ?_⟩
  unfold num1 at h he ⊢
  split at h
  · rename_i hc
    rw [if_pos hc] at he ⊢
    have := (dec_len5 (val x : Int).toNat).1 (by rw [he]; exact hc.2.2)
    exact this
  · omega
theorem numOf_eq (x : Bs) : numOf x = if 0 ≤ num1 x ∧ Lib.decDigits (num1 x).toNat = x then some (num1 x).toNat else none := by
  split
  · rename_i h; exact numOf_num1 h.1 h.2
  · rename_i h
    cases hn : numOf x with
    | none => rfl
    | some n =>
      exfalso
      obtain ⟨rfl, hl⟩ := numOf_dec.1 hn
      rw [num1_dec n hl] at h
      exact h ⟨by omega, by simp⟩
theorem evText_iff {e : Ev} {l : Bs} (h9 : e.k < 9) : evText e = l ↔ splitSp l = (if e.k = 1 then [names.getD 1 []] else if e.k = 6 then [names.getD 6 [], Lib.decDigits e.a, Lib.decDigits e.p, Lib.decDigits e.v] else [names.getD e.k [], Lib.decDigits e.a]) := by
  rw [← evText_words h9]
  exact ⟨fun h => by rw [h], fun h => split_inj h.symm⟩
/-- The reference's reading is the plain one. -/
theorem evSpec_eq (s : ByteArray) : evSpec s = evOf s := by
  unfold evSpec evOf
  obtain ⟨x, rest, hw⟩ : ∃ x rest, splitSp (L s) = x :: rest := by
    cases h : splitSp (L s) with
    | nil => exact absurd h (splitSp_ne _)
    | cons x rest => exact ⟨x, rest, rfl⟩
  simp only [hw, List.headD_cons]
  by_cases h40 : 40 < s.size
  · rw [if_pos (.inr (.inl h40)), if_neg (by omega)]
  rw [if_pos (show s.size ≤ 40 by omega)]
  have hk9 := kind_lt x
  by_cases h0 : kindOf x = 0
  · rw [if_pos (.inl h0)]
    match rest with
    | [] => simp [evWords, h0]
    | [a] => simp [evWords, h0]
    | [a, p] => rfl
    | [a, p, v] => simp [evWords, h0]
    | a :: p :: v :: z :: r => rfl
  have hx := (kind_name (x := x) rfl (by omega)).2
  obtain ⟨k, hk⟩ : ∃ k, kindOf x = k := ⟨_, rfl⟩
  rw [hk] at h0 hk9 hx ⊢
  by_cases h1 : k = 1
  · subst h1
    match rest with
    | [] =>
      rw [if_neg (by simp [numAt]; omega), if_pos ((evText_iff (by simp)).2 (by simp only [if_true]; rw [hw, hx])), show evWords [x] = if kindOf x = 1 then some ⟨1, 0, 0, 0⟩ else none from rfl, if_pos hk]
      rfl
    | [a] => simp [evWords, hk, numAt, evText_iff, hw]
    | [a, p] => simp [evWords, numAt, evText_iff, hw]
    | [a, p, v] => simp [evWords, hk, numAt, evText_iff, hw]
    | a :: p :: v :: z :: r => simp [evWords, numAt, evText_iff, hw]
  · by_cases h6 : k = 6
    · subst h6
      match rest with
      | [] => simp [evWords, hk, numAt, evText_iff, hw]
      | [a] => simp [evWords, hk, numAt, evText_iff, hw]
      | [a, p] => simp [evWords, numAt, evText_iff, hw]
      | [a, p, v] =>
        rw [show numAt [x, a, p, v] 1 = num1 a from rfl, show numAt [x, a, p, v] 2 = num1 p from rfl, show numAt [x, a, p, v] 3 = num1 v from rfl]
        simp only [evWords, hk, numOf_eq, if_true]
        by_cases ha : 0 ≤ num1 a ∧ Lib.decDigits (num1 a).toNat = a
        · by_cases hp : 0 ≤ num1 p ∧ Lib.decDigits (num1 p).toNat = p
          · by_cases hv : 0 ≤ num1 v ∧ Lib.decDigits (num1 v).toNat = v
            · rw [if_pos ha, if_pos hp, if_pos hv, if_neg (by simp; omega), if_pos]
              · simp
              · rw [evText_iff (by simp)]; simp [hw, ← hx, ha.2, hp.2, hv.2]
            · rw [if_pos ha, if_pos hp, if_neg hv]
              split
              · simp
              · rename_i hn
                rw [if_neg]
                · simp
                · rw [evText_iff (by simp)]; simp [hw]; intro _ _ _ e; exact hv ⟨by simp at hn; omega, e.symm⟩
          · rw [if_pos ha, if_neg hp]
            split
            · simp
            · rename_i hn
              rw [if_neg]
              · simp
              · rw [evText_iff (by simp)]; simp [hw]; intro _ _ e; exact absurd ⟨by simp at hn; omega, e.symm⟩ hp
        · rw [if_neg ha]
          split
          · simp
          · rename_i hn
            rw [if_neg]
            · simp
            · rw [evText_iff (by simp)]; simp [hw]; intro _ e; exact absurd ⟨by simp at hn; omega, e.symm⟩ ha
      | a :: p :: v :: z :: r => simp [evWords, numAt, evText_iff, hw]
    · match rest with
      | [] => simp [evWords, hk, numAt, evText_iff, hw, h1, h6, hk9]
      | [a] =>
        rw [show numAt [x, a] 1 = num1 a from rfl, show numAt [x, a] 2 = 0 from rfl, show numAt [x, a] 3 = 0 from rfl]
        simp only [evWords, hk, numOf_eq]
        rw [if_pos (show 2 ≤ k ∧ k ≠ 6 by omega)]
        by_cases ha : 0 ≤ num1 a ∧ Lib.decDigits (num1 a).toNat = a
        · rw [if_pos ha, if_neg (by simp; omega), if_pos]
          · simp
          · rw [evText_iff (by simpa using hk9)]; simp only [h1, h6, if_false]; rw [hw, hx, ha.2]
        · rw [if_neg ha]
          split
          · simp
          · rename_i hn
            rw [if_neg]
            · simp
            · rw [evText_iff (by simpa using hk9)]; simp [hw, h1, h6]; intro _ e; exact absurd ⟨by simp at hn; omega, e.symm⟩ ha
      | [a, p] => simp [evWords, numAt, evText_iff, hw, h1, h6, hk9]
      | [a, p, v] => simp [evWords, hk, numAt, evText_iff, hw, h1, h6, hk9]
      | a :: p :: v :: z :: r => simp [evWords, numAt, evText_iff, hw, h1, h6, hk9]
end Go.Proofs.YtjnangiggnmkoaaDoor
