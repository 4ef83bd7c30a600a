/- Plain model: free variables, canonical terms, shifted terms. No program in sight. -/
import Derived.Test.YtjnangiggnmkoaaGreatDoorModel1
namespace Go.Proofs.YtjnangiggnmkoaaGreatDoor
/-- Where a number stands first; -1, if nowhere. -/
def place (xs : List Int) (n : Int) : Int := match xs with
  | [] => -1
  | x :: xs => if x = n then 0 else if place xs n < 0 then -1 else place xs n + 1
def freeStep (out : List Int) (c : Cell) : List Int := if c.k = 1 ∧ c.n ∉ out then out ++ [c.n] else out
def free (t : Trm) : List Int := t.foldl freeStep []
def canon (t : Trm) : Trm := t.map fun c => if c.k = 1 then { c with n := place (free t) c.n } else c
def shift (t : Trm) (n : Int) : Trm := t.map fun c => if c.k = 1 then { c with n := c.n + n } else c
theorem place_ge (xs : List Int) (n : Int) : -1 ≤ place xs n ∧ place xs n < xs.length := by
  induction xs with
  | nil => simp [place]
  | cons x xs ih =>
    unfold place
    split
    · exact ⟨by omega, by simp only [List.length_cons]; omega⟩
    · split
      · exact ⟨by omega, by simp only [List.length_cons]; omega⟩
      · exact ⟨by omega, by simp only [List.length_cons]; omega⟩
theorem place_hit : ∀ {xs : List Int} {n : Int} {k : Nat}, xs[k]? = some n → (∀ j, j < k → xs[j]? ≠ some n) → place xs n = k
  | [], n, k, h, _ => by simp at h
  | x :: xs, n, 0, h, _ => by
    obtain rfl : x = n := by simpa using h
    simp [place]
  | x :: xs, n, k + 1, h, hj => by
    have hx : x ≠ n := fun e => hj 0 (by omega) (by simp [e])
    have ih := place_hit (xs := xs) (n := n) (k := k) (by simpa using h) (fun j h' => by have := hj (j + 1) (by omega); simpa using this)
    unfold place
    rw [if_neg hx, ih, if_neg (by omega)]; omega
theorem place_miss {xs : List Int} {n : Int} (h : n ∉ xs) : place xs n = -1 := by
  induction xs with
  | nil => rfl
  | cons x xs ih =>
    rw [List.mem_cons, not_or] at h
    unfold place
    rw [if_neg (fun e => h.1 e.symm), ih h.2]; rfl
theorem free_len (t : Trm) : (free t).length ≤ t.length := by
  have : ∀ (t : Trm) (out : List Int), (t.foldl freeStep out).length ≤ out.length + t.length := fun t => by
    induction t with
    | nil => intro out; simp
    | cons c t ih =>
      intro out
      have := ih (freeStep out c)
      have h2 : (freeStep out c).length ≤ out.length + 1 := by unfold freeStep; split <;> simp
      simp only [List.foldl_cons, List.length_cons]; omega
  simpa [free] using this t []
theorem free_take {t : Trm} {k : Nat} {c : Cell} (h : t[k]? = some c) : (t.take (k + 1)).foldl freeStep [] = freeStep ((t.take k).foldl freeStep []) c := by
  have hl := (List.getElem?_eq_some_iff.1 h).1
  rw [List.take_succ_eq_append_getElem hl, (List.getElem?_eq_some_iff.1 h).2, List.foldl_append]; rfl
end Go.Proofs.YtjnangiggnmkoaaGreatDoor
