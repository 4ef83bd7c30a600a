/- Flat terms: how they part, what filling in does, and one step of making two of them the same. No program in sight. -/
import Derived.Test.YtjnangiggnmkoaaGreatDoorModel4
namespace Go.Proofs.YtjnangiggnmkoaaGreatDoor
abbrev Sub := Int → Trm
abbrev Binds := List (Int × Trm)
def cs (θ : Sub) (c : Cell) : Trm := if c.k = 1 then θ c.n else [c]
def app (θ : Sub) (t : Trm) : Trm := t.flatMap (cs θ)
/-- Just so many terms. -/
def Ms (m : Nat) (t : Trm) : Prop := skip m t = some t.length
def vars (t : Trm) : List Int := (t.filter (fun c => decide (c.k = 1))).map (·.n)
def getB (s : Binds) (v : Int) : Option Trm := (s.find? (fun b => decide (b.1 = v))).map (·.2)
theorem Ms_zero {t : Trm} : Ms 0 t ↔ t = [] := by
  unfold Ms; cases t <;> simp [skip]
theorem Ms_cons {m : Nat} {c : Cell} {t : Trm} : Ms (m + 1) (c :: t) ↔ Ms (m + (ar c).toNat) t := by
  unfold Ms; rw [skip]; cases skip (m + (ar c).toNat) t <;> simp
theorem Ms_nil {m : Nat} : Ms m [] ↔ m = 0 := by
  unfold Ms; cases m <;> simp [skip]
theorem Ms_app : ∀ {t : Trm} {m n : Nat} {u : Trm}, Ms m t → Ms n u → Ms (m + n) (t ++ u)
  | [], m, n, u, h, k => by rw [Ms_nil] at h; subst h; simpa using k
  | c :: t, 0, n, u, h, k => by rw [Ms_zero] at h; cases h
  | c :: t, m + 1, n, u, h, k => by
    rw [Ms_cons] at h
    have := Ms_app h k
    rw [List.cons_append, show m + 1 + n = m + n + 1 by omega, Ms_cons, show m + n + (ar c).toNat = m + (ar c).toNat + n by omega]
    exact this
theorem Ms_uniq : ∀ {t t' : Trm} {m : Nat} {r r' : Trm}, Ms m t → Ms m t' → t ++ r = t' ++ r' → t = t' ∧ r = r'
  | [], t', m, r, r', h, h', e => by
    rw [Ms_nil] at h; subst h; rw [Ms_zero] at h'; subst h'; exact ⟨rfl, e⟩
  | c :: t, [], m, r, r', h, h', e => by
    rw [Ms_nil] at h'; subst h'; rw [Ms_zero] at h; cases h
  | c :: t, c' :: t', 0, r, r', h, h', e => by rw [Ms_zero] at h; cases h
  | c :: t, c' :: t', m + 1, r, r', h, h', e => by
    rw [List.cons_append, List.cons_append] at e
    injection e with e1 e2
    subst e1
    rw [Ms_cons] at h h'
    obtain ⟨rfl, rfl⟩ := Ms_uniq h h' e2
    exact ⟨rfl, rfl⟩
theorem Ms_split : ∀ {t : Trm} {m n : Nat}, Ms (m + n) t → ∃ u r, t = u ++ r ∧ Ms m u ∧ Ms n r
  | t, 0, n, h => ⟨[], t, rfl, Ms_zero.2 rfl, by simpa using h⟩
  | [], m + 1, n, h => by rw [Ms_nil] at h; omega
  | c :: t, m + 1, n, h => by
    rw [show m + 1 + n = m + n + 1 by omega, Ms_cons, show m + n + (ar c).toNat = m + (ar c).toNat + n by omega] at h
    obtain ⟨u, r, rfl, h1, h2⟩ := Ms_split h
    exact ⟨c :: u, r, rfl, Ms_cons.2 h1, h2⟩
theorem skip_pre : ∀ {u : Trm} {m : Nat} (r : Trm), Ms m u → skip m (u ++ r) = some u.length
  | [], m, r, h => by rw [Ms_nil] at h; subst h; simp [skip]
  | c :: u, 0, r, h => by rw [Ms_zero] at h; cases h
  | c :: u, m + 1, r, h => by
    rw [Ms_cons] at h
    rw [List.cons_append, skip, skip_pre r h]; simp
theorem Ms_skip : ∀ {t : Trm} {m k : Nat}, skip m t = some k → Ms m (t.take k)
  | t, 0, k, h => by simp [skip] at h; subst h; simp [Ms, skip]
  | [], m + 1, k, h => by simp [skip] at h
  | c :: t, m + 1, k, h => by
    rw [skip, Option.map_eq_some_iff] at h
    obtain ⟨j, hj, rfl⟩ := h
    rw [List.take_succ_cons, Ms_cons]
    exact Ms_skip hj
theorem Ms_pos {m : Nat} {t : Trm} (h : Ms (m + 1) t) : 0 < t.length := by
  cases t with
  | nil => rw [Ms_nil] at h; omega
  | cons c t => simp
/-- The first term of some, and the others. -/
def fst1 (t : Trm) : Trm := t.take (sizeOf' t)
def rst1 (t : Trm) : Trm := t.drop (sizeOf' t)
def argsOf : Nat → Trm → List Trm
  | 0, _ => []
  | m + 1, t => fst1 t :: argsOf m (rst1 t)
theorem size_pre {u : Trm} (r : Trm) (h : Ms 1 u) : sizeOf' (u ++ r) = u.length := by
  unfold sizeOf'; rw [skip_pre r h]; rfl
theorem fst1_pre {u : Trm} (r : Trm) (h : Ms 1 u) : fst1 (u ++ r) = u := by
  unfold fst1; rw [size_pre r h, List.take_left']; rfl
theorem rst1_pre {u : Trm} (r : Trm) (h : Ms 1 u) : rst1 (u ++ r) = r := by
  unfold rst1; rw [size_pre r h, List.drop_left']; rfl
theorem argsOf_len : ∀ (m : Nat) (t : Trm), (argsOf m t).length = m
  | 0, _ => rfl
  | m + 1, t => by rw [argsOf, List.length_cons, argsOf_len]
theorem argsOf_ok : ∀ {m : Nat} {t : Trm}, Ms m t → (argsOf m t).flatten = t ∧ ∀ x ∈ argsOf m t, Ms 1 x
  | 0, t, h => by rw [Ms_zero] at h; subst h; simp [argsOf]
  | m + 1, t, h => by
    rw [show m + 1 = 1 + m by omega] at h
    obtain ⟨u, r, rfl, h1, h2⟩ := Ms_split h
    obtain ⟨i1, i2⟩ := argsOf_ok h2
    rw [argsOf, fst1_pre r h1, rst1_pre r h1]
    refine ⟨by rw [List.flatten_cons, i1], fun x hx => ?_⟩
    rcases List.mem_cons.1 hx with rfl | hx
    · exact h1
    · exact i2 x hx
/-- Each variable stands for one term. -/
def Good (θ : Sub) : Prop := ∀ v, Ms 1 (θ v)
theorem app_append (θ : Sub) (t u : Trm) : app θ (t ++ u) = app θ t ++ app θ u := by unfold app; rw [List.flatMap_append]
theorem app_cons (θ : Sub) (c : Cell) (t : Trm) : app θ (c :: t) = cs θ c ++ app θ t := by unfold app; rw [List.flatMap_cons]
theorem app_nil (θ : Sub) : app θ [] = [] := rfl
theorem ar_var {c : Cell} (h : c.k = 1) : (ar c).toNat = 0 := by unfold ar; rw [if_neg (by omega)]; rfl
theorem Ms_subst {θ : Sub} (hθ : Good θ) : ∀ {t : Trm} {m : Nat}, Ms m t → Ms m (app θ t)
  | [], m, h => h
  | c :: t, 0, h => by rw [Ms_zero] at h; cases h
  | c :: t, m + 1, h => by
    rw [Ms_cons] at h
    have ih := Ms_subst hθ h
    rw [app_cons]; unfold cs
    split
    · rename_i hc
      rw [ar_var hc] at ih
      have := Ms_app (hθ c.n) ih
      rwa [show 1 + (m + 0) = m + 1 by omega] at this
    · exact Ms_cons.2 ih
theorem app_len_pos {θ : Sub} (hθ : Good θ) {t : Trm} (h : Ms 1 t) : 0 < (app θ t).length := Ms_pos (m := 0) (Ms_subst hθ h)
theorem app_congr {θ θ' : Sub} : ∀ {t : Trm}, (∀ x ∈ vars t, θ x = θ' x) → app θ t = app θ' t
  | [], _ => rfl
  | c :: t, h => by
    have h2 : ∀ x ∈ vars t, θ x = θ' x := fun x hx => h x (by
      unfold vars at *; rw [List.filter_cons]; split
      · exact List.mem_cons_of_mem _ hx
      · exact hx)
    rw [app_cons, app_cons, app_congr h2]; congr 1
    unfold cs
    split
    · rename_i hc
      exact h c.n (by unfold vars; rw [List.filter_cons, if_pos (by simpa using hc)]; simp)
    · rfl
theorem vars_append (t u : Trm) : vars (t ++ u) = vars t ++ vars u := by unfold vars; rw [List.filter_append, List.map_append]
theorem vars_cons_var {c : Cell} (h : c.k = 1) (t : Trm) : vars (c :: t) = c.n :: vars t := by unfold vars; rw [List.filter_cons, if_pos (by simpa using h)]; rfl
theorem vars_cons_fun {c : Cell} (h : c.k ≠ 1) (t : Trm) : vars (c :: t) = vars t := by unfold vars; rw [List.filter_cons, if_neg (by simpa using h)]
theorem app_ge {θ : Sub} : ∀ {t : Trm} {v : Int}, v ∈ vars t → (θ v).length ≤ (app θ t).length
  | [], v, h => by cases h
  | c :: t, v, h => by
    rw [app_cons, List.length_append]
    by_cases hc : c.k = 1
    · rw [vars_cons_var hc, List.mem_cons] at h
      rcases h with rfl | h
      · unfold cs; rw [if_pos hc]; omega
      · have := app_ge (θ := θ) h; omega
    · rw [vars_cons_fun hc] at h
      have := app_ge (θ := θ) h; omega
/-- A variable can be come to from a term's. -/
inductive Rch (s : Binds) : Trm → Int → Prop
  | here {t : Trm} {v : Int} : v ∈ vars t → Rch s t v
  | on {t u : Trm} {x v : Int} : x ∈ vars t → getB s x = some u → Rch s u v → Rch s t v
/-- What a term is at its beginning. -/
def walkB : Nat → Binds → Trm → Option Trm
  | 0, _, _ => none
  | n + 1, s, t => match t with
    | [] => none
    | c :: r => if c.k = 1 then match getB s c.n with
      | none => some (c :: r)
      | some u => walkB n s u
      else some (c :: r)
open Classical in
noncomputable def U : Nat → Binds → List (Trm × Trm) → Option (Option Binds)
  | 0, _, _ => none
  | _ + 1, s, [] => some (some s)
  | n + 1, s, (a, b) :: ps => match walkB n s a, walkB n s b with
    | some (x :: xs), some (y :: ys) =>
      if x.k = 1 ∧ x = y then U n s ps
      else if x.k = 1 then (if Rch s (y :: ys) x.n then some none else U n (s ++ [(x.n, y :: ys)]) ps)
      else if y.k = 1 then (if Rch s (x :: xs) y.n then some none else U n (s ++ [(y.n, x :: xs)]) ps)
      else if x = y then U n s ((argsOf (ar x).toNat xs).zip (argsOf (ar y).toNat ys) ++ ps)
      else some none
    | _, _ => none
theorem walkB_mono : ∀ {n m : Nat} {s : Binds} {t x : Trm}, walkB n s t = some x → n ≤ m → walkB m s t = some x
  | 0, m, s, t, x, h, _ => by simp [walkB] at h
  | n + 1, 0, s, t, x, h, hm => by omega
  | n + 1, m + 1, s, t, x, h, hm => by
    cases t with
    | nil => simp [walkB] at h
    | cons c r =>
      unfold walkB at h ⊢
      dsimp only at h ⊢
      split at h
      · rename_i hc
        rw [if_pos hc]
        cases hg : getB s c.n with
        | none => rw [hg] at h; exact h
        | some u => rw [hg] at h; exact walkB_mono h (by omega)
      · rename_i hc
        rw [if_neg hc]; exact h
theorem walkB_fun {n m : Nat} {s : Binds} {t x y : Trm} (h : walkB n s t = some x) (k : walkB m s t = some y) : x = y := by
  have h1 := walkB_mono h (Nat.le_max_left n m)
  rw [walkB_mono k (Nat.le_max_right n m)] at h1
  exact (Option.some.inj h1).symm
theorem U_mono : ∀ {n m : Nat} {s : Binds} {ps : List (Trm × Trm)} {r : Option Binds}, U n s ps = some r → n ≤ m → U m s ps = some r
  | 0, m, s, ps, r, h, _ => by simp [U] at h
  | n + 1, 0, s, ps, r, h, hm => by omega
  | n + 1, m + 1, s, [], r, h, hm => by simpa [U] using h
  | n + 1, m + 1, s, (a, b) :: ps, r, h, hm => by
    unfold U at h ⊢
    cases ha : walkB n s a with
    | none => rw [ha] at h; simp at h
    | some x =>
      cases hb : walkB n s b with
      | none => rw [ha, hb] at h; cases x <;> simp at h
      | some y =>
        rw [walkB_mono ha (show n ≤ m by omega), walkB_mono hb (show n ≤ m by omega)]
        rw [ha, hb] at h
        cases x with
        | nil => simp at h
        | cons x xs =>
          cases y with
          | nil => simp at h
          | cons y ys =>
            dsimp only at h ⊢
            split at h
            · rename_i h1; rw [if_pos h1]; exact U_mono h (by omega)
            · rename_i h1; rw [if_neg h1]
              split at h
              · rename_i h2; rw [if_pos h2]
                split at h
                · rename_i h3; rw [if_pos h3]; exact h
                · rename_i h3; rw [if_neg h3]; exact U_mono h (by omega)
              · rename_i h2; rw [if_neg h2]
                split at h
                · rename_i h4; rw [if_pos h4]
                  split at h
                  · rename_i h3; rw [if_pos h3]; exact h
                  · rename_i h3; rw [if_neg h3]; exact U_mono h (by omega)
                · rename_i h4; rw [if_neg h4]
                  split at h
                  · rename_i h5; rw [if_pos h5]; exact U_mono h (by omega)
                  · rename_i h5; rw [if_neg h5]; exact h
theorem U_fun {n m : Nat} {s : Binds} {ps : List (Trm × Trm)} {r r' : Option Binds} (h : U n s ps = some r) (k : U m s ps = some r') : r = r' := by
  have h1 := U_mono h (Nat.le_max_left n m)
  rw [U_mono k (Nat.le_max_right n m)] at h1
  exact (Option.some.inj h1).symm
def Then (qs : List (Trm × Trm)) (r : Option Binds) (N : Nat) (X : Option (Option Binds)) : Prop := (X = some none ∧ r = none) ∨ ∃ s' m, X = some (some s') ∧ m ≤ N ∧ U m s' qs = some r
/-- The others behind some: these first. -/
theorem U_then : ∀ {n : Nat} {s : Binds} {ps qs : List (Trm × Trm)} {r : Option Binds}, U n s (ps ++ qs) = some r → Then qs r n (U n s ps)
  | 0, s, ps, qs, r, h => by simp [U] at h
  | n + 1, s, [], qs, r, h => .inr ⟨s, n + 1, by simp [U], Nat.le_refl _, by simpa using h⟩
  | n + 1, s, (a, b) :: ps, qs, r, h => by
    rw [List.cons_append] at h
    have lift : ∀ {s1 : Binds} {ps1 : List (Trm × Trm)}, U n s1 (ps1 ++ qs) = some r → Then qs r (n + 1) (U n s1 ps1) := fun h => by
      rcases U_then h with ⟨h1, h2⟩ | ⟨s', m, h1, h2, h3⟩
      · exact .inl ⟨h1, h2⟩
      · exact .inr ⟨s', m, h1, by omega, h3⟩
    unfold U at h ⊢
    cases ha : walkB n s a with
    | none => rw [ha] at h; simp at h
    | some x =>
      cases hb : walkB n s b with
      | none => rw [ha, hb] at h; cases x <;> simp at h
      | some y =>
        rw [ha, hb] at h
        cases x with
        | nil => simp at h
        | cons x xs =>
          cases y with
          | nil => simp at h
          | cons y ys =>
            dsimp only at h ⊢
            split at h
            · rename_i h1; rw [if_pos h1]; exact lift h
            · rename_i h1; rw [if_neg h1]
              split at h
              · rename_i h2; rw [if_pos h2]
                split at h
                · rename_i h3; rw [if_pos h3]; exact .inl ⟨rfl, (Option.some.inj h).symm⟩
                · rename_i h3; rw [if_neg h3]; exact lift h
              · rename_i h2; rw [if_neg h2]
                split at h
                · rename_i h4; rw [if_pos h4]
                  split at h
                  · rename_i h3; rw [if_pos h3]; exact .inl ⟨rfl, (Option.some.inj h).symm⟩
                  · rename_i h3; rw [if_neg h3]; exact lift h
                · rename_i h4; rw [if_neg h4]
                  split at h
                  · rename_i h5; rw [if_pos h5]; rw [← List.append_assoc] at h; exact lift h
                  · rename_i h5; rw [if_neg h5]; exact .inl ⟨rfl, (Option.some.inj h).symm⟩
end Go.Proofs.YtjnangiggnmkoaaGreatDoor
