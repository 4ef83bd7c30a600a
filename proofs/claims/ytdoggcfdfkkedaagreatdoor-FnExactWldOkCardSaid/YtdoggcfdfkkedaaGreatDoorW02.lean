/- Lemmas and contracts for FnExactWldOk, part 2. -/
import Derived.Test.YtdoggcfdfkkedaaGreatDoorW01
namespace Go.Proofs.YtdoggcfdfkkedaaGreatDoor
set_option linter.unusedVariables false
abbrev Sub := Int → Trm
abbrev Binds := List (Int × Trm)
def cs (θ : Sub) (c : Cell) : Trm := if c.k = 1 then θ c.n else [c]
def app (θ : Sub) (t : Trm) : Trm := t.flatMap (cs θ)
def Ms (m : Nat) (t : Trm) : Prop := skip m t = some t.length
def vars (t : Trm) : List Int := (t.filter (fun c => decide (c.k = 1))).map (·.n)
def getB (s : Binds) (v : Int) : Option Trm := (s.find? (fun b => decide (b.1 = v))).map (·.2)
theorem Ms_zero {t : Trm} : Ms 0 t ↔ t = [] := by
  unfold Ms; cases t <;> simp [skip]
theorem Ms_cons {m : Nat} {c : Cell} {t : Trm} : Ms (m + 1) (c :: t) ↔ Ms (m + (ar c).toNat) t := by
  unfold Ms; rw [skip]; cases skip (m + (ar c).toNat) t <;> simp
theorem Ms_nil {m : Nat} : Ms m [] ↔ m = 0 := by
  unfold Ms; cases m <;> simp [skip]
theorem Ms_app : ∀ {t : Trm} {m n : Nat} {u : Trm}, Ms m t → Ms n u → Ms (m + n) (t ++ u)
  | [], m, n, u, h, k => by rw [Ms_nil] at h; subst h; simpa using k
  | c :: t, 0, n, u, h, k => by rw [Ms_zero] at h; cases h
  | c :: t, m + 1, n, u, h, k => by
    rw [Ms_cons] at h
    have := Ms_app h k
    rw [List.cons_append, show m + 1 + n = m + n + 1 by omega, Ms_cons, show m + n + (ar c).toNat = m + (ar c).toNat + n by omega]
    exact this
theorem Ms_uniq : ∀ {t t' : Trm} {m : Nat} {r r' : Trm}, Ms m t → Ms m t' → t ++ r = t' ++ r' → t = t' ∧ r = r'
  | [], t', m, r, r', h, h', e => by
    rw [Ms_nil] at h; subst h; rw [Ms_zero] at h'; subst h'; exact ⟨rfl, e⟩
  | c :: t, [], m, r, r', h, h', e => by
    rw [Ms_nil] at h'; subst h'; rw [Ms_zero] at h; cases h
  | c :: t, c' :: t', 0, r, r', h, h', e => by rw [Ms_zero] at h; cases h
  | c :: t, c' :: t', m + 1, r, r', h, h', e => by
    rw [List.cons_append, List.cons_append] at e
    injection e with e1 e2
    subst e1
    rw [Ms_cons] at h h'
    obtain ⟨rfl, rfl⟩ := Ms_uniq h h' e2
    exact ⟨rfl, rfl⟩
theorem Ms_split : ∀ {t : Trm} {m n : Nat}, Ms (m + n) t → ∃ u r, t = u ++ r ∧ Ms m u ∧ Ms n r
  | t, 0, n, h => ⟨[], t, rfl, Ms_zero.2 rfl, by simpa using h⟩
  | [], m + 1, n, h => by rw [Ms_nil] at h; omega
  | c :: t, m + 1, n, h => by
    rw [show m + 1 + n = m + n + 1 by omega, Ms_cons, show m + n + (ar c).toNat = m + (ar c).toNat + n by omega] at h
    obtain ⟨u, r, rfl, h1, h2⟩ := Ms_split h
    exact ⟨c :: u, r, rfl, Ms_cons.2 h1, h2⟩
theorem skip_pre : ∀ {u : Trm} {m : Nat} (r : Trm), Ms m u → skip m (u ++ r) = some u.length
  | [], m, r, h => by rw [Ms_nil] at h; subst h; simp [skip]
  | c :: u, 0, r, h => by rw [Ms_zero] at h; cases h
  | c :: u, m + 1, r, h => by
    rw [Ms_cons] at h
    rw [List.cons_append, skip, skip_pre r h]; simp
theorem Ms_pos {m : Nat} {t : Trm} (h : Ms (m + 1) t) : 0 < t.length := by
  cases t with
  | nil => rw [Ms_nil] at h; omega
  | cons c t => simp
def fst1 (t : Trm) : Trm := t.take (sizeOf' t)
def rst1 (t : Trm) : Trm := t.drop (sizeOf' t)
def argsOf : Nat → Trm → List Trm
  | 0, _ => []
  | m + 1, t => fst1 t :: argsOf m (rst1 t)
theorem size_pre {u : Trm} (r : Trm) (h : Ms 1 u) : sizeOf' (u ++ r) = u.length := by
  unfold sizeOf'; rw [skip_pre r h]; rfl
theorem fst1_pre {u : Trm} (r : Trm) (h : Ms 1 u) : fst1 (u ++ r) = u := by
  unfold fst1; rw [size_pre r h, List.take_left']; rfl
theorem rst1_pre {u : Trm} (r : Trm) (h : Ms 1 u) : rst1 (u ++ r) = r := by
  unfold rst1; rw [size_pre r h, List.drop_left']; rfl
theorem argsOf_len : ∀ (m : Nat) (t : Trm), (argsOf m t).length = m
  | 0, _ => rfl
  | m + 1, t => by rw [argsOf, List.length_cons, argsOf_len]
theorem argsOf_ok : ∀ {m : Nat} {t : Trm}, Ms m t → (argsOf m t).flatten = t ∧ ∀ x ∈ argsOf m t, Ms 1 x
  | 0, t, h => by rw [Ms_zero] at h; subst h; simp [argsOf]
  | m + 1, t, h => by
    rw [show m + 1 = 1 + m by omega] at h
    obtain ⟨u, r, rfl, h1, h2⟩ := Ms_split h
    obtain ⟨i1, i2⟩ := argsOf_ok h2
    rw [argsOf, fst1_pre r h1, rst1_pre r h1]
    refine ⟨by rw [List.flatten_cons, i1], fun x hx => ?_⟩
    rcases List.mem_cons.1 hx with rfl | hx
    · exact h1
    · exact i2 x hx
def Good (θ : Sub) : Prop := ∀ v, Ms 1 (θ v)
theorem app_append (θ : Sub) (t u : Trm) : app θ (t ++ u) = app θ t ++ app θ u := by unfold app; rw [List.flatMap_append]
theorem app_cons (θ : Sub) (c : Cell) (t : Trm) : app θ (c :: t) = cs θ c ++ app θ t := by unfold app; rw [List.flatMap_cons]
theorem app_nil (θ : Sub) : app θ [] = [] := rfl
theorem ar_var {c : Cell} (h : c.k = 1) : (ar c).toNat = 0 := by unfold ar; rw [if_neg (by omega)]; rfl
theorem Ms_subst {θ : Sub} (hθ : Good θ) : ∀ {t : Trm} {m : Nat}, Ms m t → Ms m (app θ t)
  | [], m, h => h
  | c :: t, 0, h => by rw [Ms_zero] at h; cases h
  | c :: t, m + 1, h => by
    rw [Ms_cons] at h
    have ih := Ms_subst hθ h
    rw [app_cons]; unfold cs
    split
    · rename_i hc
      rw [ar_var hc] at ih
      have := Ms_app (hθ c.n) ih
      rwa [show 1 + (m + 0) = m + 1 by omega] at this
    · exact Ms_cons.2 ih
theorem app_len_pos {θ : Sub} (hθ : Good θ) {t : Trm} (h : Ms 1 t) : 0 < (app θ t).length := Ms_pos (m := 0) (Ms_subst hθ h)
theorem app_congr {θ θ' : Sub} : ∀ {t : Trm}, (∀ x ∈ vars t, θ x = θ' x) → app θ t = app θ' t
  | [], _ => rfl
  | c :: t, h => by
    have h2 : ∀ x ∈ vars t, θ x = θ' x := fun x hx => h x (by
      unfold vars at *; rw [List.filter_cons]; split
      · exact List.mem_cons_of_mem _ hx
      · exact hx)
    rw [app_cons, app_cons, app_congr h2]; congr 1
    unfold cs
    split
    · rename_i hc
      exact h c.n (by unfold vars; rw [List.filter_cons, if_pos (by simpa using hc)]; simp)
    · rfl
theorem vars_cons_var {c : Cell} (h : c.k = 1) (t : Trm) : vars (c :: t) = c.n :: vars t := by unfold vars; rw [List.filter_cons, if_pos (by simpa using h)]; rfl
theorem vars_cons_fun {c : Cell} (h : c.k ≠ 1) (t : Trm) : vars (c :: t) = vars t := by unfold vars; rw [List.filter_cons, if_neg (by simpa using h)]
theorem app_ge {θ : Sub} : ∀ {t : Trm} {v : Int}, v ∈ vars t → (θ v).length ≤ (app θ t).length
  | [], v, h => by cases h
  | c :: t, v, h => by
    rw [app_cons, List.length_append]
    by_cases hc : c.k = 1
    · rw [vars_cons_var hc, List.mem_cons] at h
      rcases h with rfl | h
      · unfold cs; rw [if_pos hc]; omega
      · have := app_ge (θ := θ) h; omega
    · rw [vars_cons_fun hc] at h
      have := app_ge (θ := θ) h; omega
inductive Rch (s : Binds) : Trm → Int → Prop
  | here {t : Trm} {v : Int} : v ∈ vars t → Rch s t v
  | on {t u : Trm} {x v : Int} : x ∈ vars t → getB s x = some u → Rch s u v → Rch s t v
def walkB : Nat → Binds → Trm → Option Trm
  | 0, _, _ => none
  | n + 1, s, t => match t with
    | [] => none
    | c :: r => if c.k = 1 then match getB s c.n with
      | none => some (c :: r)
      | some u => walkB n s u
      else some (c :: r)
open Classical in
noncomputable def U : Nat → Binds → List (Trm × Trm) → Option (Option Binds)
  | 0, _, _ => none
  | _ + 1, s, [] => some (some s)
  | n + 1, s, (a, b) :: ps => match walkB n s a, walkB n s b with
    | some (x :: xs), some (y :: ys) =>
      if x.k = 1 ∧ x = y then U n s ps
      else if x.k = 1 then (if Rch s (y :: ys) x.n then some none else U n (s ++ [(x.n, y :: ys)]) ps)
      else if y.k = 1 then (if Rch s (x :: xs) y.n then some none else U n (s ++ [(y.n, x :: xs)]) ps)
      else if x = y then U n s ((argsOf (ar x).toNat xs).zip (argsOf (ar y).toNat ys) ++ ps)
      else some none
    | _, _ => none
theorem walkB_mono : ∀ {n m : Nat} {s : Binds} {t x : Trm}, walkB n s t = some x → n ≤ m → walkB m s t = some x
  | 0, m, s, t, x, h, _ => by simp [walkB] at h
  | n + 1, 0, s, t, x, h, hm => by omega
  | n + 1, m + 1, s, t, x, h, hm => by
    cases t with
    | nil => simp [walkB] at h
    | cons c r =>
      unfold walkB at h ⊢
      dsimp only at h ⊢
      split at h
      · rename_i hc
        rw [if_pos hc]
        cases hg : getB s c.n with
        | none => rw [hg] at h; exact h
        | some u => rw [hg] at h; exact walkB_mono h (by omega)
      · rename_i hc
        rw [if_neg hc]; exact h
theorem U_mono : ∀ {n m : Nat} {s : Binds} {ps : List (Trm × Trm)} {r : Option Binds}, U n s ps = some r → n ≤ m → U m s ps = some r
  | 0, m, s, ps, r, h, _ => by simp [U] at h
  | n + 1, 0, s, ps, r, h, hm => by omega
  | n + 1, m + 1, s, [], r, h, hm => by simpa [U] using h
  | n + 1, m + 1, s, (a, b) :: ps, r, h, hm => by
    unfold U at h ⊢
    cases ha : walkB n s a with
    | none => rw [ha] at h; simp at h
    | some x =>
      cases hb : walkB n s b with
      | none => rw [ha, hb] at h; cases x <;> simp at h
      | some y =>
        rw [walkB_mono ha (show n ≤ m by omega), walkB_mono hb (show n ≤ m by omega)]
        rw [ha, hb] at h
        cases x with
        | nil => simp at h
        | cons x xs =>
          cases y with
          | nil => simp at h
          | cons y ys =>
            dsimp only at h ⊢
            split at h
            · rename_i h1; rw [if_pos h1]; exact U_mono h (by omega)
            · rename_i h1; rw [if_neg h1]
              split at h
              · rename_i h2; rw [if_pos h2]
                split at h
                · rename_i h3; rw [if_pos h3]; exact h
                · rename_i h3; rw [if_neg h3]; exact U_mono h (by omega)
              · rename_i h2; rw [if_neg h2]
                split at h
                · rename_i h4; rw [if_pos h4]
                  split at h
                  · rename_i h3; rw [if_pos h3]; exact h
                  · rename_i h3; rw [if_neg h3]; exact U_mono h (by omega)
                · rename_i h4; rw [if_neg h4]
                  split at h
                  · rename_i h5; rw [if_pos h5]; exact U_mono h (by omega)
                  · rename_i h5; rw [if_neg h5]; exact h
theorem U_fun {n m : Nat} {s : Binds} {ps : List (Trm × Trm)} {r r' : Option Binds} (h : U n s ps = some r) (k : U m s ps = some r') : r = r' := by
  have h1 := U_mono h (Nat.le_max_left n m)
  rw [U_mono k (Nat.le_max_right n m)] at h1
  exact (Option.some.inj h1).symm
def Then (qs : List (Trm × Trm)) (r : Option Binds) (N : Nat) (X : Option (Option Binds)) : Prop := (X = some none ∧ r = none) ∨ ∃ s' m, X = some (some s') ∧ m ≤ N ∧ U m s' qs = some r
theorem U_then : ∀ {n : Nat} {s : Binds} {ps qs : List (Trm × Trm)} {r : Option Binds}, U n s (ps ++ qs) = some r → Then qs r n (U n s ps)
  | 0, s, ps, qs, r, h => by simp [U] at h
  | n + 1, s, [], qs, r, h => .inr ⟨s, n + 1, by simp [U], Nat.le_refl _, by simpa using h⟩
  | n + 1, s, (a, b) :: ps, qs, r, h => by
    rw [List.cons_append] at h
    have lift : ∀ {s1 : Binds} {ps1 : List (Trm × Trm)}, U n s1 (ps1 ++ qs) = some r → Then qs r (n + 1) (U n s1 ps1) := fun h => by
      rcases U_then h with ⟨h1, h2⟩ | ⟨s', m, h1, h2, h3⟩
      · exact .inl ⟨h1, h2⟩
      · exact .inr ⟨s', m, h1, by omega, h3⟩
    unfold U at h ⊢
    cases ha : walkB n s a with
    | none => rw [ha] at h; simp at h
    | some x =>
      cases hb : walkB n s b with
      | none => rw [ha, hb] at h; cases x <;> simp at h
      | some y =>
        rw [ha, hb] at h
        cases x with
        | nil => simp at h
        | cons x xs =>
          cases y with
          | nil => simp at h
          | cons y ys =>
            dsimp only at h ⊢
            split at h
            · rename_i h1; rw [if_pos h1]; exact lift h
            · rename_i h1; rw [if_neg h1]
              split at h
              · rename_i h2; rw [if_pos h2]
                split at h
                · rename_i h3; rw [if_pos h3]; exact .inl ⟨rfl, (Option.some.inj h).symm⟩
                · rename_i h3; rw [if_neg h3]; exact lift h
              · rename_i h2; rw [if_neg h2]
                split at h
                · rename_i h4; rw [if_pos h4]
                  split at h
                  · rename_i h3; rw [if_pos h3]; exact .inl ⟨rfl, (Option.some.inj h).symm⟩
                  · rename_i h3; rw [if_neg h3]; exact lift h
                · rename_i h4; rw [if_neg h4]
                  split at h
                  · rename_i h5; rw [if_pos h5]; rw [← List.append_assoc] at h; exact lift h
                  · rename_i h5; rw [if_neg h5]; exact .inl ⟨rfl, (Option.some.inj h).symm⟩
end Go.Proofs.YtdoggcfdfkkedaaGreatDoor
namespace Go.Proofs.YtdoggcfdfkkedaaGreatDoor
set_option linter.unusedVariables false
def Solves (θ : Sub) (s : Binds) : Prop := ∀ v t, getB s v = some t → θ v = app θ t
def Nn (t : Trm) : Prop := ∀ c ∈ t, c.k = 1 → c.s.data.toList = []
def Tk (t : Trm) : Prop := Ms 1 t ∧ Nn t
structure Bok (s : Binds) : Prop where
  one : ∀ v t, getB s v = some t → Tk t
  rank : ∃ ρ : Int → Nat, ∀ v t, getB s v = some t → ∀ x ∈ vars t, ρ x < ρ v
def varT (v : Int) : Trm := [⟨1, v, ByteArray.empty⟩]
theorem Ms_var (v : Int) : Ms 1 (varT v) := by unfold varT; rw [show 1 = 0 + 1 by rfl, Ms_cons]; exact Ms_zero.2 (by rfl)
def solN (s : Binds) : Nat → Sub
  | 0 => varT
  | n + 1 => fun v => match getB s v with
    | none => varT v
    | some t => app (solN s n) t
theorem solN_good {s : Binds} (h : ∀ v t, getB s v = some t → Tk t) : ∀ n, Good (solN s n)
  | 0 => Ms_var
  | n + 1 => fun v => by
    unfold solN
    cases hg : getB s v with
    | none => exact Ms_var v
    | some t => exact Ms_subst (solN_good h n) (h v t hg).1
theorem exists_sol {s : Binds} (h : Bok s) : ∃ θ, Good θ ∧ Solves θ s := by
  obtain ⟨ρ, hr⟩ := h.rank
  have st : ∀ k n m, ∀ v, ρ v < k → ρ v < n → ρ v < m → solN s n v = solN s m v := by
    intro k
    induction k with
    | zero => intro n m v h; omega
    | succ k ih =>
      intro n m v hk hn hm
      obtain ⟨n, rfl⟩ : ∃ n', n = n' + 1 := ⟨n - 1, by omega⟩
      obtain ⟨m, rfl⟩ : ∃ m', m = m' + 1 := ⟨m - 1, by omega⟩
      unfold solN
      cases hg : getB s v with
      | none => rfl
      | some t =>
        refine app_congr (fun x hx => ?_)
        have := hr v t hg x hx
        exact ih n m x (by omega) (by omega) (by omega)
  refine ⟨fun v => solN s (ρ v + 1) v, fun v => solN_good h.one _ v, fun v t hg => ?_⟩
  have e : solN s (ρ v + 1) v = app (solN s (ρ v)) t := by
    show (match getB s v with | none => varT v | some t => app (solN s (ρ v)) t) = _
    rw [hg]
  refine e.trans (app_congr (fun x hx => ?_))
  have := hr v t hg x hx
  exact st (ρ x + 1) _ _ x (by omega) (by omega) (by omega)
theorem Ms_head {c : Cell} {r : Trm} (h : Ms 1 (c :: r)) (hc : c.k = 1) : r = [] := by
  rw [show 1 = 0 + 1 by rfl, Ms_cons, ar_var hc] at h
  exact Ms_zero.1 h
theorem app_var {θ : Sub} {c : Cell} (hc : c.k = 1) : app θ [c] = θ c.n := by rw [app_cons, app_nil, List.append_nil]; unfold cs; rw [if_pos hc]
theorem walk_total {s : Binds} (h : Bok s) {t : Trm} (ht : Ms 1 t) : ∃ n x, walkB n s t = some x := by
  obtain ⟨ρ, hr⟩ := h.rank
  have : ∀ k (t : Trm), Ms 1 t → (∀ c r, t = c :: r → c.k = 1 → ρ c.n < k) → ∃ n x, walkB n s t = some x := by
    intro k
    induction k with
    | zero =>
      intro t ht hk
      match t, ht with
      | c :: r, ht =>
        have hc : ¬ c.k = 1 := fun hc => by have := hk c r rfl hc; omega
        exact ⟨1, c :: r, by unfold walkB; dsimp only; rw [if_neg hc]⟩
    | succ k ih =>
      intro t ht hk
      match t, ht with
      | c :: r, ht =>
        by_cases hc : c.k = 1
        · cases hg : getB s c.n with
          | none => exact ⟨1, c :: r, by unfold walkB; dsimp only; rw [if_pos hc, hg]⟩
          | some u =>
            have hu := h.one _ _ hg
            have hrk := hk c r rfl hc
            obtain ⟨n, x, hx⟩ := ih u hu.1 (fun c' r' e hc' => by
              subst e
              have := hr _ _ hg c'.n (by rw [vars_cons_var hc']; exact List.mem_cons_self)
              omega)
            exact ⟨n + 1, x, by unfold walkB; dsimp only; rw [if_pos hc, hg]; exact hx⟩
        · exact ⟨1, c :: r, by unfold walkB; dsimp only; rw [if_neg hc]⟩
  match t, ht with
  | c :: r, ht => exact this (ρ c.n + 1) _ ht (fun c' r' e _ => by injection e with e1 e2; subst e1; omega)
def VarsIn (s : Binds) (V : List Int) : Prop := ∀ v u, getB s v = some u → ∀ x ∈ vars u, x ∈ V
theorem walk_props {s : Binds} (h1 : ∀ v t, getB s v = some t → Tk t) : ∀ {n : Nat} {t x : Trm}, walkB n s t = some x → Tk t →
    Tk x ∧ (∀ θ, Solves θ s → app θ x = app θ t) ∧ (∀ c r, x = c :: r → c.k = 1 → getB s c.n = none) ∧ (∀ V, VarsIn s V → (∀ v ∈ vars t, v ∈ V) → ∀ v ∈ vars x, v ∈ V)
  | 0, t, x, h, _ => by simp [walkB] at h
  | n + 1, [], x, h, _ => by simp [walkB] at h
  | n + 1, c :: r, x, h, ht => by
    unfold walkB at h; dsimp only at h
    split at h
    · rename_i hc
      cases hg : getB s c.n with
      | none =>
        rw [hg] at h; obtain rfl := Option.some.inj h
        exact ⟨ht, fun _ _ => rfl, fun c' r' e _ => by injection e with e1 e2; subst e1; exact hg, fun V _ hv => hv⟩
      | some u =>
        rw [hg] at h
        obtain ⟨a, b, d, e⟩ := walk_props h1 h (h1 _ _ hg)
        refine ⟨a, fun θ hθ => ?_, d, fun V hV _ => e V hV (hV _ _ hg)⟩
        obtain rfl := Ms_head ht.1 hc
        rw [b θ hθ, app_var hc]
        exact (hθ _ _ hg).symm
    · rename_i hc
      obtain rfl := Option.some.inj h
      exact ⟨ht, fun _ _ => rfl, fun c' r' e hc' => by injection e with e1 e2; subst e1; exact absurd hc' hc, fun V _ hv => hv⟩
theorem Rch_ge {θ : Sub} {s : Binds} {t : Trm} {v : Int} (h : Rch s t v) (hθ : Solves θ s) : (θ v).length ≤ (app θ t).length := by
  induction h with
  | here h => exact app_ge h
  | on h hg _ ih =>
    have := app_ge (θ := θ) h
    rw [hθ _ _ hg] at this
    omega
theorem Rch_fun {s : Binds} {c : Cell} {r : Trm} {v : Int} (hc : c.k ≠ 1) (h : Rch s (c :: r) v) : Rch s r v := by
  cases h with
  | here h => exact .here (by rwa [vars_cons_fun hc] at h)
  | on h hg k => exact .on (by rwa [vars_cons_fun hc] at h) hg k
theorem Rch_no {θ : Sub} {s : Binds} {y : Cell} {ys : Trm} {v : Int} (h : Rch s (y :: ys) v) (hθ : Solves θ s) (ht : Ms 1 (y :: ys)) (hy : y.k = 1 → getB s y.n = none) (hv : y.k = 1 → y.n ≠ v) : θ v ≠ app θ (y :: ys) := by
  by_cases hc : y.k = 1
  · obtain rfl := Ms_head ht hc
    exfalso
    cases h with
    | here h => rw [vars_cons_var hc] at h; simp [vars] at h; exact hv hc h.symm
    | on h hg _ => rw [vars_cons_var hc] at h; simp [vars] at h; rw [h, hy hc] at hg; cases hg
  · have := Rch_ge (Rch_fun hc h) hθ
    intro e
    rw [e, app_cons] at this
    unfold cs at this
    rw [if_neg hc] at this
    simp at this
    omega
theorem getB_snoc {s : Binds} {v : Int} {t : Trm} (h : getB s v = none) (w : Int) : getB (s ++ [(v, t)]) w = if w = v then some t else getB s w := by
  unfold getB at *
  rw [List.find?_append]
  by_cases e : w = v
  · subst e
    rw [if_pos rfl]
    cases hf : s.find? (fun b => decide (b.1 = w)) with
    | none => simp
    | some b => rw [hf] at h; cases h
  · rw [if_neg e]
    cases hf : s.find? (fun b => decide (b.1 = w)) with
    | none => simp [Ne.symm e]
    | some b => simp
open Classical in
theorem bind_ok {s : Binds} (h : Bok s) {v : Int} {t : Trm} (hv : getB s v = none) (hr : ¬ Rch s t v) (ht : Tk t) : Bok (s ++ [(v, t)]) := by
  obtain ⟨ρ, hρ⟩ := h.rank
  refine ⟨fun w u hw => ?_, ?_⟩
  · rw [getB_snoc hv] at hw
    split at hw
    · obtain rfl := Option.some.inj hw; exact ht
    · exact h.one _ _ hw
  · obtain ⟨M, hM⟩ : ∃ M, ∀ x ∈ vars t, ρ x ≤ M := by
      have : ∀ l : List Int, ∃ M, ∀ x ∈ l, ρ x ≤ M := fun l => by
        induction l with
        | nil => exact ⟨0, fun x hx => by cases hx⟩
        | cons a l ih =>
          obtain ⟨M, hM⟩ := ih
          refine ⟨max M (ρ a), fun x hx => ?_⟩
          rcases List.mem_cons.1 hx with rfl | hx
          · omega
          · have := hM x hx; omega
      exact this _
    let R := fun y => y = v ∨ ∃ u, getB s y = some u ∧ Rch s u v
    have hR : ∀ y u x, getB s y = some u → x ∈ vars u → R x → R y := by
      rintro y u x hg hx (rfl | ⟨u', hg', hr'⟩)
      · exact .inr ⟨u, hg, .here hx⟩
      · exact .inr ⟨u, hg, .on hx hg' hr'⟩
    have hT : ∀ x ∈ vars t, ¬ R x := by
      rintro x hx (rfl | ⟨u', hg', hr'⟩)
      · exact hr (.here hx)
      · exact hr (.on hx hg' hr')
    refine ⟨fun y => if R y then ρ y + M + 1 else ρ y, fun w u hw x hx => ?_⟩
    rw [getB_snoc hv] at hw
    split at hw
    · rename_i e
      subst e
      obtain rfl := Option.some.inj hw
      show (if R x then ρ x + M + 1 else ρ x) < (if R w then ρ w + M + 1 else ρ w)
      rw [if_neg (hT x hx), if_pos (show R w from .inl rfl)]
      have := hM x hx; omega
    · have h1 := hρ _ _ hw x hx
      show (if R x then ρ x + M + 1 else ρ x) < (if R w then ρ w + M + 1 else ρ w)
      by_cases hx' : R x
      · rw [if_pos hx', if_pos (hR _ _ _ hw hx hx')]; omega
      · rw [if_neg hx']
        split <;> omega
def unb (s : Binds) (V : List Int) : Nat := (V.filter (fun x => (getB s x).isNone)).length
theorem filter_le {α : Type} {p q : α → Bool} (h : ∀ x, q x = true → p x = true) : ∀ V : List α, (V.filter q).length ≤ (V.filter p).length
  | [] => by simp
  | a :: V => by
    have ih := filter_le h V
    rw [List.filter_cons, List.filter_cons]
    cases hq : q a with
    | true => rw [if_pos rfl, if_pos (h a hq)]; simp only [List.length_cons]; omega
    | false =>
      rw [if_neg (by simp)]
      split
      · simp only [List.length_cons]; omega
      · exact ih
theorem filter_lt {α : Type} {p q : α → Bool} (h : ∀ x, q x = true → p x = true) {v : α} (hp : p v = true) (hq : q v = false) : ∀ {V : List α}, v ∈ V → (V.filter q).length < (V.filter p).length
  | a :: V, hv => by
    have ih := filter_le h V
    rw [List.filter_cons, List.filter_cons]
    rcases List.mem_cons.1 hv with rfl | hv
    · rw [hp, hq, if_pos rfl, if_neg (by simp)]; simp only [List.length_cons]; omega
    · have ih2 := filter_lt h hp hq hv
      cases hqa : q a with
      | true => rw [if_pos rfl, if_pos (h a hqa)]; simp only [List.length_cons]; omega
      | false =>
        rw [if_neg (by simp)]
        split
        · simp only [List.length_cons]; omega
        · exact ih2
theorem unb_lt {s : Binds} {v : Int} {t : Trm} {V : List Int} (h : getB s v = none) (hv : v ∈ V) : unb (s ++ [(v, t)]) V < unb s V := by
  refine filter_lt (fun x hx => ?_) (v := v) (by rw [h]; rfl) (by rw [getB_snoc h, if_pos rfl]; rfl) hv
  rw [getB_snoc h] at hx
  split at hx
  · cases hx
  · exact hx
def Same (θ : Sub) (ps : List (Trm × Trm)) : Prop := ∀ p ∈ ps, app θ p.1 = app θ p.2
theorem Same_cons {θ : Sub} {a b : Trm} {ps : List (Trm × Trm)} : Same θ ((a, b) :: ps) ↔ app θ a = app θ b ∧ Same θ ps := by
  unfold Same; rw [List.forall_mem_cons]
theorem Same_app {θ : Sub} {ps qs : List (Trm × Trm)} : Same θ (ps ++ qs) ↔ Same θ ps ∧ Same θ qs := by
  unfold Same; rw [List.forall_mem_append]
def sz (θ : Sub) (ps : List (Trm × Trm)) : Nat := (ps.map (fun p => (app θ p.1).length)).sum
theorem args_sz (θ : Sub) : ∀ {m : Nat} {xs ys : Trm}, Ms m xs → Ms m ys → sz θ ((argsOf m xs).zip (argsOf m ys)) = (app θ xs).length
  | 0, xs, ys, h, _ => by rw [Ms_zero] at h; subst h; rfl
  | m + 1, xs, ys, h, k => by
    rw [show m + 1 = 1 + m by omega] at h k
    obtain ⟨u, r, rfl, h1, h2⟩ := Ms_split h
    obtain ⟨u', r', rfl, k1, k2⟩ := Ms_split k
    rw [argsOf, argsOf, fst1_pre r h1, rst1_pre r h1, fst1_pre r' k1, rst1_pre r' k1, List.zip_cons_cons]
    have := args_sz θ h2 k2
    unfold sz at *
    rw [List.map_cons, List.sum_cons, this, app_append, List.length_append]
theorem args_same {θ : Sub} : ∀ {m : Nat} {xs ys : Trm}, Ms m xs → Ms m ys → Same θ ((argsOf m xs).zip (argsOf m ys)) → app θ xs = app θ ys
  | 0, xs, ys, h, k, _ => by rw [Ms_zero] at h k; subst h; subst k; rfl
  | m + 1, xs, ys, h, k, hs => by
    rw [show m + 1 = 1 + m by omega] at h k
    obtain ⟨u, r, rfl, h1, h2⟩ := Ms_split h
    obtain ⟨u', r', rfl, k1, k2⟩ := Ms_split k
    rw [argsOf, argsOf, fst1_pre r h1, rst1_pre r h1, fst1_pre r' k1, rst1_pre r' k1, List.zip_cons_cons, Same_cons] at hs
    rw [app_append, app_append, hs.1, args_same h2 k2 hs.2]
theorem args_same' {θ : Sub} (hg : Good θ) : ∀ {m : Nat} {xs ys : Trm}, Ms m xs → Ms m ys → app θ xs = app θ ys → Same θ ((argsOf m xs).zip (argsOf m ys))
  | 0, xs, ys, h, k, _ => by intro p hp; cases hp
  | m + 1, xs, ys, h, k, he => by
    rw [show m + 1 = 1 + m by omega] at h k
    obtain ⟨u, r, rfl, h1, h2⟩ := Ms_split h
    obtain ⟨u', r', rfl, k1, k2⟩ := Ms_split k
    rw [argsOf, argsOf, fst1_pre r h1, rst1_pre r h1, fst1_pre r' k1, rst1_pre r' k1, List.zip_cons_cons, Same_cons]
    rw [app_append, app_append] at he
    obtain ⟨e1, e2⟩ := Ms_uniq (Ms_subst hg h1) (Ms_subst hg k1) he
    exact ⟨e1, args_same' hg h2 k2 e2⟩
def Pin (V : List Int) (p : Trm × Trm) : Prop := Tk p.1 ∧ Tk p.2 ∧ (∀ v ∈ vars p.1, v ∈ V) ∧ ∀ v ∈ vars p.2, v ∈ V
theorem args_mem {m : Nat} {xs x : Trm} (h : Ms m xs) (hx : x ∈ argsOf m xs) : Ms 1 x ∧ ∀ c ∈ x, c ∈ xs := by
  obtain ⟨h1, h2⟩ := argsOf_ok h
  refine ⟨h2 x hx, fun c hc => ?_⟩
  rw [← h1]; exact List.mem_flatten.2 ⟨x, hx, hc⟩
theorem vars_sub {x t : Trm} (h : ∀ c ∈ x, c ∈ t) : ∀ v ∈ vars x, v ∈ vars t := fun v hv => by
  unfold vars at *
  simp only [List.mem_map, List.mem_filter] at *
  obtain ⟨c, ⟨h1, h2⟩, h3⟩ := hv
  exact ⟨c, ⟨h c h1, h2⟩, h3⟩
theorem args_pin {V : List Int} {m : Nat} {xs ys : Trm} (hx : Ms m xs) (hy : Ms m ys) (nx : Nn xs) (ny : Nn ys) (vx : ∀ v ∈ vars xs, v ∈ V) (vy : ∀ v ∈ vars ys, v ∈ V) : ∀ p ∈ (argsOf m xs).zip (argsOf m ys), Pin V p := fun p hp => by
  obtain ⟨h1, h2⟩ := List.of_mem_zip (a := p.1) (b := p.2) hp
  obtain ⟨a1, a2⟩ := args_mem hx h1
  obtain ⟨b1, b2⟩ := args_mem hy h2
  exact ⟨⟨a1, fun c hc => nx c (a2 c hc)⟩, ⟨b1, fun c hc => ny c (b2 c hc)⟩, fun v hv => vx v (vars_sub a2 v hv), fun v hv => vy v (vars_sub b2 v hv)⟩
def Post (s : Binds) (ps : List (Trm × Trm)) : Option Binds → Prop
  | none => ∀ θ, Good θ → Solves θ s → ¬ Same θ ps
  | some s' => Bok s' ∧ ∀ θ, Solves θ s' → Solves θ s ∧ Same θ ps
theorem Solves_snoc {θ : Sub} {s : Binds} {v : Int} {t : Trm} (h : getB s v = none) : Solves θ (s ++ [(v, t)]) ↔ Solves θ s ∧ θ v = app θ t := by
  constructor
  · intro hs
    refine ⟨fun w u hw => hs w u ?_, hs v t (by rw [getB_snoc h, if_pos rfl])⟩
    rw [getB_snoc h, if_neg (by rintro rfl; rw [h] at hw; cases hw)]; exact hw
  · rintro ⟨h1, h2⟩ w u hw
    rw [getB_snoc h] at hw
    split at hw
    · rename_i e; subst e; obtain rfl := Option.some.inj hw; exact h2
    · exact h1 _ _ hw
theorem VarsIn_snoc {s : Binds} {v : Int} {t : Trm} {V : List Int} (h : getB s v = none) (hV : VarsIn s V) (ht : ∀ x ∈ vars t, x ∈ V) : VarsIn (s ++ [(v, t)]) V := fun w u hw => by
  rw [getB_snoc h] at hw
  split at hw
  · obtain rfl := Option.some.inj hw; exact ht
  · exact hV _ _ hw
theorem cell_var_eq {x y : Cell} (hx : x.k = 1) (hy : y.k = 1) (nx : x.s.data.toList = []) (ny : y.s.data.toList = []) (h : x.n = y.n) : x = y := by
  obtain ⟨a, b, c⟩ := x; obtain ⟨d, e, f⟩ := y
  obtain rfl : a = d := hx.trans hy.symm
  obtain rfl : b = e := h
  obtain rfl : c = f := ByteArray.ext (Array.toList_inj.1 (nx.trans ny.symm))
  rfl
theorem U_total (N M : Nat) (s : Binds) (ps : List (Trm × Trm)) (V : List Int) (θ : Sub) (hs : Bok s) (hV : VarsIn s V) (hg : Good θ) (hθ : Solves θ s) (hps : ∀ p ∈ ps, Pin V p) (hN : unb s V ≤ N) (hM : sz θ ps ≤ M) :
    ∃ n r, U n s ps = some r ∧ Post s ps r := by
  match ps with
  | [] => exact ⟨1, some s, by simp [U], hs, fun θ h => ⟨h, fun p hp => by cases hp⟩⟩
  | (a, b) :: ps =>
    obtain ⟨pa, pb, va, vb⟩ : Tk a ∧ Tk b ∧ (∀ v ∈ vars a, v ∈ V) ∧ ∀ v ∈ vars b, v ∈ V := hps (a, b) List.mem_cons_self
    have hps' : ∀ p ∈ ps, Pin V p := fun p hp => hps p (List.mem_cons_of_mem _ hp)
    obtain ⟨n1, X, hX⟩ := walk_total hs pa.1
    obtain ⟨n2, Y, hY⟩ := walk_total hs pb.1
    obtain ⟨tx, ex, gx, wx⟩ := walk_props hs.one hX pa
    obtain ⟨ty, ey, gy, wy⟩ := walk_props hs.one hY pb
    have wx := wx V hV va
    have wy := wy V hV vb
    have hszc : sz θ ((a, b) :: ps) = (app θ X).length + sz θ ps := by unfold sz; rw [List.map_cons, List.sum_cons, ex θ hθ]
    have hsame : ∀ θ', Solves θ' s → (Same θ' ((a, b) :: ps) ↔ app θ' X = app θ' Y ∧ Same θ' ps) := fun θ' h => by rw [Same_cons, ex θ' h, ey θ' h]
    have fin : ∀ (n : Nat) (r : Option Binds), (∀ m, n ≤ m → walkB m s a = some X → walkB m s b = some Y → U (m + 1) s ((a, b) :: ps) = some r) → Post s ((a, b) :: ps) r → ∃ n r, U n s ((a, b) :: ps) = some r ∧ Post s ((a, b) :: ps) r := fun n r h k =>
      ⟨max n (max n1 n2) + 1, r, h _ (by omega) (walkB_mono hX (by omega)) (walkB_mono hY (by omega)), k⟩
    have bindStep : ∀ (v : Int) (t : Trm), getB s v = none → ¬ Rch s t v → Tk t → v ∈ V → (∀ x ∈ vars t, x ∈ V) → ∃ n r, U n (s ++ [(v, t)]) ps = some r ∧ Post (s ++ [(v, t)]) ps r := fun v t h1 h2 h3 h4 h5 => by
      have hb := bind_ok hs h1 h2 h3
      obtain ⟨θ', g', s'⟩ := exists_sol hb
      have hlt := unb_lt (t := t) h1 h4
      exact U_total (N - 1) (sz θ' ps) _ ps V θ' hb (VarsIn_snoc h1 hV h5) g' s' hps' (by omega) (Nat.le_refl _)
    match X, Y, tx, ty with
    | x :: xs, y :: ys, tx, ty =>
      have szx := app_len_pos hg tx.1
      by_cases h1 : x.k = 1 ∧ x = y
      · obtain ⟨n, r, hU, hP⟩ := U_total N (sz θ ps) s ps V θ hs hV hg hθ hps' hN (Nat.le_refl _)
        refine fin n r (fun m hm ha hb => by rw [U, ha, hb]; dsimp only; rw [if_pos h1]; exact U_mono hU hm) ?_
        obtain ⟨hx, rfl⟩ := h1
        obtain rfl := Ms_head tx.1 hx
        obtain rfl := Ms_head ty.1 hx
        cases r with
        | none => exact fun θ' g' s' h => hP θ' g' s' ((hsame θ' s').1 h).2
        | some s1 => exact ⟨hP.1, fun θ' h => by obtain ⟨h3, h4⟩ := hP.2 θ' h; exact ⟨h3, (hsame θ' h3).2 ⟨rfl, h4⟩⟩⟩
      · by_cases h2 : x.k = 1
        · obtain rfl := Ms_head tx.1 h2
          have hb := gx x [] rfl h2
          by_cases h3 : Rch s (y :: ys) x.n
          · refine fin 0 none (fun m _ ha hb => by rw [U, ha, hb]; dsimp only; rw [if_neg h1, if_pos h2, if_pos h3]) ?_
            intro θ' g' s' h
            have h := ((hsame θ' s').1 h).1
            rw [app_var h2] at h
            exact Rch_no h3 s' ty.1 (fun hy => gy y ys rfl hy) (fun hy e => h1 ⟨h2, cell_var_eq h2 hy (tx.2 x List.mem_cons_self h2) (ty.2 y List.mem_cons_self hy) e.symm⟩) h
          · obtain ⟨n, r, hU, hP⟩ := bindStep x.n (y :: ys) hb h3 ty (wx _ (by rw [vars_cons_var h2]; exact List.mem_cons_self)) wy
            refine fin n r (fun m hm ha hb => by rw [U, ha, hb]; dsimp only; rw [if_neg h1, if_pos h2, if_neg h3]; exact U_mono hU hm) ?_
            cases r with
            | none =>
              exact fun θ' g' s' h => by
                obtain ⟨h4, h5⟩ := (hsame θ' s').1 h
                rw [app_var h2] at h4
                exact hP θ' g' ((Solves_snoc hb).2 ⟨s', h4⟩) h5
            | some s1 =>
              exact ⟨hP.1, fun θ' h => by
                obtain ⟨h3, h4⟩ := hP.2 θ' h
                obtain ⟨h5, h6⟩ := (Solves_snoc hb).1 h3
                exact ⟨h5, (hsame θ' h5).2 ⟨by rw [app_var h2]; exact h6, h4⟩⟩⟩
        · by_cases h4 : y.k = 1
          · obtain rfl := Ms_head ty.1 h4
            have hb := gy y [] rfl h4
            by_cases h3 : Rch s (x :: xs) y.n
            · refine fin 0 none (fun m _ ha hb => by rw [U, ha, hb]; dsimp only; rw [if_neg h1, if_neg h2, if_pos h4, if_pos h3]) ?_
              intro θ' g' s' h
              have h := ((hsame θ' s').1 h).1
              rw [app_var h4] at h
              exact Rch_no h3 s' tx.1 (fun hx => absurd hx h2) (fun hx => absurd hx h2) h.symm
            · obtain ⟨n, r, hU, hP⟩ := bindStep y.n (x :: xs) hb h3 tx (wy _ (by rw [vars_cons_var h4]; exact List.mem_cons_self)) wx
              refine fin n r (fun m hm ha hb => by rw [U, ha, hb]; dsimp only; rw [if_neg h1, if_neg h2, if_pos h4, if_neg h3]; exact U_mono hU hm) ?_
              cases r with
              | none =>
                exact fun θ' g' s' h => by
                  obtain ⟨h4', h5⟩ := (hsame θ' s').1 h
                  rw [app_var h4] at h4'
                  exact hP θ' g' ((Solves_snoc hb).2 ⟨s', h4'.symm⟩) h5
              | some s1 =>
                exact ⟨hP.1, fun θ' h => by
                  obtain ⟨h3, h4'⟩ := hP.2 θ' h
                  obtain ⟨h5, h6⟩ := (Solves_snoc hb).1 h3
                  exact ⟨h5, (hsame θ' h5).2 ⟨by rw [app_var h4]; exact h6.symm, h4'⟩⟩⟩
          · have axs : ∀ θ', app θ' (x :: xs) = x :: app θ' xs := fun θ' => by rw [app_cons]; unfold cs; rw [if_neg h2]; rfl
            have ays : ∀ θ', app θ' (y :: ys) = y :: app θ' ys := fun θ' => by rw [app_cons]; unfold cs; rw [if_neg h4]; rfl
            by_cases h5 : x = y
            · subst h5
              have mx : Ms (ar x).toNat xs := by have := tx.1; rw [show 1 = 0 + 1 by rfl, Ms_cons, Nat.zero_add] at this; exact this
              have my : Ms (ar x).toNat ys := by have := ty.1; rw [show 1 = 0 + 1 by rfl, Ms_cons, Nat.zero_add] at this; exact this
              rw [vars_cons_fun h2] at wx wy
              have pin := args_pin mx my (fun c hc => tx.2 c (List.mem_cons_of_mem _ hc)) (fun c hc => ty.2 c (List.mem_cons_of_mem _ hc)) wx wy
              have hsz : sz θ ((argsOf (ar x).toNat xs).zip (argsOf (ar x).toNat ys) ++ ps) < sz θ ((a, b) :: ps) := by
                rw [hszc, axs, List.length_cons]
                have := args_sz θ mx my
                unfold sz at *
                rw [List.map_append, List.sum_append, this]; omega
              obtain ⟨n, r, hU, hP⟩ := U_total N (sz θ ((argsOf (ar x).toNat xs).zip (argsOf (ar x).toNat ys) ++ ps)) s _ V θ hs hV hg hθ (fun p hp => (List.mem_append.1 hp).elim (pin p) (hps' p)) hN (Nat.le_refl _)
              refine fin n r (fun m hm ha hb => by rw [U, ha, hb]; dsimp only; rw [if_neg h1, if_neg h2, if_neg h4, if_pos rfl]; exact U_mono hU hm) ?_
              cases r with
              | none =>
                exact fun θ' g' s' h => hP θ' g' s' (by
                  obtain ⟨h4, h5⟩ := (hsame θ' s').1 h
                  rw [axs, ays] at h4
                  injection h4 with _ h4
                  exact Same_app.2 ⟨args_same' g' mx my h4, h5⟩)
              | some s1 =>
                exact ⟨hP.1, fun θ' h => by
                  obtain ⟨h3, h4⟩ := hP.2 θ' h
                  obtain ⟨h5, h6⟩ := Same_app.1 h4
                  exact ⟨h3, (hsame θ' h3).2 ⟨by rw [axs, ays, args_same mx my h5], h6⟩⟩⟩
            · refine fin 0 none (fun m _ ha hb => by rw [U, ha, hb]; dsimp only; rw [if_neg h1, if_neg h2, if_neg h4, if_neg h5]) ?_
              intro θ' g' s' h
              have h := ((hsame θ' s').1 h).1
              rw [axs, ays] at h
              injection h with h _
              exact h5 h
termination_by (N, M)
decreasing_by
  all_goals simp_wf
  all_goals first
    | (rw [Prod.lex_def]; omega)
    | omega
theorem U_none {n : Nat} {s : Binds} {ps : List (Trm × Trm)} {V : List Int} (hs : Bok s) (hV : VarsIn s V) (hps : ∀ p ∈ ps, Pin V p) : ∃ n r, U n s ps = some r ∧ Post s ps r := by
  obtain ⟨θ, hg, hθ⟩ := exists_sol hs
  exact U_total _ _ s ps V θ hs hV hg hθ hps (Nat.le_refl _) (Nat.le_refl _)
end Go.Proofs.YtdoggcfdfkkedaaGreatDoor
