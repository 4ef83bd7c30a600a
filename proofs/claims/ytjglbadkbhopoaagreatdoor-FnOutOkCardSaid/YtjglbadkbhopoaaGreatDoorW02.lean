/- Lemmas and contracts for FnOutOk, part 2. -/
import Derived.Test.YtjglbadkbhopoaaGreatDoorW01
import Derived.Deep.LoopGhost
namespace Go.Proofs.YtjglbadkbhopoaaGreatDoor
set_option linter.unusedVariables false
def Solves (θ : Sub) (s : Binds) : Prop := ∀ v t, getB s v = some t → θ v = app θ t
def Nn (t : Trm) : Prop := ∀ c ∈ t, c.k = 1 → c.s.data.toList = []
def Tk (t : Trm) : Prop := Ms 1 t ∧ Nn t
structure Bok (s : Binds) : Prop where
  one : ∀ v t, getB s v = some t → Tk t
  rank : ∃ ρ : Int → Nat, ∀ v t, getB s v = some t → ∀ x ∈ vars t, ρ x < ρ v
def varT (v : Int) : Trm := [⟨1, v, ByteArray.empty⟩]
theorem Ms_var (v : Int) : Ms 1 (varT v) := by unfold varT; rw [show 1 = 0 + 1 by rfl, Ms_cons]; exact Ms_zero.2 (by rfl)
def solN (s : Binds) : Nat → Sub
  | 0 => varT
  | n + 1 => fun v => match getB s v with
    | none => varT v
    | some t => app (solN s n) t
theorem solN_good {s : Binds} (h : ∀ v t, getB s v = some t → Tk t) : ∀ n, Good (solN s n)
  | 0 => Ms_var
  | n + 1 => fun v => by
    unfold solN
    cases hg : getB s v with
    | none => exact Ms_var v
    | some t => exact Ms_subst (solN_good h n) (h v t hg).1
theorem exists_sol {s : Binds} (h : Bok s) : ∃ θ, Good θ ∧ Solves θ s := by
  obtain ⟨ρ, hr⟩ := h.rank
  have st : ∀ k n m, ∀ v, ρ v < k → ρ v < n → ρ v < m → solN s n v = solN s m v := by
    intro k
    induction k with
    | zero => intro n m v h; omega
    | succ k ih =>
      intro n m v hk hn hm
      obtain ⟨n, rfl⟩ : ∃ n', n = n' + 1 := ⟨n - 1, by omega⟩
      obtain ⟨m, rfl⟩ : ∃ m', m = m' + 1 := ⟨m - 1, by omega⟩
      unfold solN
      cases hg : getB s v with
      | none => rfl
      | some t =>
        refine app_congr (fun x hx => ?_)
        have := hr v t hg x hx
        exact ih n m x (by omega) (by omega) (by omega)
  refine ⟨fun v => solN s (ρ v + 1) v, fun v => solN_good h.one _ v, fun v t hg => ?_⟩
  have e : solN s (ρ v + 1) v = app (solN s (ρ v)) t := by
    show (match getB s v with | none => varT v | some t => app (solN s (ρ v)) t) = _
    rw [hg]
  refine e.trans (app_congr (fun x hx => ?_))
  have := hr v t hg x hx
  exact st (ρ x + 1) _ _ x (by omega) (by omega) (by omega)
theorem Ms_head {c : Cell} {r : Trm} (h : Ms 1 (c :: r)) (hc : c.k = 1) : r = [] := by
  rw [show 1 = 0 + 1 by rfl, Ms_cons, ar_var hc] at h
  exact Ms_zero.1 h
theorem app_var {θ : Sub} {c : Cell} (hc : c.k = 1) : app θ [c] = θ c.n := by rw [app_cons, app_nil, List.append_nil]; unfold cs; rw [if_pos hc]
theorem walk_total {s : Binds} (h : Bok s) {t : Trm} (ht : Ms 1 t) : ∃ n x, walkB n s t = some x := by
  obtain ⟨ρ, hr⟩ := h.rank
  have : ∀ k (t : Trm), Ms 1 t → (∀ c r, t = c :: r → c.k = 1 → ρ c.n < k) → ∃ n x, walkB n s t = some x := by
    intro k
    induction k with
    | zero =>
      intro t ht hk
      match t, ht with
      | c :: r, ht =>
        have hc : ¬ c.k = 1 := fun hc => by have := hk c r rfl hc; omega
        exact ⟨1, c :: r, by unfold walkB; dsimp only; rw [if_neg hc]⟩
    | succ k ih =>
      intro t ht hk
      match t, ht with
      | c :: r, ht =>
        by_cases hc : c.k = 1
        · cases hg : getB s c.n with
          | none => exact ⟨1, c :: r, by unfold walkB; dsimp only; rw [if_pos hc, hg]⟩
          | some u =>
            have hu := h.one _ _ hg
            have hrk := hk c r rfl hc
            obtain ⟨n, x, hx⟩ := ih u hu.1 (fun c' r' e hc' => by
              subst e
              have := hr _ _ hg c'.n (by rw [vars_cons_var hc']; exact List.mem_cons_self)
              omega)
            exact ⟨n + 1, x, by unfold walkB; dsimp only; rw [if_pos hc, hg]; exact hx⟩
        · exact ⟨1, c :: r, by unfold walkB; dsimp only; rw [if_neg hc]⟩
  match t, ht with
  | c :: r, ht => exact this (ρ c.n + 1) _ ht (fun c' r' e _ => by injection e with e1 e2; subst e1; omega)
def VarsIn (s : Binds) (V : List Int) : Prop := ∀ v u, getB s v = some u → ∀ x ∈ vars u, x ∈ V
theorem walk_props {s : Binds} (h1 : ∀ v t, getB s v = some t → Tk t) : ∀ {n : Nat} {t x : Trm}, walkB n s t = some x → Tk t →
    Tk x ∧ (∀ θ, Solves θ s → app θ x = app θ t) ∧ (∀ c r, x = c :: r → c.k = 1 → getB s c.n = none) ∧ (∀ V, VarsIn s V → (∀ v ∈ vars t, v ∈ V) → ∀ v ∈ vars x, v ∈ V)
  | 0, t, x, h, _ => by simp [walkB] at h
  | n + 1, [], x, h, _ => by simp [walkB] at h
  | n + 1, c :: r, x, h, ht => by
    unfold walkB at h; dsimp only at h
    split at h
    · rename_i hc
      cases hg : getB s c.n with
      | none =>
        rw [hg] at h; obtain rfl := Option.some.inj h
        exact ⟨ht, fun _ _ => rfl, fun c' r' e _ => by injection e with e1 e2; subst e1; exact hg, fun V _ hv => hv⟩
      | some u =>
        rw [hg] at h
        obtain ⟨a, b, d, e⟩ := walk_props h1 h (h1 _ _ hg)
        refine ⟨a, fun θ hθ => ?_, d, fun V hV _ => e V hV (hV _ _ hg)⟩
        obtain rfl := Ms_head ht.1 hc
        rw [b θ hθ, app_var hc]
        exact (hθ _ _ hg).symm
    · rename_i hc
      obtain rfl := Option.some.inj h
      exact ⟨ht, fun _ _ => rfl, fun c' r' e hc' => by injection e with e1 e2; subst e1; exact absurd hc' hc, fun V _ hv => hv⟩
theorem Rch_ge {θ : Sub} {s : Binds} {t : Trm} {v : Int} (h : Rch s t v) (hθ : Solves θ s) : (θ v).length ≤ (app θ t).length := by
  induction h with
  | here h => exact app_ge h
  | on h hg _ ih =>
    have := app_ge (θ := θ) h
    rw [hθ _ _ hg] at this
    omega
theorem Rch_fun {s : Binds} {c : Cell} {r : Trm} {v : Int} (hc : c.k ≠ 1) (h : Rch s (c :: r) v) : Rch s r v := by
  cases h with
  | here h => exact .here (by rwa [vars_cons_fun hc] at h)
  | on h hg k => exact .on (by rwa [vars_cons_fun hc] at h) hg k
theorem Rch_no {θ : Sub} {s : Binds} {y : Cell} {ys : Trm} {v : Int} (h : Rch s (y :: ys) v) (hθ : Solves θ s) (ht : Ms 1 (y :: ys)) (hy : y.k = 1 → getB s y.n = none) (hv : y.k = 1 → y.n ≠ v) : θ v ≠ app θ (y :: ys) := by
  by_cases hc : y.k = 1
  · obtain rfl := Ms_head ht hc
    exfalso
    cases h with
    | here h => rw [vars_cons_var hc] at h; simp [vars] at h; exact hv hc h.symm
    | on h hg _ => rw [vars_cons_var hc] at h; simp [vars] at h; rw [h, hy hc] at hg; cases hg
  · have := Rch_ge (Rch_fun hc h) hθ
    intro e
    rw [e, app_cons] at this
    unfold cs at this
    rw [if_neg hc] at this
    simp at this
    omega
theorem getB_snoc {s : Binds} {v : Int} {t : Trm} (h : getB s v = none) (w : Int) : getB (s ++ [(v, t)]) w = if w = v then some t else getB s w := by
  unfold getB at *
  rw [List.find?_append]
  by_cases e : w = v
  · subst e
    rw [if_pos rfl]
    cases hf : s.find? (fun b => decide (b.1 = w)) with
    | none => simp
    | some b => rw [hf] at h; cases h
  · rw [if_neg e]
    cases hf : s.find? (fun b => decide (b.1 = w)) with
    | none => simp [Ne.symm e]
    | some b => simp
open Classical in
theorem bind_ok {s : Binds} (h : Bok s) {v : Int} {t : Trm} (hv : getB s v = none) (hr : ¬ Rch s t v) (ht : Tk t) : Bok (s ++ [(v, t)]) := by
  obtain ⟨ρ, hρ⟩ := h.rank
  refine ⟨fun w u hw => ?_, ?_⟩
  · rw [getB_snoc hv] at hw
    split at hw
    · obtain rfl := Option.some.inj hw; exact ht
    · exact h.one _ _ hw
  · obtain ⟨M, hM⟩ : ∃ M, ∀ x ∈ vars t, ρ x ≤ M := by
      have : ∀ l : List Int, ∃ M, ∀ x ∈ l, ρ x ≤ M := fun l => by
        induction l with
        | nil => exact ⟨0, fun x hx => by cases hx⟩
        | cons a l ih =>
          obtain ⟨M, hM⟩ := ih
          refine ⟨max M (ρ a), fun x hx => ?_⟩
          rcases List.mem_cons.1 hx with rfl | hx
          · omega
          · have := hM x hx; omega
      exact this _
    let R := fun y => y = v ∨ ∃ u, getB s y = some u ∧ Rch s u v
    have hR : ∀ y u x, getB s y = some u → x ∈ vars u → R x → R y := by
      rintro y u x hg hx (rfl | ⟨u', hg', hr'⟩)
      · exact .inr ⟨u, hg, .here hx⟩
      · exact .inr ⟨u, hg, .on hx hg' hr'⟩
    have hT : ∀ x ∈ vars t, ¬ R x := by
      rintro x hx (rfl | ⟨u', hg', hr'⟩)
      · exact hr (.here hx)
      · exact hr (.on hx hg' hr')
    refine ⟨fun y => if R y then ρ y + M + 1 else ρ y, fun w u hw x hx => ?_⟩
    rw [getB_snoc hv] at hw
    split at hw
    · rename_i e
      subst e
      obtain rfl := Option.some.inj hw
      show (if R x then ρ x + M + 1 else ρ x) < (if R w then ρ w + M + 1 else ρ w)
      rw [if_neg (hT x hx), if_pos (show R w from .inl rfl)]
      have := hM x hx; omega
    · have h1 := hρ _ _ hw x hx
      show (if R x then ρ x + M + 1 else ρ x) < (if R w then ρ w + M + 1 else ρ w)
      by_cases hx' : R x
      · rw [if_pos hx', if_pos (hR _ _ _ hw hx hx')]; omega
      · rw [if_neg hx']
        split <;> omega
def unb (s : Binds) (V : List Int) : Nat := (V.filter (fun x => (getB s x).isNone)).length
theorem filter_le {α : Type} {p q : α → Bool} (h : ∀ x, q x = true → p x = true) : ∀ V : List α, (V.filter q).length ≤ (V.filter p).length
  | [] => by simp
  | a :: V => by
    have ih := filter_le h V
    rw [List.filter_cons, List.filter_cons]
    cases hq : q a with
    | true => rw [if_pos rfl, if_pos (h a hq)]; simp only [List.length_cons]; omega
    | false =>
      rw [if_neg (by simp)]
      split
      · simp only [List.length_cons]; omega
      · exact ih
theorem filter_lt {α : Type} {p q : α → Bool} (h : ∀ x, q x = true → p x = true) {v : α} (hp : p v = true) (hq : q v = false) : ∀ {V : List α}, v ∈ V → (V.filter q).length < (V.filter p).length
  | a :: V, hv => by
    have ih := filter_le h V
    rw [List.filter_cons, List.filter_cons]
    rcases List.mem_cons.1 hv with rfl | hv
    · rw [hp, hq, if_pos rfl, if_neg (by simp)]; simp only [List.length_cons]; omega
    · have ih2 := filter_lt h hp hq hv
      cases hqa : q a with
      | true => rw [if_pos rfl, if_pos (h a hqa)]; simp only [List.length_cons]; omega
      | false =>
        rw [if_neg (by simp)]
        split
        · simp only [List.length_cons]; omega
        · exact ih2
theorem unb_lt {s : Binds} {v : Int} {t : Trm} {V : List Int} (h : getB s v = none) (hv : v ∈ V) : unb (s ++ [(v, t)]) V < unb s V := by
  refine filter_lt (fun x hx => ?_) (v := v) (by rw [h]; rfl) (by rw [getB_snoc h, if_pos rfl]; rfl) hv
  rw [getB_snoc h] at hx
  split at hx
  · cases hx
  · exact hx
def Same (θ : Sub) (ps : List (Trm × Trm)) : Prop := ∀ p ∈ ps, app θ p.1 = app θ p.2
theorem Same_cons {θ : Sub} {a b : Trm} {ps : List (Trm × Trm)} : Same θ ((a, b) :: ps) ↔ app θ a = app θ b ∧ Same θ ps := by
  unfold Same; rw [List.forall_mem_cons]
theorem Same_app {θ : Sub} {ps qs : List (Trm × Trm)} : Same θ (ps ++ qs) ↔ Same θ ps ∧ Same θ qs := by
  unfold Same; rw [List.forall_mem_append]
def sz (θ : Sub) (ps : List (Trm × Trm)) : Nat := (ps.map (fun p => (app θ p.1).length)).sum
theorem args_sz (θ : Sub) : ∀ {m : Nat} {xs ys : Trm}, Ms m xs → Ms m ys → sz θ ((argsOf m xs).zip (argsOf m ys)) = (app θ xs).length
  | 0, xs, ys, h, _ => by rw [Ms_zero] at h; subst h; rfl
  | m + 1, xs, ys, h, k => by
    rw [show m + 1 = 1 + m by omega] at h k
    obtain ⟨u, r, rfl, h1, h2⟩ := Ms_split h
    obtain ⟨u', r', rfl, k1, k2⟩ := Ms_split k
    rw [argsOf, argsOf, fst1_pre r h1, rst1_pre r h1, fst1_pre r' k1, rst1_pre r' k1, List.zip_cons_cons]
    have := args_sz θ h2 k2
    unfold sz at *
    rw [List.map_cons, List.sum_cons, this, app_append, List.length_append]
theorem args_same {θ : Sub} : ∀ {m : Nat} {xs ys : Trm}, Ms m xs → Ms m ys → Same θ ((argsOf m xs).zip (argsOf m ys)) → app θ xs = app θ ys
  | 0, xs, ys, h, k, _ => by rw [Ms_zero] at h k; subst h; subst k; rfl
  | m + 1, xs, ys, h, k, hs => by
    rw [show m + 1 = 1 + m by omega] at h k
    obtain ⟨u, r, rfl, h1, h2⟩ := Ms_split h
    obtain ⟨u', r', rfl, k1, k2⟩ := Ms_split k
    rw [argsOf, argsOf, fst1_pre r h1, rst1_pre r h1, fst1_pre r' k1, rst1_pre r' k1, List.zip_cons_cons, Same_cons] at hs
    rw [app_append, app_append, hs.1, args_same h2 k2 hs.2]
theorem args_same' {θ : Sub} (hg : Good θ) : ∀ {m : Nat} {xs ys : Trm}, Ms m xs → Ms m ys → app θ xs = app θ ys → Same θ ((argsOf m xs).zip (argsOf m ys))
  | 0, xs, ys, h, k, _ => by intro p hp; cases hp
  | m + 1, xs, ys, h, k, he => by
    rw [show m + 1 = 1 + m by omega] at h k
    obtain ⟨u, r, rfl, h1, h2⟩ := Ms_split h
    obtain ⟨u', r', rfl, k1, k2⟩ := Ms_split k
    rw [argsOf, argsOf, fst1_pre r h1, rst1_pre r h1, fst1_pre r' k1, rst1_pre r' k1, List.zip_cons_cons, Same_cons]
    rw [app_append, app_append] at he
    obtain ⟨e1, e2⟩ := Ms_uniq (Ms_subst hg h1) (Ms_subst hg k1) he
    exact ⟨e1, args_same' hg h2 k2 e2⟩
def Pin (V : List Int) (p : Trm × Trm) : Prop := Tk p.1 ∧ Tk p.2 ∧ (∀ v ∈ vars p.1, v ∈ V) ∧ ∀ v ∈ vars p.2, v ∈ V
theorem args_mem {m : Nat} {xs x : Trm} (h : Ms m xs) (hx : x ∈ argsOf m xs) : Ms 1 x ∧ ∀ c ∈ x, c ∈ xs := by
  obtain ⟨h1, h2⟩ := argsOf_ok h
  refine ⟨h2 x hx, fun c hc => ?_⟩
  rw [← h1]; exact List.mem_flatten.2 ⟨x, hx, hc⟩
theorem vars_sub {x t : Trm} (h : ∀ c ∈ x, c ∈ t) : ∀ v ∈ vars x, v ∈ vars t := fun v hv => by
  unfold vars at *
  simp only [List.mem_map, List.mem_filter] at *
  obtain ⟨c, ⟨h1, h2⟩, h3⟩ := hv
  exact ⟨c, ⟨h c h1, h2⟩, h3⟩
theorem args_pin {V : List Int} {m : Nat} {xs ys : Trm} (hx : Ms m xs) (hy : Ms m ys) (nx : Nn xs) (ny : Nn ys) (vx : ∀ v ∈ vars xs, v ∈ V) (vy : ∀ v ∈ vars ys, v ∈ V) : ∀ p ∈ (argsOf m xs).zip (argsOf m ys), Pin V p := fun p hp => by
  obtain ⟨h1, h2⟩ := List.of_mem_zip (a := p.1) (b := p.2) hp
  obtain ⟨a1, a2⟩ := args_mem hx h1
  obtain ⟨b1, b2⟩ := args_mem hy h2
  exact ⟨⟨a1, fun c hc => nx c (a2 c hc)⟩, ⟨b1, fun c hc => ny c (b2 c hc)⟩, fun v hv => vx v (vars_sub a2 v hv), fun v hv => vy v (vars_sub b2 v hv)⟩
def Post (s : Binds) (ps : List (Trm × Trm)) : Option Binds → Prop
  | none => ∀ θ, Good θ → Solves θ s → ¬ Same θ ps
  | some s' => Bok s' ∧ ∀ θ, Solves θ s' → Solves θ s ∧ Same θ ps
theorem Solves_snoc {θ : Sub} {s : Binds} {v : Int} {t : Trm} (h : getB s v = none) : Solves θ (s ++ [(v, t)]) ↔ Solves θ s ∧ θ v = app θ t := by
  constructor
  · intro hs
    refine ⟨fun w u hw => hs w u ?_, hs v t (by rw [getB_snoc h, if_pos rfl])⟩
    rw [getB_snoc h, if_neg (by rintro rfl; rw [h] at hw; cases hw)]; exact hw
  · rintro ⟨h1, h2⟩ w u hw
    rw [getB_snoc h] at hw
    split at hw
    · rename_i e; subst e; obtain rfl := Option.some.inj hw; exact h2
    · exact h1 _ _ hw
theorem VarsIn_snoc {s : Binds} {v : Int} {t : Trm} {V : List Int} (h : getB s v = none) (hV : VarsIn s V) (ht : ∀ x ∈ vars t, x ∈ V) : VarsIn (s ++ [(v, t)]) V := fun w u hw => by
  rw [getB_snoc h] at hw
  split at hw
  · obtain rfl := Option.some.inj hw; exact ht
  · exact hV _ _ hw
theorem cell_var_eq {x y : Cell} (hx : x.k = 1) (hy : y.k = 1) (nx : x.s.data.toList = []) (ny : y.s.data.toList = []) (h : x.n = y.n) : x = y := by
  obtain ⟨a, b, c⟩ := x; obtain ⟨d, e, f⟩ := y
  obtain rfl : a = d := hx.trans hy.symm
  obtain rfl : b = e := h
  obtain rfl : c = f := ByteArray.ext (Array.toList_inj.1 (nx.trans ny.symm))
  rfl
theorem U_total (N M : Nat) (s : Binds) (ps : List (Trm × Trm)) (V : List Int) (θ : Sub) (hs : Bok s) (hV : VarsIn s V) (hg : Good θ) (hθ : Solves θ s) (hps : ∀ p ∈ ps, Pin V p) (hN : unb s V ≤ N) (hM : sz θ ps ≤ M) :
    ∃ n r, U n s ps = some r ∧ Post s ps r := by
  match ps with
  | [] => exact ⟨1, some s, by simp [U], hs, fun θ h => ⟨h, fun p hp => by cases hp⟩⟩
  | (a, b) :: ps =>
    obtain ⟨pa, pb, va, vb⟩ : Tk a ∧ Tk b ∧ (∀ v ∈ vars a, v ∈ V) ∧ ∀ v ∈ vars b, v ∈ V := hps (a, b) List.mem_cons_self
    have hps' : ∀ p ∈ ps, Pin V p := fun p hp => hps p (List.mem_cons_of_mem _ hp)
    obtain ⟨n1, X, hX⟩ := walk_total hs pa.1
    obtain ⟨n2, Y, hY⟩ := walk_total hs pb.1
    obtain ⟨tx, ex, gx, wx⟩ := walk_props hs.one hX pa
    obtain ⟨ty, ey, gy, wy⟩ := walk_props hs.one hY pb
    have wx := wx V hV va
    have wy := wy V hV vb
    have hszc : sz θ ((a, b) :: ps) = (app θ X).length + sz θ ps := by unfold sz; rw [List.map_cons, List.sum_cons, ex θ hθ]
    have hsame : ∀ θ', Solves θ' s → (Same θ' ((a, b) :: ps) ↔ app θ' X = app θ' Y ∧ Same θ' ps) := fun θ' h => by rw [Same_cons, ex θ' h, ey θ' h]
    have fin : ∀ (n : Nat) (r : Option Binds), (∀ m, n ≤ m → walkB m s a = some X → walkB m s b = some Y → U (m + 1) s ((a, b) :: ps) = some r) → Post s ((a, b) :: ps) r → ∃ n r, U n s ((a, b) :: ps) = some r ∧ Post s ((a, b) :: ps) r := fun n r h k =>
      ⟨max n (max n1 n2) + 1, r, h _ (by omega) (walkB_mono hX (by omega)) (walkB_mono hY (by omega)), k⟩
    have bindStep : ∀ (v : Int) (t : Trm), getB s v = none → ¬ Rch s t v → Tk t → v ∈ V → (∀ x ∈ vars t, x ∈ V) → ∃ n r, U n (s ++ [(v, t)]) ps = some r ∧ Post (s ++ [(v, t)]) ps r := fun v t h1 h2 h3 h4 h5 => by
      have hb := bind_ok hs h1 h2 h3
      obtain ⟨θ', g', s'⟩ := exists_sol hb
      have hlt := unb_lt (t := t) h1 h4
      exact U_total (N - 1) (sz θ' ps) _ ps V θ' hb (VarsIn_snoc h1 hV h5) g' s' hps' (by omega) (Nat.le_refl _)
    match X, Y, tx, ty with
    | x :: xs, y :: ys, tx, ty =>
      have szx := app_len_pos hg tx.1
      by_cases h1 : x.k = 1 ∧ x = y
      · obtain ⟨n, r, hU, hP⟩ := U_total N (sz θ ps) s ps V θ hs hV hg hθ hps' hN (Nat.le_refl _)
        refine fin n r (fun m hm ha hb => by rw [U, ha, hb]; dsimp only; rw [if_pos h1]; exact U_mono hU hm) ?_
        obtain ⟨hx, rfl⟩ := h1
        obtain rfl := Ms_head tx.1 hx
        obtain rfl := Ms_head ty.1 hx
        cases r with
        | none => exact fun θ' g' s' h => hP θ' g' s' ((hsame θ' s').1 h).2
        | some s1 => exact ⟨hP.1, fun θ' h => by obtain ⟨h3, h4⟩ := hP.2 θ' h; exact ⟨h3, (hsame θ' h3).2 ⟨rfl, h4⟩⟩⟩
      · by_cases h2 : x.k = 1
        · obtain rfl := Ms_head tx.1 h2
          have hb := gx x [] rfl h2
          by_cases h3 : Rch s (y :: ys) x.n
          · refine fin 0 none (fun m _ ha hb => by rw [U, ha, hb]; dsimp only; rw [if_neg h1, if_pos h2, if_pos h3]) ?_
            intro θ' g' s' h
            have h := ((hsame θ' s').1 h).1
            rw [app_var h2] at h
            exact Rch_no h3 s' ty.1 (fun hy => gy y ys rfl hy) (fun hy e => h1 ⟨h2, cell_var_eq h2 hy (tx.2 x List.mem_cons_self h2) (ty.2 y List.mem_cons_self hy) e.symm⟩) h
          · obtain ⟨n, r, hU, hP⟩ := bindStep x.n (y :: ys) hb h3 ty (wx _ (by rw [vars_cons_var h2]; exact List.mem_cons_self)) wy
            refine fin n r (fun m hm ha hb => by rw [U, ha, hb]; dsimp only; rw [if_neg h1, if_pos h2, if_neg h3]; exact U_mono hU hm) ?_
            cases r with
            | none =>
              exact fun θ' g' s' h => by
                obtain ⟨h4, h5⟩ := (hsame θ' s').1 h
                rw [app_var h2] at h4
                exact hP θ' g' ((Solves_snoc hb).2 ⟨s', h4⟩) h5
            | some s1 =>
              exact ⟨hP.1, fun θ' h => by
                obtain ⟨h3, h4⟩ := hP.2 θ' h
                obtain ⟨h5, h6⟩ := (Solves_snoc hb).1 h3
                exact ⟨h5, (hsame θ' h5).2 ⟨by rw [app_var h2]; exact h6, h4⟩⟩⟩
        · by_cases h4 : y.k = 1
          · obtain rfl := Ms_head ty.1 h4
            have hb := gy y [] rfl h4
            by_cases h3 : Rch s (x :: xs) y.n
            · refine fin 0 none (fun m _ ha hb => by rw [U, ha, hb]; dsimp only; rw [if_neg h1, if_neg h2, if_pos h4, if_pos h3]) ?_
              intro θ' g' s' h
              have h := ((hsame θ' s').1 h).1
              rw [app_var h4] at h
              exact Rch_no h3 s' tx.1 (fun hx => absurd hx h2) (fun hx => absurd hx h2) h.symm
            · obtain ⟨n, r, hU, hP⟩ := bindStep y.n (x :: xs) hb h3 tx (wy _ (by rw [vars_cons_var h4]; exact List.mem_cons_self)) wx
              refine fin n r (fun m hm ha hb => by rw [U, ha, hb]; dsimp only; rw [if_neg h1, if_neg h2, if_pos h4, if_neg h3]; exact U_mono hU hm) ?_
              cases r with
              | none =>
                exact fun θ' g' s' h => by
                  obtain ⟨h4', h5⟩ := (hsame θ' s').1 h
                  rw [app_var h4] at h4'
                  exact hP θ' g' ((Solves_snoc hb).2 ⟨s', h4'.symm⟩) h5
              | some s1 =>
                exact ⟨hP.1, fun θ' h => by
                  obtain ⟨h3, h4'⟩ := hP.2 θ' h
                  obtain ⟨h5, h6⟩ := (Solves_snoc hb).1 h3
                  exact ⟨h5, (hsame θ' h5).2 ⟨by rw [app_var h4]; exact h6.symm, h4'⟩⟩⟩
          · have axs : ∀ θ', app θ' (x :: xs) = x :: app θ' xs := fun θ' => by rw [app_cons]; unfold cs; rw [if_neg h2]; rfl
            have ays : ∀ θ', app θ' (y :: ys) = y :: app θ' ys := fun θ' => by rw [app_cons]; unfold cs; rw [if_neg h4]; rfl
            by_cases h5 : x = y
            · subst h5
              have mx : Ms (ar x).toNat xs := by have := tx.1; rw [show 1 = 0 + 1 by rfl, Ms_cons, Nat.zero_add] at this; exact this
              have my : Ms (ar x).toNat ys := by have := ty.1; rw [show 1 = 0 + 1 by rfl, Ms_cons, Nat.zero_add] at this; exact this
              rw [vars_cons_fun h2] at wx wy
              have pin := args_pin mx my (fun c hc => tx.2 c (List.mem_cons_of_mem _ hc)) (fun c hc => ty.2 c (List.mem_cons_of_mem _ hc)) wx wy
              have hsz : sz θ ((argsOf (ar x).toNat xs).zip (argsOf (ar x).toNat ys) ++ ps) < sz θ ((a, b) :: ps) := by
                rw [hszc, axs, List.length_cons]
                have := args_sz θ mx my
                unfold sz at *
                rw [List.map_append, List.sum_append, this]; omega
              obtain ⟨n, r, hU, hP⟩ := U_total N (sz θ ((argsOf (ar x).toNat xs).zip (argsOf (ar x).toNat ys) ++ ps)) s _ V θ hs hV hg hθ (fun p hp => (List.mem_append.1 hp).elim (pin p) (hps' p)) hN (Nat.le_refl _)
              refine fin n r (fun m hm ha hb => by rw [U, ha, hb]; dsimp only; rw [if_neg h1, if_neg h2, if_neg h4, if_pos rfl]; exact U_mono hU hm) ?_
              cases r with
              | none =>
                exact fun θ' g' s' h => hP θ' g' s' (by
                  obtain ⟨h4, h5⟩ := (hsame θ' s').1 h
                  rw [axs, ays] at h4
                  injection h4 with _ h4
                  exact Same_app.2 ⟨args_same' g' mx my h4, h5⟩)
              | some s1 =>
                exact ⟨hP.1, fun θ' h => by
                  obtain ⟨h3, h4⟩ := hP.2 θ' h
                  obtain ⟨h5, h6⟩ := Same_app.1 h4
                  exact ⟨h3, (hsame θ' h3).2 ⟨by rw [axs, ays, args_same mx my h5], h6⟩⟩⟩
            · refine fin 0 none (fun m _ ha hb => by rw [U, ha, hb]; dsimp only; rw [if_neg h1, if_neg h2, if_neg h4, if_neg h5]) ?_
              intro θ' g' s' h
              have h := ((hsame θ' s').1 h).1
              rw [axs, ays] at h
              injection h with h _
              exact h5 h
termination_by (N, M)
decreasing_by
  all_goals simp_wf
  all_goals first
    | (rw [Prod.lex_def]; omega)
    | omega
theorem U_none {n : Nat} {s : Binds} {ps : List (Trm × Trm)} {V : List Int} (hs : Bok s) (hV : VarsIn s V) (hps : ∀ p ∈ ps, Pin V p) : ∃ n r, U n s ps = some r ∧ Post s ps r := by
  obtain ⟨θ, hg, hθ⟩ := exists_sol hs
  exact U_total _ _ s ps V θ hs hV hg hθ hps (Nat.le_refl _) (Nat.le_refl _)
end Go.Proofs.YtjglbadkbhopoaaGreatDoor
namespace Go.Proofs.YtjglbadkbhopoaaGreatDoor
set_option linter.unusedVariables false
inductive Path (s : Binds) : Trm → Nat → Prop
  | start (t : Trm) : t.length ≤ 40 → Path s t 0
  | arg {c : Cell} {r e : Trm} {d : Nat} : Path s (c :: r) d → (∀ x ∈ e, x ∈ r) → e.length ≤ r.length → Path s e (d + 1)
  | bound {c : Cell} {r u : Trm} {d : Nat} : Path s (c :: r) d → c.k = 1 → getB s c.n = some u → Path s u d
def Rmax (ρ : Int → Nat) (l : List Int) : Nat := l.foldr (fun x m => max (ρ x + 1) m) 0
theorem Rmax_le {ρ : Int → Nat} {k : Nat} : ∀ {l : List Int}, (∀ x ∈ l, ρ x < k) → Rmax ρ l ≤ k
  | [], _ => Nat.zero_le _
  | a :: l, h => by
    have := Rmax_le (fun x hx => h x (List.mem_cons_of_mem _ hx))
    have := h a List.mem_cons_self
    unfold Rmax at *; rw [List.foldr_cons]; omega
theorem Rmax_ge {ρ : Int → Nat} : ∀ {l : List Int} {x : Int}, x ∈ l → ρ x < Rmax ρ l
  | a :: l, x, h => by
    unfold Rmax; rw [List.foldr_cons]
    rcases List.mem_cons.1 h with rfl | h
    · omega
    · have := Rmax_ge (ρ := ρ) h
      unfold Rmax at this; omega
theorem Path_le {s : Binds} {ρ : Int → Nat} {K : Nat} (hρ : ∀ v t, getB s v = some t → ∀ x ∈ vars t, ρ x < ρ v) (hK : ∀ x, ρ x ≤ K) (hl : ∀ v t, getB s v = some t → t.length ≤ 40) {t : Trm} {d : Nat} (h : Path s t d) :
    d + (41 * Rmax ρ (vars t) + t.length) ≤ 41 * (K + 1) + 41 := by
  induction h with
  | start t ht =>
    have := Rmax_le (ρ := ρ) (k := K + 1) (l := vars t) (fun x _ => by have := hK x; omega)
    omega
  | arg h he hle ih =>
    rename_i c r e d
    have : Rmax ρ (vars e) ≤ Rmax ρ (vars (c :: r)) := Rmax_le (fun x hx => Rmax_ge (vars_sub (t := c :: r) (fun y hy => List.mem_cons_of_mem _ (he y hy)) x hx))
    rw [List.length_cons] at ih
    omega
  | bound h hc hg ih =>
    rename_i c r u d
    have h1 : Rmax ρ (vars u) ≤ ρ c.n := Rmax_le (hρ _ _ hg)
    have h2 : ρ c.n < Rmax ρ (vars (c :: r)) := Rmax_ge (by rw [vars_cons_var hc]; exact List.mem_cons_self)
    have := hl _ _ hg
    rw [List.length_cons] at ih
    omega
theorem Path_ext {s : Binds} {v : Int} {t : Trm} (hv : getB s v = none) {e : Trm} {d : Nat} (h : Path s e d) : Path (s ++ [(v, t)]) e d := by
  induction h with
  | start t ht => exact .start t ht
  | arg _ he hle ih => exact .arg ih he hle
  | bound _ hc hg ih => exact .bound ih hc (by rw [getB_snoc hv, if_neg (by rintro rfl; rw [hv] at hg; cases hg)]; exact hg)
theorem Path_walk {s : Binds} : ∀ {n : Nat} {t x : Trm} {d : Nat}, walkB n s t = some x → Path s t d → Path s x d
  | 0, t, x, d, h, _ => by simp [walkB] at h
  | n + 1, [], x, d, h, _ => by simp [walkB] at h
  | n + 1, c :: r, x, d, h, k => by
    unfold walkB at h; dsimp only at h
    split at h
    · rename_i hc
      cases hg : getB s c.n with
      | none => rw [hg] at h; obtain rfl := Option.some.inj h; exact k
      | some u => rw [hg] at h; exact Path_walk h (.bound k hc hg)
    · obtain rfl := Option.some.inj h; exact k
theorem Rch_rank {s : Binds} {ρ : Int → Nat} (hρ : ∀ v t, getB s v = some t → ∀ x ∈ vars t, ρ x < ρ v) {t : Trm} {v : Int} (h : Rch s t v) : ∃ x ∈ vars t, ρ v ≤ ρ x := by
  induction h with
  | here h => exact ⟨_, h, Nat.le_refl _⟩
  | on h hg _ ih =>
    obtain ⟨y, hy, hle⟩ := ih
    exact ⟨_, h, by have := hρ _ _ hg y hy; omega⟩
open Classical in
theorem rank_le {s : Binds} {V : List Int} (h : Bok s) (hV : VarsIn s V) : ∃ ρ : Int → Nat, (∀ v t, getB s v = some t → ∀ x ∈ vars t, ρ x < ρ v) ∧ ∀ x, ρ x ≤ V.length := by
  obtain ⟨ρ, hρ⟩ := h.rank
  refine ⟨fun x => (V.filter (fun y => decide (∃ u, getB s x = some u ∧ Rch s u y))).length, fun v t hg x hx => ?_, fun x => List.length_filter_le _ _⟩
  refine filter_lt (fun y hy => ?_) (v := x) ?_ ?_ (hV _ _ hg x hx)
  · obtain ⟨u, hu, hr⟩ := of_decide_eq_true hy
    exact decide_eq_true ⟨t, hg, .on hx hu hr⟩
  · exact decide_eq_true ⟨t, hg, .here hx⟩
  · refine decide_eq_false (fun ⟨u, hu, hr⟩ => ?_)
    obtain ⟨y, hy, hle⟩ := Rch_rank hρ hr
    have := hρ _ _ hu y hy
    omega
def Piled (s : Binds) : List (Trm × Trm) → Prop
  | [] => True
  | p :: ps => Piled s ps ∧ ∃ d, ps.length ≤ 2 * d ∧ Path s p.1 d
theorem Piled_ext {s : Binds} {v : Int} {t : Trm} (hv : getB s v = none) : ∀ {ps : List (Trm × Trm)}, Piled s ps → Piled (s ++ [(v, t)]) ps
  | [], _ => trivial
  | p :: ps, ⟨h, d, h1, h2⟩ => ⟨Piled_ext hv h, d, h1, Path_ext hv h2⟩
theorem Piled_push {s : Binds} {d n : Nat} : ∀ {qs ps : List (Trm × Trm)}, Piled s ps → ps.length ≤ 2 * d → qs.length ≤ 3 → (∀ q ∈ qs, Path s q.1 (d + 1)) → Piled s (qs ++ ps)
  | [], ps, h, _, _, _ => h
  | q :: qs, ps, h, hd, hq, hp => ⟨Piled_push (n := n) h hd (by simp only [List.length_cons] at hq; omega) (fun q hq => hp q (List.mem_cons_of_mem _ hq)), d + 1, by
      have e : (qs.append ps).length = qs.length + ps.length := List.length_append
      rw [List.length_cons] at hq; omega, hp q List.mem_cons_self⟩
theorem sub_len : ∀ {l V : List Int}, l.Nodup → (∀ x ∈ l, x ∈ V) → l.length ≤ V.length
  | [], V, _, _ => Nat.zero_le _
  | a :: l, V, h, hV => by
    rw [List.nodup_cons] at h
    have ha := hV a List.mem_cons_self
    have := sub_len (l := l) (V := V.erase a) h.2 (fun x hx => (List.mem_erase_of_ne (by rintro rfl; exact h.1 hx)).2 (hV x (List.mem_cons_of_mem _ hx)))
    rw [List.length_erase_of_mem ha] at this
    have : 0 < V.length := List.length_pos_of_mem ha
    rw [List.length_cons]; omega
structure Binv (V : List Int) (s : Binds) : Prop where
  bok : Bok s
  trm : ∀ v t, getB s v = some t → trmOk t = true
  vin : VarsIn s V
  nod : (s.map (·.1)).Nodup
  key : ∀ v ∈ s.map (·.1), v ∈ V
theorem Binv.len {V : List Int} {s : Binds} (h : Binv V s) : s.length ≤ V.length := by
  have := sub_len h.nod h.key
  rwa [List.length_map] at this
theorem getB_none {s : Binds} {v : Int} : getB s v = none ↔ v ∉ s.map (·.1) := by
  unfold getB
  rw [Option.map_eq_none_iff, List.find?_eq_none]
  simp only [List.mem_map]
  constructor
  · rintro h ⟨b, hb, rfl⟩
    have := h b hb
    simp at this
  · intro h b hb
    simp only [decide_eq_true_eq]
    rintro rfl
    exact h ⟨b, hb, rfl⟩
theorem trmOk_iff {t : Trm} : trmOk t = true ↔ Ms 1 t ∧ t.length ≤ 40 ∧ t.all cellOk = true := by
  unfold trmOk
  simp only [Bool.and_eq_true, decide_eq_true_eq]
  constructor
  · rintro ⟨⟨⟨h1, h2⟩, h3⟩, h4⟩; exact ⟨h4, h2, h3⟩
  · rintro ⟨h1, h2, h3⟩; exact ⟨⟨⟨Ms_pos (m := 0) h1, h2⟩, h3⟩, h1⟩
theorem cellOk_var {c : Cell} (h : cellOk c = true) (hc : c.k = 1) : c.s.data.toList = [] ∧ 0 ≤ c.n ∧ c.n ≤ 99999 := by
  unfold cellOk at h; rw [if_pos hc] at h; simp at h
  exact ⟨by simpa using h.2, h.1.1, h.1.2⟩
theorem Tk_ok {t : Trm} (h : trmOk t = true) : Tk t := by
  obtain ⟨h1, h2, h3⟩ := trmOk_iff.1 h
  exact ⟨h1, fun c hc hk => (cellOk_var (List.all_eq_true.1 h3 c hc) hk).1⟩
theorem arg_ok {c : Cell} {r x : Trm} (h : trmOk (c :: r) = true) (hx : x ∈ argsOf (ar c).toNat r) : trmOk x = true ∧ (∀ y ∈ x, y ∈ r) ∧ x.length ≤ r.length := by
  obtain ⟨h1, h2, h3⟩ := trmOk_iff.1 h
  have m : Ms (ar c).toNat r := by rw [show 1 = 0 + 1 by rfl, Ms_cons, Nat.zero_add] at h1; exact h1
  obtain ⟨a1, a2⟩ := args_mem m hx
  have hle : x.length ≤ r.length := by
    obtain ⟨f1, _⟩ := argsOf_ok m
    obtain ⟨l1, l2, e⟩ := List.append_of_mem hx
    have := congrArg List.length f1
    rw [e] at this
    simp at this
    omega
  refine ⟨trmOk_iff.2 ⟨a1, ?_, ?_⟩, a2, hle⟩
  · rw [List.length_cons] at h2; omega
  · rw [List.all_eq_true] at h3 ⊢
    exact fun y hy => h3 y (List.mem_cons_of_mem _ (a2 y hy))
theorem Binv.snoc {V : List Int} {s : Binds} (h : Binv V s) {v : Int} {t : Trm} (hv : getB s v = none) (hr : ¬ Rch s t v) (ht : trmOk t = true) (hvV : v ∈ V) (htV : ∀ x ∈ vars t, x ∈ V) : Binv V (s ++ [(v, t)]) where
  bok := bind_ok h.bok hv hr (Tk_ok ht)
  trm := fun w u hw => by
    rw [getB_snoc hv] at hw
    split at hw
    · obtain rfl := Option.some.inj hw; exact ht
    · exact h.trm _ _ hw
  vin := VarsIn_snoc hv h.vin htV
  nod := by
    rw [List.map_append, List.nodup_append]
    refine ⟨h.nod, by simp, fun a ha b hb => ?_⟩
    simp at hb; subst hb
    rintro rfl
    exact getB_none.1 hv ha
  key := fun w hw => by
    rw [List.map_append, List.mem_append] at hw
    rcases hw with hw | hw
    · exact h.key w hw
    · simp at hw; subst hw; exact hvV
def Pok (V : List Int) (p : Trm × Trm) : Prop := trmOk p.1 = true ∧ trmOk p.2 = true ∧ (∀ v ∈ vars p.1, v ∈ V) ∧ ∀ v ∈ vars p.2, v ∈ V
theorem Pok.pin {V : List Int} {p : Trm × Trm} (h : Pok V p) : Pin V p := ⟨Tk_ok h.1, Tk_ok h.2.1, h.2.2.1, h.2.2.2⟩
structure Uinv (V : List Int) (s : Binds) (ps : List (Trm × Trm)) : Prop where
  b : Binv V s
  p : ∀ p ∈ ps, Pok V p
  h : Piled s ps
theorem Uinv.len {V : List Int} {s : Binds} {ps : List (Trm × Trm)} (h : Uinv V s ps) : ps.length ≤ 82 * (V.length + 2) + 1 := by
  obtain ⟨ρ, h1, h2⟩ := rank_le h.b.bok h.b.vin
  cases ps with
  | nil => exact Nat.zero_le _
  | cons p ps =>
    obtain ⟨_, d, hd, hp⟩ := h.h
    have := Path_le h1 h2 (fun v t hg => (trmOk_iff.1 (h.b.trm v t hg)).2.1) hp
    rw [List.length_cons]; omega
theorem walk_ok {V : List Int} {s : Binds} (h : Binv V s) {n : Nat} {t x : Trm} (hw : walkB n s t = some x) (ht : trmOk t = true) : trmOk x = true := by
  have : ∀ {n : Nat} {t x : Trm}, walkB n s t = some x → trmOk t = true → trmOk x = true := by
    intro n
    induction n with
    | zero => intro t x h; simp [walkB] at h
    | succ n ih =>
      intro t x hw ht
      cases t with
      | nil => simp [walkB] at hw
      | cons c r =>
        unfold walkB at hw; dsimp only at hw
        split at hw
        · cases hg : getB s c.n with
          | none => rw [hg] at hw; obtain rfl := Option.some.inj hw; exact ht
          | some u => rw [hg] at hw; exact ih hw (h.trm _ _ hg)
        · obtain rfl := Option.some.inj hw; exact ht
  exact this hw ht
theorem vars_walk {V : List Int} {s : Binds} (h : Binv V s) {n : Nat} {t x : Trm} (hw : walkB n s t = some x) (ht : trmOk t = true) (hv : ∀ v ∈ vars t, v ∈ V) : ∀ v ∈ vars x, v ∈ V :=
  (walk_props h.bok.one hw (Tk_ok ht)).2.2.2 V h.vin hv
theorem walk_free {V : List Int} {s : Binds} (h : Binv V s) {n : Nat} {t : Trm} {c : Cell} {r : Trm} (hw : walkB n s t = some (c :: r)) (ht : trmOk t = true) (hc : c.k = 1) : getB s c.n = none :=
  (walk_props h.bok.one hw (Tk_ok ht)).2.2.1 c r rfl hc
inductive Ustep (V : List Int) (n : Nat) (s : Binds) (ps : List (Trm × Trm)) (x : Cell) (xs : Trm) (y : Cell) (ys : Trm) (r : Option Binds) : Prop
  | pop : x.k = 1 → x = y → U n s ps = some r → Uinv V s ps → Ustep V n s ps x xs y ys r
  | loopL : x.k = 1 → x ≠ y → Rch s (y :: ys) x.n → r = none → Ustep V n s ps x xs y ys r
  | bindL : x.k = 1 → x ≠ y → ¬ Rch s (y :: ys) x.n → U n (s ++ [(x.n, y :: ys)]) ps = some r → Uinv V (s ++ [(x.n, y :: ys)]) ps → Ustep V n s ps x xs y ys r
  | loopR : x.k ≠ 1 → y.k = 1 → Rch s (x :: xs) y.n → r = none → Ustep V n s ps x xs y ys r
  | bindR : x.k ≠ 1 → y.k = 1 → ¬ Rch s (x :: xs) y.n → U n (s ++ [(y.n, x :: xs)]) ps = some r → Uinv V (s ++ [(y.n, x :: xs)]) ps → Ustep V n s ps x xs y ys r
  | apart : x.k ≠ 1 → y.k ≠ 1 → x ≠ y → r = none → Ustep V n s ps x xs y ys r
  | args : x.k ≠ 1 → y.k ≠ 1 → x = y → U n s ((argsOf (ar x).toNat xs).zip (argsOf (ar y).toNat ys) ++ ps) = some r → Uinv V s ((argsOf (ar x).toNat xs).zip (argsOf (ar y).toNat ys) ++ ps) → Ustep V n s ps x xs y ys r
theorem U_step {V : List Int} {n : Nat} {s : Binds} {a b : Trm} {ps : List (Trm × Trm)} {r : Option Binds} (h : U (n + 1) s ((a, b) :: ps) = some r) (hi : Uinv V s ((a, b) :: ps)) :
    ∃ x xs y ys, walkB n s a = some (x :: xs) ∧ walkB n s b = some (y :: ys) ∧ trmOk (x :: xs) = true ∧ trmOk (y :: ys) = true ∧ (∀ v ∈ vars (x :: xs), v ∈ V) ∧ (∀ v ∈ vars (y :: ys), v ∈ V) ∧ (x.k = 1 → getB s x.n = none) ∧ (y.k = 1 → getB s y.n = none) ∧ Ustep V n s ps x xs y ys r := by
  obtain ⟨pa, pb, va, vb⟩ : trmOk a = true ∧ trmOk b = true ∧ (∀ v ∈ vars a, v ∈ V) ∧ ∀ v ∈ vars b, v ∈ V := hi.p (a, b) List.mem_cons_self
  obtain ⟨hpl, d, hd, hpath⟩ := hi.h
  have hps : ∀ p ∈ ps, Pok V p := fun p hp => hi.p p (List.mem_cons_of_mem _ hp)
  unfold U at h
  cases ha : walkB n s a with
  | none => rw [ha] at h; simp at h
  | some X =>
    cases hb : walkB n s b with
    | none => rw [ha, hb] at h; cases X <;> simp at h
    | some Y =>
      rw [ha, hb] at h
      have okX := walk_ok hi.b ha pa
      have okY := walk_ok hi.b hb pb
      have vX := vars_walk hi.b ha pa va
      have vY := vars_walk hi.b hb pb vb
      have pX := Path_walk ha hpath
      cases X with
      | nil => simp at h
      | cons x xs =>
        cases Y with
        | nil => simp at h
        | cons y ys =>
          have fx := walk_free hi.b ha pa
          have fy := walk_free hi.b hb pb
          refine ⟨x, xs, y, ys, rfl, rfl, okX, okY, vX, vY, fun hx => fx hx, fun hy => fy hy, ?_⟩
          dsimp only at h
          split at h
          · rename_i h1; exact .pop h1.1 h1.2 h ⟨hi.b, hps, hpl⟩
          · rename_i h1
            split at h
            · rename_i h2
              have hne : x ≠ y := fun e => h1 ⟨h2, e⟩
              split at h
              · rename_i h3; exact .loopL h2 hne h3 (Option.some.inj h).symm
              · rename_i h3
                have hv := fx h2
                exact .bindL h2 hne h3 h ⟨hi.b.snoc hv h3 okY (vX _ (by rw [vars_cons_var h2]; exact List.mem_cons_self)) vY, hps, Piled_ext hv hpl⟩
            · rename_i h2
              split at h
              · rename_i h4
                split at h
                · rename_i h3; exact .loopR h2 h4 h3 (Option.some.inj h).symm
                · rename_i h3
                  have hv := fy h4
                  exact .bindR h2 h4 h3 h ⟨hi.b.snoc hv h3 okX (vY _ (by rw [vars_cons_var h4]; exact List.mem_cons_self)) vX, hps, Piled_ext hv hpl⟩
              · rename_i h4
                split at h
                · rename_i h5
                  refine .args h2 h4 h5 h ⟨hi.b, fun p hp => ?_, ?_⟩
                  · rcases List.mem_append.1 hp with hp | hp
                    · obtain ⟨i1, i2⟩ := List.of_mem_zip (a := p.1) (b := p.2) hp
                      obtain ⟨a1, a2, _⟩ := arg_ok okX i1
                      obtain ⟨b1, b2, _⟩ := arg_ok okY i2
                      exact ⟨a1, b1, fun v hv => vX v (vars_sub (fun c hc => List.mem_cons_of_mem _ (a2 c hc)) v hv), fun v hv => vY v (vars_sub (fun c hc => List.mem_cons_of_mem _ (b2 c hc)) v hv)⟩
                    · exact hps p hp
                  · refine Piled_push (n := 0) (d := d) hpl hd ?_ (fun q hq => ?_)
                    · have := ar_of_ok (List.all_eq_true.1 (trmOk_iff.1 okX).2.2 x List.mem_cons_self)
                      rw [List.length_zip, argsOf_len, argsOf_len]; omega
                    · obtain ⟨i1, _⟩ := List.of_mem_zip (a := q.1) (b := q.2) hq
                      obtain ⟨_, a2, a3⟩ := arg_ok okX i1
                      exact .arg pX a2 a3
                · rename_i h5; exact .apart h2 h4 h5 (Option.some.inj h).symm
theorem Uinv.start {V : List Int} {s : Binds} {a b : Trm} (hs : Binv V s) (ha : trmOk a = true) (hb : trmOk b = true) (va : ∀ v ∈ vars a, v ∈ V) (vb : ∀ v ∈ vars b, v ∈ V) : Uinv V s [(a, b)] where
  b := hs
  p := fun p hp => by simp at hp; subst hp; exact ⟨ha, hb, va, vb⟩
  h := ⟨trivial, 0, by simp, .start a (trmOk_iff.1 ha).2.1⟩
theorem U_ends {V : List Int} {s : Binds} {ps : List (Trm × Trm)} (h : Uinv V s ps) : ∃ n r, U n s ps = some r ∧ Post s ps r := U_none (n := 0) h.b.bok h.b.vin (fun p hp => (h.p p hp).pin)
noncomputable def uni (s : Binds) (ps : List (Trm × Trm)) : Option Binds := open Classical in if h : ∃ n r, U n s ps = some r then Classical.choose (Classical.choose_spec h) else none
theorem uni_eq {n : Nat} {s : Binds} {ps : List (Trm × Trm)} {r : Option Binds} (h : U n s ps = some r) : uni s ps = r := by
  have he : ∃ n r, U n s ps = some r := ⟨n, r, h⟩
  unfold uni
  rw [dif_pos he]
  exact U_fun (Classical.choose_spec (Classical.choose_spec he)) h
theorem uni_U {V : List Int} {s : Binds} {ps : List (Trm × Trm)} (h : Uinv V s ps) : ∃ n, U n s ps = some (uni s ps) := by
  obtain ⟨n, r, hU, _⟩ := U_ends h
  exact ⟨n, by rw [uni_eq hU]; exact hU⟩
theorem uni_post {V : List Int} {s : Binds} {ps : List (Trm × Trm)} (h : Uinv V s ps) : Post s ps (uni s ps) := by
  obtain ⟨n, r, hU, hP⟩ := U_ends h
  rwa [uni_eq hU]
theorem uni_isSome {V : List Int} {s : Binds} {ps : List (Trm × Trm)} (h : Uinv V s ps) : (uni s ps).isSome = true ↔ ∃ θ, Good θ ∧ Solves θ s ∧ Same θ ps := by
  have hp := uni_post h
  cases hu : uni s ps with
  | none =>
    rw [hu] at hp
    exact ⟨fun h => (by cases h), fun ⟨θ, h1, h2, h3⟩ => absurd h3 (hp θ h1 h2)⟩
  | some s' =>
    rw [hu] at hp
    refine ⟨fun _ => ?_, fun _ => rfl⟩
    obtain ⟨θ, h1, h2⟩ := exists_sol hp.1
    exact ⟨θ, h1, hp.2 θ h2⟩
theorem Binv.nil (V : List Int) : Binv V [] := ⟨⟨fun v t h => by simp [getB] at h, fun _ => 0, fun v t h => by simp [getB] at h⟩, fun v t h => by simp [getB] at h, fun v t h => by simp [getB] at h, by simp, fun v h => by simp at h⟩
theorem uni_swap {a b : Trm} (ha : trmOk a = true) (hb : trmOk b = true) : (uni [] [(a, b)]).isSome = (uni [] [(b, a)]).isSome := by
  have h1 : Uinv (vars a ++ vars b) [] [(a, b)] := .start (.nil _) ha hb (fun v hv => List.mem_append_left _ hv) (fun v hv => List.mem_append_right _ hv)
  have h2 : Uinv (vars a ++ vars b) [] [(b, a)] := .start (.nil _) hb ha (fun v hv => List.mem_append_right _ hv) (fun v hv => List.mem_append_left _ hv)
  rw [Bool.eq_iff_iff, uni_isSome h1, uni_isSome h2]
  constructor
  · rintro ⟨θ, g, s, h⟩; exact ⟨θ, g, s, Same_cons.2 ⟨(Same_cons.1 h).1.symm, fun p hp => by cases hp⟩⟩
  · rintro ⟨θ, g, s, h⟩; exact ⟨θ, g, s, Same_cons.2 ⟨(Same_cons.1 h).1.symm, fun p hp => by cases hp⟩⟩
end Go.Proofs.YtjglbadkbhopoaaGreatDoor
namespace Go.Proofs.YtjglbadkbhopoaaGreatDoor
set_option linter.unusedVariables false
theorem U_binv {V : List Int} : ∀ {n : Nat} {s : Binds} {ps : List (Trm × Trm)} {s' : Binds}, Uinv V s ps → U n s ps = some (some s') → Binv V s'
  | 0, s, ps, s', _, h => by simp [U] at h
  | n + 1, s, [], s', hi, h => by
    rw [U] at h
    obtain rfl := Option.some.inj (Option.some.inj h)
    exact hi.b
  | n + 1, s, (a, b) :: ps, s', hi, h => by
    obtain ⟨x, xs, y, ys, _, _, _, _, _, _, _, _, hst⟩ := U_step h hi
    cases hst with
    | pop _ _ hU hI => exact U_binv hI hU
    | loopL _ _ _ hr => cases hr
    | bindL _ _ _ hU hI => exact U_binv hI hU
    | loopR _ _ _ hr => cases hr
    | bindR _ _ _ hU hI => exact U_binv hI hU
    | apart _ _ _ hr => cases hr
    | args _ _ _ hU hI => exact U_binv hI hU
theorem U_nil {n : Nat} {s : Binds} {r : Option Binds} (h : U n s [] = some r) : r = some s := by
  cases n with
  | zero => simp [U] at h
  | succ n => rw [U] at h; exact (Option.some.inj h).symm
end Go.Proofs.YtjglbadkbhopoaaGreatDoor
namespace Go.Proofs.YtjglbadkbhopoaaGreatDoor
set_option linter.unusedVariables false
def calls (t : Trm) : Bool := match t with
  | [] => false
  | c :: _ => decide (c.k = 3)
def isQ (t : Trm) : Bool := trmOk t && calls t && decide (canon t = t)
theorem skip_map {f : Cell → Cell} (hf : ∀ c, ar (f c) = ar c) : ∀ (t : Trm) (m : Nat), skip m (t.map f) = skip m t
  | t, 0 => by simp [skip]
  | [], m + 1 => by simp [skip]
  | c :: t, m + 1 => by rw [List.map_cons, skip, skip, hf, skip_map hf t]
theorem ar_shift (n : Int) (c : Cell) : ar (if c.k = 1 then { c with n := c.n + n } else c) = ar c := by
  split
  · rename_i h; unfold ar; dsimp only; rw [if_neg (by omega), if_neg (by omega)]
  · rfl
theorem shift_len (t : Trm) (n : Int) : (shift t n).length = t.length := by unfold shift; rw [List.length_map]
theorem canon_len (t : Trm) : (canon t).length = t.length := by unfold canon; rw [List.length_map]
theorem shift_ok {t : Trm} {n : Int} (h : trmOk t = true) (h0 : 0 ≤ n) (hv : ∀ c ∈ t, c.k = 1 → c.n + n ≤ 99999) : trmOk (shift t n) = true := by
  obtain ⟨h1, h2, h3⟩ := trmOk_iff.1 h
  refine trmOk_iff.2 ⟨?_, by rw [shift_len]; exact h2, ?_⟩
  · unfold Ms at *
    rw [shift_len]
    unfold shift
    rw [skip_map (ar_shift n)]; exact h1
  · rw [List.all_eq_true] at h3 ⊢
    intro c hc
    unfold shift at hc
    rw [List.mem_map] at hc
    obtain ⟨c', hc', rfl⟩ := hc
    have := h3 c' hc'
    split
    · rename_i hk
      obtain ⟨k1, k2, k3⟩ := cellOk_var this hk
      unfold cellOk
      dsimp only
      rw [if_pos hk]
      have := hv c' hc' hk
      simp only [Bool.and_eq_true, decide_eq_true_eq]
      exact ⟨⟨by omega, by omega⟩, by rw [k1]; rfl⟩
    · exact this
theorem isQ_ok {t : Trm} (h : isQ t = true) : trmOk t = true ∧ canon t = t ∧ calls t = true := by
  unfold isQ at h
  simp only [Bool.and_eq_true, decide_eq_true_eq] at h
  exact ⟨h.1.1, h.2, h.1.2⟩
theorem canon_small {t : Trm} (h : canon t = t) : ∀ c ∈ t, c.k = 1 → c.n < t.length := fun c hc hk => by
  rw [← h] at hc
  unfold canon at hc
  rw [List.mem_map] at hc
  obtain ⟨c', hc', rfl⟩ := hc
  split at hk
  · rename_i hk'
    rw [if_pos hk']
    have := (place_ge (free t) c'.n).2
    have := free_len t
    dsimp only
    omega
  · rename_i hk'; exact absurd hk hk'
noncomputable def outOk (top : Trm) (st : Int) (t : Trm) : Bool :=
  if isQ top = false then false
  else if 3 ≤ st ∧ st ≤ 5 then t.isEmpty
  else if st ≠ 2 then false
  else if trmOk t = false then false
  else if canon t ≠ t then false
  else (uni [] [(t, shift top t.length)]).isSome
theorem shiftQ_ok {top : Trm} {n : Nat} (h : isQ top = true) (hn : n ≤ 40) : trmOk (shift top n) = true := by
  obtain ⟨h1, h2, -⟩ := isQ_ok h
  have := (trmOk_iff.1 h1).2.1
  refine shift_ok h1 (by omega) (fun c hc hk => ?_)
  have := canon_small h2 c hc hk
  omega
theorem vars_ok {t : Trm} (h : trmOk t = true) : ∀ x ∈ vars t, 0 ≤ x ∧ x ≤ 99999 := fun x hx => by
  unfold vars at hx
  simp only [List.mem_map, List.mem_filter, decide_eq_true_eq] at hx
  obtain ⟨c, ⟨h1, h2⟩, rfl⟩ := hx
  exact (cellOk_var (List.all_eq_true.1 (trmOk_iff.1 h).2.2 c h1) h2).2
theorem vars_len (t : Trm) : (vars t).length ≤ t.length := by unfold vars; rw [List.length_map]; exact List.length_filter_le _ _
end Go.Proofs.YtjglbadkbhopoaaGreatDoor
namespace Go.Proofs.YtjglbadkbhopoaaGreatDoor
open Go.RowKit
set_option maxRecDepth 100000
set_option maxHeartbeats 4000000
set_option linter.unusedVariables false
theorem calls_c (t : Trm) (A : Option Addr) (c : Nat) (w : World) (h : Kd.cell.C 47 w A t) :
    Calls Tryz.prog 49 #[.slice A t.length c] w fun e w' => e = .returned (.bool (calls t)) ∧ w = w' := by
  match t, h with
  | [], h =>
    go_enter Tryz.func49, Tryz.ntmps49
    go_wp2
    go_ret
    exact ⟨rfl, rfl⟩
  | x :: r, h =>
    obtain ⟨ad, rfl, a1, -, -⟩ := cell_at (i := 0) h rfl
    rw [Nat.zero_mul] at a1
    have a1 : w.cell? ad = some (.int .i64 x.k) := by
      rw [show ad.add 0 = ad from by unfold Addr.add; rw [if_pos rfl]] at a1; exact a1
    clear h
    have hl : (0 : Int) < ((x :: r).length : Int) := by rw [List.length_cons]; omega
    generalize (x :: r).length = n at hl ⊢
    by_cases h3 : x.k = 3
    · have e1 : (x.k == 3) = true := beq_iff_eq.2 h3
      have HV := Lib.hid (show calls (x :: r) = true from decide_eq_true h3)
      clear h3
      go_enter Tryz.func49, Tryz.ntmps49
      go_wp2
      go_ret
      exact ⟨ret_bool HV.out.symm, rfl⟩
    · have e1 : (x.k == 3) = false := beq_eq_false_iff_ne.2 h3
      have HV := Lib.hid (show calls (x :: r) = false from decide_eq_false h3)
      clear h3
      go_enter Tryz.func49, Tryz.ntmps49
      go_wp2
      go_ret
      exact ⟨ret_bool HV.out.symm, rfl⟩
theorem top_c (t : Trm) (A : Option Addr) (c : Nat) (w : World) (h : Kd.cell.C 47 w A t) (hl : t.length ≤ 1000000000) :
    Calls Tryz.prog 19 #[.slice A t.length c] w fun e w' => e = .returned (.bool (isQ t)) ∧ Below w.heap.size w w' := by
  have H := Lib.hid h
  have HT := Lib.hid (trmOk_c t A c w h hl)
  have HC := Lib.hid (fun W hb => calls_c t A c W (Kd.C_ext (w' := W) hb H.out))
  have HN := Lib.hid (fun W hb => canon_c t A c W (Kd.C_ext (w' := W) hb H.out) hl)
  clear h
  cases h1 : trmOk t with
  | false =>
    have HV := Lib.hid (show isQ t = false by unfold isQ; rw [h1]; rfl)
    rw [h1] at HT
    clear h1
    go_enter Tryz.func19, Tryz.ntmps19
    go_wp2_with (go_at_call 21; refine HT.out.mono ?_; rintro e w1 ⟨rfl, hb⟩)
    go_ret
    exact ⟨ret_bool HV.out.symm, hb⟩
  | true =>
    rw [h1] at HT
    cases h2 : calls t with
    | false =>
      have HV := Lib.hid (show isQ t = false by unfold isQ; rw [h1, h2]; rfl)
      rw [h2] at HC
      clear h1 h2
      go_enter Tryz.func19, Tryz.ntmps19
      go_wp2_with (first | (go_at_call 21; refine HT.out.mono ?_; rintro e w1 ⟨rfl, hb⟩) | (go_at_call 49; refine (HC.out _ hb).mono ?_; rintro e w2 ⟨rfl, rfl⟩))
      go_ret
      exact ⟨ret_bool HV.out.symm, hb⟩
    | true =>
      have HV := Lib.hid (show isQ t = decide (canon t = t) by unfold isQ; rw [h1, h2]; rfl)
      rw [h2] at HC
      clear h1 h2
      go_enter Tryz.func19, Tryz.ntmps19
      go_wp2_with (first | (go_at_call 21; refine HT.out.mono ?_; rintro e w1 ⟨rfl, hb⟩) | (go_at_call 49; refine (HC.out _ hb).mono ?_; rintro e w2 ⟨rfl, rfl⟩) | (go_at_call 23; refine (HN.out _ hb).mono ?_; rintro e w3 ⟨v, rfl, ⟨B, cB, rfl, q1, q2, hB⟩, hb3⟩; have HB3 := Lib.hid (bel_trans hb hb3); have HB := Lib.hid hB; clear hb3 hB) | (go_at_call 22; refine (same_c (canon t) t _ _ _ _ _ HB.out (Kd.C_ext HB3.out H.out) (by rw [canon_len]; exact hl) hl).mono ?_; rintro e w4 ⟨rfl, hb4⟩))
      go_ret
      exact ⟨ret_bool HV.out.symm, bel_trans HB3.out hb4⟩
end Go.Proofs.YtjglbadkbhopoaaGreatDoor
namespace Go.Proofs.YtjglbadkbhopoaaGreatDoor
open Go.RowKit
set_option maxRecDepth 100000
set_option maxHeartbeats 4000000
set_option linter.unusedVariables false
abbrev Kd.bind : Kd (Int × Trm) := Kd.pair (Kd.int .i64) (Kd.slice 47 Kd.cell)
theorem AppI.int : AppI Tryz.prog 72 3 (Kd.int .i64) := ⟨Tryz.underlying72, ⟨_, 8, infoInt, rfl, by decide⟩, by decide, fun q hq => by cases hq⟩
theorem AppI.cell : AppI Tryz.prog 23 47 Kd.cell := ⟨Tryz.underlying23, ⟨_, 32, infoCell, rfl, by decide⟩, by decide, fun q hq => by cases hq⟩
theorem AppI.bind : AppI Tryz.prog 34 107 Kd.bind := ⟨Tryz.underlying34, ⟨.agg #[.int .i64 0, .slice none 0 0], 32, by kernel_rfl, rfl, by decide⟩, by decide, fun q hq => by
  have : q = 47 := by simpa [Kd.bind, Kd.pair, Kd.int, Kd.slice, Kd.cell] using hq
  rw [this]; decide⟩
theorem add_zero' (ad : Addr) : ad.add 0 = ad := by unfold Addr.add; rw [if_pos rfl]
theorem cell_hd {e : Nat} {w : World} {A : Option Addr} {c : Cell} {r : Trm} (h : Kd.cell.C e w A (c :: r)) :
    ∃ ad, A = some ad ∧ w.cell? ad = some (.int .i64 c.k) ∧ w.cell? ⟨ad.block, ad.off + 1, none⟩ = some (.int .i64 c.n) ∧ w.cell? ⟨ad.block, ad.off + 2, none⟩ = some (.string c.s) := by
  obtain ⟨ad, ea, h1, h2, h3⟩ := cell_at (i := 0) h rfl
  rw [Nat.zero_mul, add_zero'] at h1 h2 h3
  exact ⟨ad, ea, h1, h2, h3⟩
theorem bind_at {e : Nat} {w : World} {A : Option Addr} {s : Binds} (h : Kd.bind.C e w A s) {i : Nat} {b : Int × Trm} (hi : s[i]? = some b) :
    ∃ ad B c, A = some ad ∧ w.cell? (ad.add (i * 2)) = some (.int .i64 b.1) ∧ w.cell? ⟨(ad.add (i * 2)).block, (ad.add (i * 2)).off + 1, none⟩ = some (.slice B b.2.length c) ∧ b.2.length ≤ c ∧ c ≤ maxLen ∧ Kd.cell.C 47 w B b.2 := by
  obtain ⟨ad, cs, _, _, ea, _, hk, hc⟩ := h i b hi
  obtain ⟨c0, c1, rfl, h0, tv, rfl, B, c, rfl, h1, h2, hC⟩ := hk
  obtain rfl : c0 = [.int .i64 b.1] := h0
  refine ⟨ad, B, c, ea, ?_, ?_, h1, h2, hC⟩
  · have := hc 0 _ rfl; rwa [Nat.add_zero] at this
  · have := hc 1 _ rfl; rw [← add_add'] at this; exact this
theorem getB_hit {s : Binds} {k : Nat} {v : Int} {b : Int × Trm} (h : s[k]? = some b) (hv : b.1 = v) (hj : ∀ (j : Nat) (b : Int × Trm), j < k → s[j]? = some b → b.1 ≠ v) : getB s v = some b.2 := by
  unfold getB
  have : s.find? (fun b => decide (b.1 = v)) = some b := by
    rw [List.find?_eq_some_iff_getElem]
    obtain ⟨hl, e⟩ := List.getElem?_eq_some_iff.1 h
    refine ⟨decide_eq_true hv, k, hl, e, fun j hjk => ?_⟩
    have := hj j _ hjk (List.getElem?_eq_getElem (by omega))
    simp [this]
  rw [this]; rfl
theorem getB_miss {s : Binds} {v : Int} (hj : ∀ (j : Nat) (b : Int × Trm), s[j]? = some b → b.1 ≠ v) : getB s v = none := by
  rw [getB_none]
  intro h
  rw [List.mem_map] at h
  obtain ⟨b, hb, rfl⟩ := h
  obtain ⟨j, hlt, e⟩ := List.mem_iff_getElem.1 hb
  exact hj j b (by rw [List.getElem?_eq_getElem hlt, e]) rfl
theorem get_c (s : Binds) (A : Option Addr) (c : Nat) (v : Int) (w : World) (h : Kd.bind.C 107 w A s) (hl : s.length ≤ 1000000000) :
    Calls Tryz.prog 86 #[.slice A s.length c, .int .i64 v] w fun e w' => ∃ r, e = .returned r ∧ Kd.cell.S 47 w' r ((getB s v).getD []) ∧ Below w.heap.size w w' := by
  have H := Lib.hid h
  clear h
  go_enter Tryz.func86, Tryz.ntmps86
  go_wp2
  go_loop [5] (fun v5 => ∃ k : Nat, v5 = .int .i64 k ∧ k ≤ s.length ∧ Hid (∀ j b, j < k → s[j]? = some b → b.1 ≠ v)) (fun v5 => s.length - (intOf v5).toNat)
  case atStart => exact ⟨0, rfl, Nat.zero_le _, Lib.hid (fun j b h => by omega)⟩
  case round =>
    obtain ⟨k, rfl, hk, HJ⟩ := hrel
    by_cases hlt : k < s.length
    · obtain ⟨b, hb⟩ : ∃ b, s[k]? = some b := ⟨_, List.getElem?_eq_getElem hlt⟩
      obtain ⟨ad, B, cB, rfl, a1, a2, b1, b2, hC⟩ := bind_at H.out hb
      have HC := Lib.hid hC
      clear hC
      by_cases he : b.1 = v
      · have e1 : (b.1 == v) = true := beq_iff_eq.2 he
        have HV := Lib.hid (getB_hit hb he HJ.out)
        clear he hb
        go_wp2
        go_ret
        exact ⟨_, rfl, by rw [HV.out]; exact ⟨B, cB, rfl, b1, b2, HC.out⟩, Below.refl _ _⟩
      · have e1 : (b.1 == v) = false := beq_eq_false_iff_ne.2 he
        have HN := Lib.hid (show ∀ j b, j < k + 1 → s[j]? = some b → b.1 ≠ v from fun j b' hj hb' => by
          rcases Nat.lt_or_ge j k with h' | h'
          · exact HJ.out j b' h' hb'
          · obtain rfl : j = k := by omega
            rw [hb] at hb'; obtain rfl := Option.some.inj hb'; exact he)
        clear he hb
        go_wp2
        exact ⟨⟨k + 1, by go_num, by omega, HN⟩, by simp [intOf]; omega⟩
    · have HV := Lib.hid (getB_miss (s := s) (v := v) (fun j b hb => HJ.out j b (by have := (List.getElem?_eq_some_iff.1 hb).1; omega) hb))
      go_wp2
      go_ret
      exact ⟨_, rfl, by rw [HV.out]; exact ⟨_, _, rfl, Nat.le_refl _, Nat.zero_le _, Kd.C_nil _ _ _ _⟩, by first | exact bel_alloc (Below.refl _ _) _ | exact Below.refl _ _⟩
theorem walk_c (n : Nat) (s : Binds) (A : Option Addr) (c : Nat) (t x : Trm) (tv : Value) (w : World) (h : Kd.bind.C 107 w A s) (hl : s.length ≤ 1000000000) (ht : Kd.cell.S 47 w tv t) (hw : walkB n s t = some x) (hne : ∀ v t, getB s v = some t → t ≠ []) :
    Calls Tryz.prog 54 #[.slice A s.length c, tv] w fun e w' => ∃ r, e = .returned r ∧ Kd.cell.S 47 w' r x ∧ Below w.heap.size w w' := by
  have H := Lib.hid h
  have HT := Lib.hid ht
  have HW := Lib.hid hw
  have HNe := Lib.hid hne
  clear h ht hw hne
  go_enter Tryz.func54, Tryz.ntmps54
  go_wp2
  go_loopg [5] n (fun k v5 wr => ∃ u, Hid (walkB k s u = some x) ∧ Hid (Kd.cell.S 47 wr v5 u) ∧ Hid (Below w.heap.size w wr))
  case atStart => exact ⟨t, HW, HT, Lib.hid (Below.refl _ _)⟩
  case round =>
    obtain ⟨u, HU, HS, HB⟩ := hrel
    obtain ⟨k, rfl⟩ : ∃ k, gk = k + 1 := by
      cases gk with
      | zero => have := HU.out; simp [walkB] at this
      | succ k => exact ⟨k, rfl⟩
    obtain ⟨cc, r, rfl⟩ : ∃ cc r, u = cc :: r := by
      cases u with
      | nil => have := HU.out; simp [walkB] at this
      | cons cc r => exact ⟨cc, r, rfl⟩
    obtain ⟨B, cB, rfl, b1, b2, hC⟩ := HS.out
    obtain ⟨ad, rfl, a1, a2, a3⟩ := cell_hd hC
    have hn : (0 : Int) < ((cc :: r).length : Int) := by rw [List.length_cons]; omega
    have HG := Lib.hid (fun W hb => get_c s A c cc.n W (Kd.C_ext (w' := W) hb H.out) hl)
    clear hC
    have HS' := Lib.hid HS.out
    clear HS
    obtain ⟨m, hm⟩ : ∃ m, (cc :: r).length = m := ⟨_, rfl⟩
    rw [hm] at hn b1 HS' 
    rw [hm]
    by_cases h1 : cc.k = 1
    · have e1 : (cc.k == 1) = true := beq_iff_eq.2 h1
      obtain ⟨g, hg⟩ : ∃ g, getB s cc.n = g := ⟨_, rfl⟩
      rw [hg] at HG
      cases g with
      | none =>
        have HX := Lib.hid (show x = cc :: r by have := HU.out; unfold walkB at this; dsimp only at this; rw [if_pos h1, hg] at this; exact (Option.some.inj this).symm)
        clear h1 hg hm
        go_wp2_with (go_at_call 86; refine (HG.out _ HB.out).mono ?_; rintro e w1 ⟨rv, rfl, ⟨B', c', rfl, d1, d2, hC'⟩, hb⟩; have HB1 := Lib.hid (bel_trans HB.out hb); have Hb := Lib.hid hb; clear hb hC')
        go_ret
        exact ⟨_, rfl, by rw [HX.out]; exact Kd.S_ext Hb.out HS'.out, HB1.out⟩
      | some u' =>
        have HX := Lib.hid (show walkB k s u' = some x by have := HU.out; unfold walkB at this; dsimp only at this; rw [if_pos h1, hg] at this; exact this)
        have hu' : 0 < u'.length := List.length_pos_iff.2 (HNe.out _ _ hg)
        have e2 : ((u'.length : Int) == 0) = false := beq_eq_false_iff_ne.2 (by omega)
        have HG : Hid (∀ (W : World), Below w.heap.size w W → Calls Tryz.prog 86 #[Value.slice A s.length c, Value.int .i64 cc.n] W fun e w' => ∃ r, e = .returned r ∧ Kd.cell.S 47 w' r u' ∧ Below W.heap.size W w') := HG
        clear h1 hg hm
        go_wp2_with (go_at_call 86; refine (HG.out _ HB.out).mono ?_; rintro e w1 ⟨rv, rfl, ⟨B', c', rfl, d1, d2, hC'⟩, hb⟩; have HB1 := Lib.hid (bel_trans HB.out hb); have HC' := Lib.hid hC'; clear hb hC')
        go_roundg k
        case measure => omega
        case rel => exact ⟨u', HX, Lib.hid ⟨_, _, rfl, d1, d2, HC'.out⟩, HB1⟩
    · have e1 : (cc.k == 1) = false := beq_eq_false_iff_ne.2 h1
      have HX := Lib.hid (show x = cc :: r by have := HU.out; unfold walkB at this; dsimp only at this; rw [if_neg h1] at this; exact (Option.some.inj this).symm)
      clear h1 hm
      go_wp2
      go_ret
      exact ⟨_, rfl, by rw [HX.out]; exact HS'.out, HB.out⟩
end Go.Proofs.YtjglbadkbhopoaaGreatDoor
