/- What a term leads to, as a list that grows; where a term's arguments stand. No program in sight. -/
import Derived.Test.YtjnangiggnmkoaaGreatDoorUni3
namespace Go.Proofs.YtjnangiggnmkoaaGreatDoor
set_option linter.unusedVariables false
theorem mem_freeStep {D : List Int} {c : Cell} {x : Int} : x ∈ freeStep D c ↔ x ∈ D ∨ (c.k = 1 ∧ x = c.n) := by
  unfold freeStep
  split
  · rename_i h; simp [h.1]
  · rename_i h
    constructor
    · exact fun hx => .inl hx
    · rintro (hx | ⟨h1, rfl⟩)
      · exact hx
      · exact Classical.byContradiction fun hn => h ⟨h1, hn⟩
theorem mem_fold : ∀ {t : Trm} {D : List Int} {x : Int}, x ∈ t.foldl freeStep D ↔ x ∈ D ∨ x ∈ vars t
  | [], D, x => by simp [vars]
  | c :: t, D, x => by
    rw [List.foldl_cons, mem_fold, mem_freeStep]
    by_cases hc : c.k = 1
    · rw [vars_cons_var hc, List.mem_cons]; simp [hc, or_assoc]
    · rw [vars_cons_fun hc]; simp [hc]
theorem mem_free {t : Trm} {x : Int} : x ∈ free t ↔ x ∈ vars t := by unfold free; rw [mem_fold]; simp
theorem nodup_freeStep {D : List Int} {c : Cell} (h : D.Nodup) : (freeStep D c).Nodup := by
  unfold freeStep
  split
  · rename_i hc
    rw [List.nodup_append]
    exact ⟨h, by simp, fun a ha b hb => by simp at hb; subst hb; rintro rfl; exact hc.2 ha⟩
  · exact h
theorem nodup_fold : ∀ {t : Trm} {D : List Int}, D.Nodup → (t.foldl freeStep D).Nodup
  | [], _, h => h
  | c :: t, D, h => by rw [List.foldl_cons]; exact nodup_fold (nodup_freeStep h)
theorem nodup_free (t : Trm) : (free t).Nodup := nodup_fold (by simp)
/-- How far the list of what a term leads to has come. -/
structure LInv (s : Binds) (t : Trm) (k : Nat) (D : List Int) : Prop where
  nod : D.Nodup
  rch : ∀ x ∈ D, Rch s t x
  vrs : ∀ x ∈ vars t, x ∈ D
  clo : ∀ j x u, j < k → D[j]? = some x → getB s x = some u → ∀ y ∈ vars u, y ∈ D
theorem LInv.start (s : Binds) (t : Trm) : LInv s t 0 (free t) := ⟨nodup_free t, fun x hx => .here (mem_free.1 hx), fun x hx => mem_free.2 hx, fun j x u h => by omega⟩
theorem LInv.add {s : Binds} {t : Trm} {k : Nat} {D : List Int} (h : LInv s t k D) (hk : k ≤ D.length) {y : Int} (hy : y ∉ D) (hr : Rch s t y) : LInv s t k (D ++ [y]) where
  nod := by
    rw [List.nodup_append]
    exact ⟨h.nod, by simp, fun a ha b hb => by simp at hb; subst hb; rintro rfl; exact hy ha⟩
  rch := fun x hx => by
    rcases List.mem_append.1 hx with hx | hx
    · exact h.rch x hx
    · simp at hx; subst hx; exact hr
  vrs := fun x hx => List.mem_append_left _ (h.vrs x hx)
  clo := fun j x u hj hx hg y' hy' => by
    rw [List.getElem?_append_left (by omega)] at hx
    exact List.mem_append_left _ (h.clo j x u hj hx hg y' hy')
theorem LInv.next {s : Binds} {t : Trm} {k : Nat} {D : List Int} (h : LInv s t k D) {x : Int} (hx : D[k]? = some x) (hc : ∀ y ∈ free ((getB s x).getD []), y ∈ D) : LInv s t (k + 1) D where
  nod := h.nod
  rch := h.rch
  vrs := h.vrs
  clo := fun j x' u hj hx' hg y hy => by
    rcases Nat.lt_or_ge j k with h' | h'
    · exact h.clo j x' u h' hx' hg y hy
    · obtain rfl : j = k := by omega
      rw [hx] at hx'; obtain rfl := Option.some.inj hx'
      exact hc y (by rw [hg]; exact mem_free.2 hy)
theorem Rch_trans {s : Binds} {t : Trm} {x : Int} (h : Rch s t x) {u : Trm} (hg : getB s x = some u) {y : Int} (hy : y ∈ vars u) : Rch s t y := by
  induction h with
  | here h => exact .on h hg (.here hy)
  | on h hg' _ ih => exact .on h hg' (ih hg)
theorem LInv.rch' {s : Binds} {t : Trm} {k : Nat} {D : List Int} (h : LInv s t k D) {x : Int} (hx : D[k]? = some x) {y : Int} (hy : y ∈ free ((getB s x).getD [])) : Rch s t y := by
  rw [mem_free] at hy
  cases hg : getB s x with
  | none => rw [hg] at hy; simp [vars] at hy
  | some u => rw [hg] at hy; exact Rch_trans (h.rch x (List.mem_of_getElem? hx)) hg hy
theorem LInv.done {s : Binds} {t : Trm} {k : Nat} {D : List Int} (h : LInv s t k D) (hk : D.length ≤ k) (x : Int) : x ∈ D ↔ Rch s t x := by
  refine ⟨h.rch x, fun hr => ?_⟩
  have : ∀ {t' : Trm} {x : Int}, Rch s t' x → (∀ y ∈ vars t', y ∈ D) → x ∈ D := by
    intro t' x hr
    induction hr with
    | here hx => exact fun hv => hv _ hx
    | on hx hg _ ih =>
      intro hv
      obtain ⟨j, hj, e⟩ := List.mem_iff_getElem.1 (hv _ hx)
      exact ih (h.clo j _ _ (by omega) (by rw [List.getElem?_eq_getElem hj, e]) hg)
  exact this hr h.vrs
theorem LInv.len {s : Binds} {t : Trm} {k : Nat} {D V : List Int} (h : LInv s t k D) (hV : VarsIn s V) (ht : ∀ x ∈ vars t, x ∈ V) : D.length ≤ V.length := by
  refine sub_len h.nod (fun x hx => ?_)
  have : ∀ {t' : Trm} {x : Int}, Rch s t' x → (∀ y ∈ vars t', y ∈ V) → x ∈ V := by
    intro t' x hr
    induction hr with
    | here hx => exact fun hv => hv _ hx
    | on hx hg _ ih => exact fun _ => ih (hV _ _ hg)
  exact this (h.rch x hx) ht
/-- Where the k-th argument begins. -/
def argAt (c : Cell) (r : Trm) (k : Nat) : Nat := 1 + ((argsOf (ar c).toNat r).take k).flatten.length
theorem arg_split {c : Cell} {r : Trm} (h : trmOk (c :: r) = true) {k : Nat} {x : Trm} (hx : (argsOf (ar c).toNat r)[k]? = some x) :
    (c :: r).drop (argAt c r k) = x ++ ((argsOf (ar c).toNat r).drop (k + 1)).flatten ∧ Ms 1 x ∧ argAt c r (k + 1) = argAt c r k + x.length ∧ argAt c r (k + 1) ≤ (c :: r).length := by
  obtain ⟨h1, h2, h3⟩ := trmOk_iff.1 h
  have m : Ms (ar c).toNat r := by rw [show 1 = 0 + 1 by rfl, Ms_cons, Nat.zero_add] at h1; exact h1
  obtain ⟨f1, f2⟩ := argsOf_ok m
  obtain ⟨hl, e⟩ := List.getElem?_eq_some_iff.1 hx
  have hd : r = ((argsOf (ar c).toNat r).take k).flatten ++ (x ++ ((argsOf (ar c).toNat r).drop (k + 1)).flatten) := by
    conv => lhs; rw [← f1]
    rw [← List.flatten_cons, ← List.flatten_append]
    congr 1
    rw [← e, ← List.drop_eq_getElem_cons hl, List.take_append_drop]
  have hlen : argAt c r (k + 1) = argAt c r k + x.length := by
    unfold argAt
    rw [List.take_succ_eq_append_getElem hl, List.flatten_append, List.length_append, e]; simp; omega
  refine ⟨?_, f2 x (List.mem_of_getElem? hx), hlen, ?_⟩
  · unfold argAt
    obtain ⟨L, hL⟩ : ∃ L, argsOf (ar c).toNat r = L := ⟨_, rfl⟩
    rw [hL] at hd ⊢
    rw [Nat.add_comm 1, List.drop_succ_cons, hd, List.drop_left']
    rfl
  · rw [hlen, List.length_cons]
    have := congrArg List.length hd
    rw [List.length_append, List.length_append] at this
    unfold argAt; omega
theorem argAt_pos (c : Cell) (r : Trm) (k : Nat) : 1 ≤ argAt c r k := by unfold argAt; omega
theorem argAt_zero (c : Cell) (r : Trm) : argAt c r 0 = 1 := by unfold argAt; simp
end Go.Proofs.YtjnangiggnmkoaaGreatDoor
