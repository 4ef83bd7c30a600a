/- What outcome may be one of a question. No program in sight. -/
import Derived.Test.YtjnangiggnmkoaaGreatDoorUni5
namespace Go.Proofs.YtjnangiggnmkoaaGreatDoor
set_option linter.unusedVariables false
def calls (t : Trm) : Bool := match t with
  | [] => false
  | c :: _ => decide (c.k = 3)
def isQ (t : Trm) : Bool := trmOk t && calls t && decide (canon t = t)
theorem skip_map {f : Cell → Cell} (hf : ∀ c, ar (f c) = ar c) : ∀ (t : Trm) (m : Nat), skip m (t.map f) = skip m t
  | t, 0 => by simp [skip]
  | [], m + 1 => by simp [skip]
  | c :: t, m + 1 => by rw [List.map_cons, skip, skip, hf, skip_map hf t]
theorem ar_shift (n : Int) (c : Cell) : ar (if c.k = 1 then { c with n := c.n + n } else c) = ar c := by
  split
  · rename_i h; unfold ar; dsimp only; rw [if_neg (by omega), if_neg (by omega)]
  · rfl
theorem shift_len (t : Trm) (n : Int) : (shift t n).length = t.length := by unfold shift; rw [List.length_map]
theorem canon_len (t : Trm) : (canon t).length = t.length := by unfold canon; rw [List.length_map]
theorem shift_ok {t : Trm} {n : Int} (h : trmOk t = true) (h0 : 0 ≤ n) (hv : ∀ c ∈ t, c.k = 1 → c.n + n ≤ 99999) : trmOk (shift t n) = true := by
  obtain ⟨h1, h2, h3⟩ := trmOk_iff.1 h
  refine trmOk_iff.2 ⟨?_, by rw [shift_len]; exact h2, ?_⟩
  · unfold Ms at *
    rw [shift_len]
    unfold shift
    rw [skip_map (ar_shift n)]; exact h1
  · rw [List.all_eq_true] at h3 ⊢
    intro c hc
    unfold shift at hc
    rw [List.mem_map] at hc
    obtain ⟨c', hc', rfl⟩ := hc
    have := h3 c' hc'
    split
    · rename_i hk
      obtain ⟨k1, k2, k3⟩ := cellOk_var this hk
      unfold cellOk
      dsimp only
      rw [if_pos hk]
      have := hv c' hc' hk
      simp only [Bool.and_eq_true, decide_eq_true_eq]
      exact ⟨⟨by omega, by omega⟩, by rw [k1]; rfl⟩
    · exact this
theorem isQ_ok {t : Trm} (h : isQ t = true) : trmOk t = true ∧ canon t = t ∧ calls t = true := by
  unfold isQ at h
  simp only [Bool.and_eq_true, decide_eq_true_eq] at h
  exact ⟨h.1.1, h.2, h.1.2⟩
/-- The variables of what is numbered by its places are few. -/
theorem canon_small {t : Trm} (h : canon t = t) : ∀ c ∈ t, c.k = 1 → c.n < t.length := fun c hc hk => by
  rw [← h] at hc
  unfold canon at hc
  rw [List.mem_map] at hc
  obtain ⟨c', hc', rfl⟩ := hc
  split at hk
  · rename_i hk'
    rw [if_pos hk']
    have := (place_ge (free t) c'.n).2
    have := free_len t
    dsimp only
    omega
  · rename_i hk'; exact absurd hk hk'
/-- Whether an outcome may be one of a question. -/
noncomputable def outOk (top : Trm) (st : Int) (t : Trm) : Bool :=
  if isQ top = false then false
  else if 3 ≤ st ∧ st ≤ 5 then t.isEmpty
  else if st ≠ 2 then false
  else if trmOk t = false then false
  else if canon t ≠ t then false
  else (uni [] [(t, shift top t.length)]).isSome
theorem shiftQ_ok {top : Trm} {n : Nat} (h : isQ top = true) (hn : n ≤ 40) : trmOk (shift top n) = true := by
  obtain ⟨h1, h2, -⟩ := isQ_ok h
  have := (trmOk_iff.1 h1).2.1
  refine shift_ok h1 (by omega) (fun c hc hk => ?_)
  have := canon_small h2 c hc hk
  omega
theorem vars_ok {t : Trm} (h : trmOk t = true) : ∀ x ∈ vars t, 0 ≤ x ∧ x ≤ 99999 := fun x hx => by
  unfold vars at hx
  simp only [List.mem_map, List.mem_filter, decide_eq_true_eq] at hx
  obtain ⟨c, ⟨h1, h2⟩, rfl⟩ := hx
  exact (cellOk_var (List.all_eq_true.1 (trmOk_iff.1 h).2.2 c h1) h2).2
theorem vars_len (t : Trm) : (vars t).length ≤ t.length := by unfold vars; rw [List.length_map]; exact List.length_filter_le _ _
end Go.Proofs.YtjnangiggnmkoaaGreatDoor
