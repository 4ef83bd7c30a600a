/- The plain model of terms: places, trees of places, what a term is, its arguments, its variables. No program in sight. -/
namespace Go.Proofs.YtjnangiggnmkoaaGreatDoor
structure Cell where
  k : Int
  n : Int
  s : ByteArray
deriving DecidableEq
instance : Inhabited Cell := ⟨⟨0, 0, ByteArray.empty⟩⟩
abbrev Trm := List Cell

def lower (b : UInt8) : Bool := decide (97 ≤ b.toNat) && decide (b.toNat ≤ 122)
def nameOk (s : ByteArray) : Bool := decide (1 ≤ s.size) && decide (s.size ≤ 8) && s.data.toList.all lower && !(s.data.toList == [97, 110, 100])
def cellOk (c : Cell) : Bool :=
  if c.k = 1 then decide (0 ≤ c.n) && decide (c.n ≤ 99999) && c.s.data.toList.isEmpty
  else if c.k = 2 then decide (-9999 ≤ c.n) && decide (c.n ≤ 9999) && c.s.data.toList.isEmpty
  else if c.k = 3 then decide (0 ≤ c.n) && decide (c.n ≤ 3) && nameOk c.s
  else false
def ar (c : Cell) : Int := if c.k = 3 then c.n else 0
/-- How many places m terms, one behind the other, take at the beginning of some. -/
def skip : Nat → Trm → Option Nat
  | 0, _ => some 0
  | _ + 1, [] => none
  | m + 1, c :: t => (skip (m + (ar c).toNat) t).map (· + 1)
def sizeOf' (t : Trm) : Nat := (skip 1 t).getD (t.length + 1)
def trmOk (t : Trm) : Bool := decide (1 ≤ t.length) && decide (t.length ≤ 40) && t.all cellOk && decide (skip 1 t = some t.length)

theorem ar_of_ok {c : Cell} (h : cellOk c = true) : 0 ≤ ar c ∧ ar c ≤ 3 := by
  unfold cellOk at h; unfold ar
  split at h
  · rw [if_neg (by omega)]; omega
  · split at h
    · rw [if_neg (by omega)]; omega
    · split at h
      · rename_i h3; rw [if_pos h3]; simp at h; omega
      · simp at h
theorem skip_le : ∀ (t : Trm) (m k : Nat), skip m t = some k → k ≤ t.length
  | t, 0, k, h => by simp [skip] at h; omega
  | [], m + 1, k, h => by simp [skip] at h
  | c :: t, m + 1, k, h => by
    simp only [skip, Option.map_eq_some_iff] at h
    obtain ⟨j, hj, rfl⟩ := h
    have := skip_le t _ _ hj
    simp; omega
theorem skip_ge : ∀ (t : Trm) (m k : Nat), skip m t = some k → m ≤ k
  | t, 0, k, h => by omega
  | [], m + 1, k, h => by simp [skip] at h
  | c :: t, m + 1, k, h => by
    simp only [skip, Option.map_eq_some_iff] at h
    obtain ⟨j, hj, rfl⟩ := h
    have := skip_ge t _ _ hj
    omega
end Go.Proofs.YtjnangiggnmkoaaGreatDoor
