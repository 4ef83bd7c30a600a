/- The plain model of texts: words between blanks, decimal numerals. No program in sight. -/
import Derived.Lib.Split
import Derived.Lib.AtoiTie
import Derived.Lib.ItoaMem
namespace Go.Proofs.YtjnangiggnmkoaaGreatDoor
abbrev Bs := List UInt8
def L (s : ByteArray) : Bs := s.data.toList
def B (l : Bs) : ByteArray := ⟨l.toArray⟩
theorem L_B (l : Bs) : L (B l) = l := rfl
theorem B_L (s : ByteArray) : B (L s) = s := rfl
theorem L_inj {s t : ByteArray} (h : L s = L t) : s = t := by rw [← B_L s, ← B_L t, h]
theorem L_append (s t : ByteArray) : L (s ++ t) = L s ++ L t := by
  show (s ++ t).data.toList = s.data.toList ++ t.data.toList
  rw [ByteArray.data_append, Array.toList_append]
theorem L_length (s : ByteArray) : (L s).length = s.size := by
  show s.data.toList.length = s.data.size
  rw [Array.length_toList]
/-- What stands ahead of the first word. -/
def pre (cur : Bs) : List Bs → List Bs
  | [] => [cur]
  | h :: t => (cur ++ h) :: t
def splitSp : Bs → List Bs
  | [] => [[]]
  | c :: r => if c = 32 then [] :: splitSp r else pre [c] (splitSp r)
theorem splitSp_ne (l : Bs) : splitSp l ≠ [] := by
  cases l with
  | nil => simp [splitSp]
  | cons c r =>
    unfold splitSp; split
    · simp
    · cases splitSp r <;> simp [pre]
theorem pre_pre (a b : Bs) (X : List Bs) : pre a (pre b X) = pre (a ++ b) X := by cases X <;> simp [pre]
theorem pre_nil {X : List Bs} (h : X ≠ []) : pre [] X = X := by cases X with
  | nil => exact absurd rfl h
  | cons x X => simp [pre]
/-- Words, with a blank between two. -/
def joinSp : List Bs → Bs
  | [] => []
  | [w] => w
  | w :: v :: ws => w ++ 32 :: joinSp (v :: ws)
theorem join_pre (c : UInt8) : ∀ (X : List Bs), X ≠ [] → joinSp (pre [c] X) = c :: joinSp X
  | [], h => absurd rfl h
  | [x], _ => by simp [pre, joinSp]
  | x :: y :: X, _ => by simp [pre, joinSp]
theorem join_split : ∀ (l : Bs), joinSp (splitSp l) = l
  | [] => rfl
  | c :: r => by
    unfold splitSp; split
    · rename_i h
      subst h
      have ih := join_split r
      cases hs : splitSp r with
      | nil => exact absurd hs (splitSp_ne r)
      | cons x X => rw [hs] at ih; simp [joinSp, ih]
    · rw [join_pre c _ (splitSp_ne r), join_split r]
theorem split_word : ∀ (w : Bs), (32 : UInt8) ∉ w → splitSp w = [w]
  | [], _ => rfl
  | c :: r, h => by
    rw [List.mem_cons, not_or] at h
    unfold splitSp
    rw [if_neg (fun e => h.1 e.symm), split_word r h.2]; rfl
theorem split_app : ∀ (w r : Bs), (32 : UInt8) ∉ w → splitSp (w ++ 32 :: r) = w :: splitSp r
  | [], r, _ => by simp [splitSp]
  | c :: w, r, h => by
    rw [List.mem_cons, not_or] at h
    rw [List.cons_append, splitSp, if_neg (fun e => h.1 e.symm), split_app w r h.2]; rfl

/-! numerals -/
def isDig (b : UInt8) : Bool := decide (48 ≤ b.toNat) && decide (b.toNat ≤ 57)
def valF (n : Nat) (l : Bs) : Nat := l.foldl (fun n b => n * 10 + (b.toNat - 48)) n
def val (l : Bs) : Nat := valF 0 l
theorem valF_app (n : Nat) (a b : Bs) : valF n (a ++ b) = valF (valF n a) b := by simp [valF, List.foldl_append]
theorem val_dec (u : Nat) : val (Lib.decDigits u) = u := by
  induction u using Nat.strongRecOn with
  | _ u ih =>
    rw [Lib.decDigits]
    split
    · rename_i h
      simp [val, valF, UInt8.toNat_ofNat']; omega
    · rename_i h
      have := ih (u / 10) (by omega)
      unfold val at this ⊢
      rw [valF_app, this]
      simp [valF, UInt8.toNat_ofNat']; omega
theorem dec_dig (u : Nat) : (Lib.decDigits u).all isDig = true := by
  induction u using Nat.strongRecOn with
  | _ u ih =>
    rw [Lib.decDigits]
    split
    · rename_i h
      simp [isDig, UInt8.toNat_ofNat']; omega
    · rename_i h
      rw [List.all_append, ih (u / 10) (by omega)]
      simp [isDig, UInt8.toNat_ofNat']; omega
theorem dec_ne (u : Nat) : Lib.decDigits u ≠ [] := by
  rw [Lib.decDigits]; split <;> simp
theorem dec_len5 (u : Nat) : (Lib.decDigits u).length ≤ 5 ↔ u < 100000 := by
  rw [Lib.decDigits_length]
  have h1 := Lib.lt_pow_nDigits u
  constructor
  · intro h
    exact Nat.lt_of_lt_of_le h1 (Nat.le_trans (Nat.pow_le_pow_right (by omega) h) (by decide))
  · intro h
    rcases Nat.lt_or_ge 5 (Lib.nDigits u) with h5 | h5
    · exfalso
      have h6 : ∀ (u k : Nat), u < 10 ^ (k + 1) → Lib.nDigits u ≤ k + 1 := by
        intro u
        induction u using Nat.strongRecOn with
        | _ u ih =>
          intro k hk
          by_cases hu : u < 10
          · rw [Lib.nDigits_small hu]; omega
          · rw [Lib.nDigits_big hu]
            cases k with
            | zero => simp at hk; omega
            | succ k =>
              have := ih (u / 10) (by omega) k (by rw [Nat.pow_succ] at hk; omega)
              omega
      have := h6 u 4 (by simpa using h)
      omega
    · exact h5
theorem dec_no32 (u : Nat) : (32 : UInt8) ∉ Lib.decDigits u := fun h => by
  have := List.all_eq_true.1 (dec_dig u) _ h
  simp [isDig] at this
/-- A word that is a numeral of one to five digits, without needless noughts. -/
def numOf (w : Bs) : Option Nat := if w.length ≤ 5 ∧ Lib.decDigits (val w) = w then some (val w) else none
theorem numOf_dec {w : Bs} {n : Nat} : numOf w = some n ↔ w = Lib.decDigits n ∧ n < 100000 := by
  unfold numOf
  constructor
  · intro h
    split at h
    · rename_i hc
      obtain rfl := Option.some.inj h
      exact ⟨hc.2.symm, (dec_len5 _).1 (by rw [hc.2]; exact hc.1)⟩
    · cases h
  · rintro ⟨rfl, h⟩
    rw [if_pos ⟨(dec_len5 n).2 h, by rw [val_dec]⟩, val_dec]
/-! atoi of a numeral -/
theorem decFrom_val : ∀ (l : Bs) (acc : Nat), l.all isDig = true → Lib.decFrom acc l = some (valF acc l)
  | [], acc, _ => rfl
  | c :: r, acc, h => by
    simp only [List.all_cons, Bool.and_eq_true] at h
    have hc := h.1
    simp only [isDig, Bool.and_eq_true, decide_eq_true_eq] at hc
    have hd : Lib.digitVal c = some (c.toNat - 48) := by simp only [Lib.digitVal]; simp; omega
    rw [Lib.decFrom, hd]
    exact decFrom_val r (acc * 10 + (c.toNat - 48)) h.2
end Go.Proofs.YtjnangiggnmkoaaGreatDoor
