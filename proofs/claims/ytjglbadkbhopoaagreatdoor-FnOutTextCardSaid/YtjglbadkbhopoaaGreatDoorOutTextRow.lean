/- FnOutText: an outcome has a text, and two outcomes that differ have two, for every two codes of draws: the row and its tied card. Condition: none beyond the row's own (the listed variables, tied to the program's text). -/
import Derived.Test.YtjglbadkbhopoaaGreatDoorW10
import Derived.Test.YtjglbadkbhopoaaGreatDoorW24
import Derived.Test.YtjglbadkbhopoaaGreatDoorW09
import Derived.Deep.DeepHandedRow
import Derived.Deep.DeepWitnessRowRef
import Derived.Lib.LaidTab
import Derived.Stop.LaidErr
import Derived.LaidMore
import Derived.Lib.LaidU8
import Derived.OpenShut
import Derived.ShutString
import Derived.Test.YtjglbadkbhopoaaGreatDoorRows
import Derived.ChangeOld
import Derived.SizedLaws
import Derived.ProofKit
import Derived.Test.YtjglbadkbhopoaaGreatDoorW01
import Derived.SevenTiedAt
import Derived.Test.YtjglbadkbhopoaaGreatDoorTie
import Derived.Test.YtjglbadkbhopoaaGreatDoorCards
namespace Go.Proofs.YtjglbadkbhopoaaGreatDoor
set_option linter.unusedVariables false
def sepB (b : UInt8) : Bool := b == 40 || b == 41 || b == 44
def StopW (r : Bs) : Prop := r = [] ∨ ∃ b r', r = b :: r' ∧ sepB b = true
def Stops (r : Bs) : Prop := r = [] ∨ ∃ b r', r = b :: r' ∧ (b = 41 ∨ b = 44)
theorem Stops.w {r : Bs} (h : Stops r) : StopW r := h.imp id (fun ⟨b, r', e, h⟩ => ⟨b, r', e, by rcases h with rfl | rfl <;> rfl⟩)
theorem word_split : ∀ {w w' r r' : Bs}, w.all (fun b => !sepB b) = true → w'.all (fun b => !sepB b) = true → StopW r → StopW r' → w ++ r = w' ++ r' → w = w' ∧ r = r'
  | [], [], r, r', _, _, _, _, e => ⟨rfl, e⟩
  | [], b :: w', r, r', _, h', hr, _, e => by
    rw [List.nil_append, List.cons_append] at e
    rw [List.all_cons, Bool.and_eq_true] at h'
    rcases hr with rfl | ⟨x, y, rfl, hx⟩
    · cases e
    · injection e with e1 e2
      rw [e1] at hx
      rw [hx] at h'
      cases h'.1
  | b :: w, [], r, r', h, _, _, hr, e => by
    rw [List.nil_append, List.cons_append] at e
    rw [List.all_cons, Bool.and_eq_true] at h
    rcases hr with rfl | ⟨x, y, rfl, hx⟩
    · cases e
    · injection e with e1 e2
      rw [← e1] at hx
      rw [hx] at h
      cases h.1
  | b :: w, b' :: w', r, r', h, h', hr, hr', e => by
    rw [List.cons_append, List.cons_append] at e
    injection e with e1 e2
    subst e1
    rw [List.all_cons, Bool.and_eq_true] at h h'
    obtain ⟨rfl, rfl⟩ := word_split h.2 h'.2 hr hr' e2
    exact ⟨rfl, rfl⟩
theorem dig_nosep {b : UInt8} (h : isDig b = true) : sepB b = false := by
  unfold isDig at h
  simp only [Bool.and_eq_true, decide_eq_true_eq] at h
  unfold sepB
  simp only [Bool.or_eq_false_iff, beq_eq_false_iff_ne]
  refine ⟨⟨?_, ?_⟩, ?_⟩ <;> (rintro rfl; simp at h)
theorem dec_nosep (u : Nat) : (Lib.decDigits u).all (fun b => !sepB b) = true := List.all_eq_true.2 fun b hb => by rw [dig_nosep (List.all_eq_true.1 (dec_dig u) b hb)]; rfl
theorem dec_inj {u v : Nat} (h : Lib.decDigits u = Lib.decDigits v) : u = v := by have := val_dec u; rw [h, val_dec] at this; exact this.symm
theorem dec_hd (u : Nat) : ∃ b r, Lib.decDigits u = b :: r ∧ isDig b = true := by
  cases h : Lib.decDigits u with
  | nil => exact absurd h (dec_ne u)
  | cons b r => exact ⟨b, r, rfl, List.all_eq_true.1 (dec_dig u) b (by rw [h]; exact List.mem_cons_self)⟩
theorem dig_le {b : UInt8} (h : isDig b = true) : 48 ≤ b.toNat ∧ b.toNat ≤ 57 := by
  unfold isDig at h
  simpa using h
theorem itoa_nosep (n : Int) : (Lib.itoa n).all (fun b => !sepB b) = true := by
  unfold Lib.itoa
  split
  · rw [List.all_cons, dec_nosep]; rfl
  · exact dec_nosep _
theorem itoa_hd (n : Int) : ∃ b r, Lib.itoa n = b :: r ∧ b.toNat ≤ 57 := by
  unfold Lib.itoa
  split
  · exact ⟨_, _, rfl, by decide⟩
  · obtain ⟨b, r, h, hb⟩ := dec_hd n.toNat
    exact ⟨b, r, h, (dig_le hb).2⟩
theorem itoa_inj {n m : Int} (h : Lib.itoa n = Lib.itoa m) : n = m := by
  have no : ∀ (u v : Nat), (45 : UInt8) :: Lib.decDigits u ≠ Lib.decDigits v := fun u v h => by
    obtain ⟨b, r, hd, hb⟩ := dec_hd v
    rw [hd] at h
    injection h with h1 _
    subst h1
    cases hb
  unfold Lib.itoa at h
  split at h
  · split at h
    · injection h with _ h
      have := dec_inj h
      omega
    · exact absurd h (no _ _)
  · split at h
    · exact absurd h.symm (no _ _)
    · have := dec_inj h
      omega
theorem name_bs {s : ByteArray} (h : nameOk s = true) : (∀ b ∈ L s, 97 ≤ b.toNat ∧ b.toNat ≤ 122) ∧ L s ≠ [] := by
  unfold nameOk at h
  simp only [Bool.and_eq_true, decide_eq_true_eq] at h
  refine ⟨fun b hb => ?_, fun e => ?_⟩
  · have := List.all_eq_true.1 h.1.2 b hb
    unfold lower at this
    simpa using this
  · have := L_length s
    rw [e] at this
    have h1 := h.1.1.1
    simp at this; omega
theorem cell_parts {c : Cell} (h : cellOk c = true) : (c.k = 1 ∧ L c.s = [] ∧ 0 ≤ c.n) ∨ (c.k = 2 ∧ L c.s = []) ∨ (c.k = 3 ∧ nameOk c.s = true ∧ 0 ≤ c.n) := by
  unfold cellOk at h
  split at h
  · rename_i hk
    simp only [Bool.and_eq_true, decide_eq_true_eq] at h
    exact .inl ⟨hk, by unfold L; simpa using h.2, h.1.1⟩
  · split at h
    · rename_i hk
      simp only [Bool.and_eq_true, decide_eq_true_eq] at h
      exact .inr (.inl ⟨hk, by unfold L; simpa using h.2⟩)
    · split at h
      · rename_i hk
        simp only [Bool.and_eq_true, decide_eq_true_eq] at h
        exact .inr (.inr ⟨hk, h.2, h.1.1⟩)
      · cases h
theorem word_nosep {c : Cell} (h : cellOk c = true) : (wordB c).all (fun b => !sepB b) = true := by
  unfold wordB
  rcases cell_parts h with ⟨hk, _⟩ | ⟨hk, _⟩ | ⟨hk, hn, _⟩
  · rw [if_pos hk, List.all_cons, itoa_nosep]; rfl
  · rw [if_neg (by omega), if_pos hk]; exact itoa_nosep _
  · rw [if_neg (by omega), if_neg (by omega)]
    refine List.all_eq_true.2 fun b hb => ?_
    have := (name_bs hn).1 b hb
    unfold sepB
    simp only [Bool.not_eq_true', Bool.or_eq_false_iff, beq_eq_false_iff_ne]
    refine ⟨⟨?_, ?_⟩, ?_⟩ <;> (rintro rfl; simp at this)
theorem word_inj {c d : Cell} (hc : cellOk c = true) (hd : cellOk d = true) (h : wordB c = wordB d) : c.k = d.k ∧ (c.k ≠ 3 → c.n = d.n) ∧ c.s = d.s := by
  have x1 : ∀ n m : Int, (88 : UInt8) :: Lib.itoa n ≠ Lib.itoa m := fun n m e => by
    obtain ⟨b, r, hb, hl⟩ := itoa_hd m
    rw [hb] at e
    injection e with e1 _
    subst e1
    exact absurd hl (by decide)
  have x2 : ∀ (n : Int) (s : ByteArray), nameOk s = true → (88 : UInt8) :: Lib.itoa n ≠ L s := fun n s hs e => by
    have := (name_bs hs).1 88 (by rw [← e]; exact List.mem_cons_self)
    exact absurd this.1 (by decide)
  have x3 : ∀ (n : Int) (s : ByteArray), nameOk s = true → Lib.itoa n ≠ L s := fun n s hs e => by
    obtain ⟨b, r, hb, hl⟩ := itoa_hd n
    have := (name_bs hs).1 b (by rw [← e, hb]; exact List.mem_cons_self)
    omega
  have nil : ∀ {c d : Cell}, L c.s = [] → L d.s = [] → c.s = d.s := fun h1 h2 => L_inj (h1.trans h2.symm)
  unfold wordB at h
  rcases cell_parts hc with ⟨hk, s1, n1⟩ | ⟨hk, s1⟩ | ⟨hk, s1, n1⟩ <;> rcases cell_parts hd with ⟨hk', s2, n2⟩ | ⟨hk', s2⟩ | ⟨hk', s2, n2⟩
  · rw [if_pos hk, if_pos hk'] at h
    injection h with _ h
    exact ⟨by omega, fun _ => itoa_inj h, nil s1 s2⟩
  · rw [if_pos hk, if_neg (by omega), if_pos hk'] at h
    exact absurd h (x1 _ _)
  · rw [if_pos hk, if_neg (by omega), if_neg (by omega)] at h
    exact absurd h (x2 _ _ s2)
  · rw [if_neg (by omega), if_pos hk, if_pos hk'] at h
    exact absurd h.symm (x1 _ _)
  · rw [if_neg (by omega), if_pos hk, if_neg (by omega), if_pos hk'] at h
    exact ⟨by omega, fun _ => itoa_inj h, nil s1 s2⟩
  · rw [if_neg (by omega), if_pos hk, if_neg (by omega), if_neg (by omega)] at h
    exact absurd h (x3 _ _ s2)
  · rw [if_neg (by omega), if_neg (by omega), if_pos hk'] at h
    exact absurd h.symm (x2 _ _ s1)
  · rw [if_neg (by omega), if_neg (by omega), if_neg (by omega), if_pos hk'] at h
    exact absurd h.symm (x3 _ _ s1)
  · rw [if_neg (by omega), if_neg (by omega), if_neg (by omega), if_neg (by omega)] at h
    exact ⟨by omega, fun h3 => absurd hk h3, L_inj h⟩
theorem stops_cons {b : UInt8} {r : Bs} (h : b = 41 ∨ b = 44) : Stops (b :: r) := .inr ⟨b, r, rfl, h⟩
theorem join_inj {r r' : Bs} : ∀ {as1 bs : List Trm}, (∀ a ∈ as1, ∀ b ∈ bs, ∀ x x' : Bs, Stops x → Stops x' → txt a ++ x = txt b ++ x' → a = b ∧ x = x') → as1 ≠ [] → bs ≠ [] → joinT as1 ++ 41 :: r = joinT bs ++ 41 :: r' → as1 = bs ∧ r = r'
  | [], _, _, h, _, _ => absurd rfl h
  | _ :: _, [], _, _, h, _ => absurd rfl h
  | [a], [b], H, _, _, e => by
    obtain ⟨rfl, h⟩ := H a (by simp) b (by simp) _ _ (stops_cons (by decide)) (stops_cons (by decide)) e
    injection h with _ h
    exact ⟨rfl, h⟩
  | [a], b :: b2 :: bs, H, _, _, e => by
    rw [joinT, joinT, List.append_assoc] at e
    obtain ⟨_, h⟩ := H a (by simp) b (by simp) _ _ (stops_cons (by decide)) (stops_cons (by decide)) e
    injection h with h _
    cases h
  | a :: a2 :: as1, [b], H, _, _, e => by
    rw [joinT, joinT, List.append_assoc] at e
    obtain ⟨_, h⟩ := H a (by simp) b (by simp) _ _ (stops_cons (by decide)) (stops_cons (by decide)) e
    injection h with h _
    cases h
  | a :: a2 :: as1, b :: b2 :: bs, H, _, _, e => by
    rw [joinT, joinT, List.append_assoc, List.append_assoc] at e
    obtain ⟨rfl, h⟩ := H a (by simp) b (by simp) _ _ (stops_cons (by decide)) (stops_cons (by decide)) e
    injection h with _ h
    obtain ⟨h1, h2⟩ := join_inj (as1 := a2 :: as1) (bs := b2 :: bs) (fun x hx y hy => H x (List.mem_cons_of_mem _ hx) y (List.mem_cons_of_mem _ hy)) (by simp) (by simp) h
    exact ⟨by rw [h1], h2⟩
theorem arg_len {m : Nat} {xs x : Trm} (h : Ms m xs) (hx : x ∈ argsOf m xs) : x.length ≤ xs.length := by
  have := (argsOf_ok h).1
  have h2 : (argsOf m xs).flatten.length = xs.length := by rw [this]
  have : ∀ {l : List Trm}, x ∈ l → x.length ≤ l.flatten.length := by
    intro l
    induction l with
    | nil => intro h; cases h
    | cons y l ih =>
      intro h
      rw [List.flatten_cons, List.length_append]
      rcases List.mem_cons.1 h with rfl | h
      · omega
      · have := ih h; omega
  have := this hx
  omega
theorem txt_inj : ∀ (n : Nat) {t u : Trm}, t.length ≤ n → Ms 1 t → Ms 1 u → t.all cellOk = true → u.all cellOk = true → ∀ x x' : Bs, Stops x → Stops x' → txt t ++ x = txt u ++ x' → t = u ∧ x = x'
  | 0, t, u, hn, ht, _, _, _, _, _, _, _, _ => by
    have := Ms_pos (m := 0) ht
    omega
  | n + 1, [], _, _, h, _, _, _, _, _, _, _, _ => by rw [Ms_nil] at h; omega
  | n + 1, _ :: _, [], _, _, h, _, _, _, _, _, _, _ => by rw [Ms_nil] at h; omega
  | n + 1, c :: t, d :: u, hn, ht, hu, at', au, x, x', sx, sx', e => by
    have ht' : Ms (ar c).toNat t := by rw [show 1 = 0 + 1 by rfl, Ms_cons, Nat.zero_add] at ht; exact ht
    have hu' : Ms (ar d).toNat u := by rw [show 1 = 0 + 1 by rfl, Ms_cons, Nat.zero_add] at hu; exact hu
    rw [List.all_cons, Bool.and_eq_true] at at' au
    rw [txt_cons ht, txt_cons hu, List.append_assoc, List.append_assoc] at e
    have st : ∀ {c : Cell} {t : Trm} {x : Bs}, Stops x → StopW ((if 0 < (ar c).toNat then 40 :: joinT (argsOf (ar c).toNat t) ++ [41] else []) ++ x) := fun {c t x} hx => by
      split
      · exact .inr ⟨40, _, rfl, rfl⟩
      · exact hx.w
    obtain ⟨e1, e2⟩ := word_split (word_nosep at'.1) (word_nosep au.1) (st sx) (st sx') e
    obtain ⟨k1, k2, k3⟩ := word_inj at'.1 au.1 e1
    have zero : ∀ {c : Cell}, cellOk c = true → ¬ 0 < (ar c).toNat → c.k = 3 → c.n = 0 := fun {c} h h0 hk => by
      unfold ar at h0
      rw [if_pos hk] at h0
      rcases cell_parts h with ⟨a, _⟩ | ⟨a, _⟩ | ⟨a, _, b⟩ <;> omega
    have cellEq : c.n = d.n → c = d := fun h => by cases c; cases d; simp only at k1 k3 h; subst k1; subst k3; subst h; rfl
    by_cases hc : 0 < (ar c).toNat
    · have hck : c.k = 3 := by
        apply Decidable.byContradiction
        intro h
        unfold ar at hc
        rw [if_neg h] at hc; simp at hc
      rw [if_pos hc] at e2
      by_cases hd : 0 < (ar d).toNat
      · rw [if_pos hd] at e2
        simp only [List.cons_append, List.append_assoc, List.nil_append] at e2
        injection e2 with _ e2
        have nn : ∀ {m : Nat} {t : Trm}, 0 < m → argsOf m t ≠ [] := fun {m t} h h0 => by
          have := argsOf_len m t
          rw [h0] at this; simp at this; omega
        obtain ⟨f1, f2⟩ := join_inj (as1 := argsOf (ar c).toNat t) (bs := argsOf (ar d).toNat u) (fun a ha b hb y y' sy sy' hy => by
          obtain ⟨a1, a2⟩ := args_mem ht' ha
          obtain ⟨b1, b2⟩ := args_mem hu' hb
          refine txt_inj n ?_ a1 b1 ?_ ?_ y y' sy sy' hy
          · have := arg_len ht' ha; simp at hn; omega
          · exact List.all_eq_true.2 fun z hz => List.all_eq_true.1 at'.2 z (a2 z hz)
          · exact List.all_eq_true.2 fun z hz => List.all_eq_true.1 au.2 z (b2 z hz)) (nn hc) (nn hd) e2
        have hlen : (ar c).toNat = (ar d).toNat := by rw [← argsOf_len (ar c).toNat t, f1, argsOf_len]
        have hn' : c.n = d.n := by
          unfold ar at hlen
          rw [if_pos hck, if_pos (by omega)] at hlen
          rcases cell_parts at'.1 with ⟨a, _⟩ | ⟨a, _⟩ | ⟨a, _, b⟩ <;> rcases cell_parts au.1 with ⟨a', _⟩ | ⟨a', _⟩ | ⟨a', _, b'⟩ <;> omega
        have ht2 := (argsOf_ok ht').1
        have hu2 := (argsOf_ok hu').1
        rw [f1, hu2] at ht2
        exact ⟨by rw [cellEq hn', ht2], f2⟩
      · rw [if_neg hd, List.nil_append] at e2
        exfalso
        rcases sx' with rfl | ⟨b, r', rfl, hb⟩
        · cases e2
        · injection e2 with e2 _
          subst e2
          revert hb; decide
    · rw [if_neg hc, List.nil_append] at e2
      have hcz : (ar c).toNat = 0 := by omega
      by_cases hd : 0 < (ar d).toNat
      · rw [if_pos hd] at e2
        exfalso
        rcases sx with rfl | ⟨b, r', rfl, hb⟩
        · cases e2
        · injection e2 with e2 _
          subst e2
          revert hb; decide
      · rw [if_neg hd, List.nil_append] at e2
        have hdz : (ar d).toNat = 0 := by omega
        rw [hcz, Ms_zero] at ht'
        rw [hdz, Ms_zero] at hu'
        subst ht'
        subst hu'
        have hn' : c.n = d.n := by
          by_cases hk : c.k = 3
          · rw [zero at'.1 hc hk, zero au.1 hd (by omega)]
          · exact k2 hk
        exact ⟨by rw [cellEq hn'], e2⟩
theorem txt_one {t u : Trm} (ht : trmOk t = true) (hu : trmOk u = true) (h : txt t = txt u) : t = u := by
  obtain ⟨t1, _, t3⟩ := trmOk_iff.1 ht
  obtain ⟨u1, _, u3⟩ := trmOk_iff.1 hu
  exact (txt_inj t.length (Nat.le_refl _) t1 u1 t3 u3 [] [] (.inl rfl) (.inl rfl) (by rw [h])).1
end Go.Proofs.YtjglbadkbhopoaaGreatDoor
namespace Go.Proofs.YtjglbadkbhopoaaGreatDoor
open Go.RowKit
set_option maxRecDepth 100000
set_option maxHeartbeats 8000000
set_option linter.unusedVariables false
theorem quiet_pair {P : Program} {C : World → Prop} {K : Act → Prop} {a : Act} {o : Oper} {t : TypeId} {x : Operand} {g : Nat} {v0 v1 : Value} (ho : o.op = .load t x) (hx : a.eval x = .pointer (some ⟨g, 0, none⟩))
    (h1 : ∀ W v0 v1, W.cell? ⟨g, 0, none⟩ = some v0 → W.cell? ⟨g, 1, none⟩ = some v1 → (Instr.loadAt t (.pointer (some ⟨g, 0, none⟩))).run P W = .ok (.agg #[v0, v1]) W) (h2 : ∀ W, C W → W.cell? ⟨g, 0, none⟩ = some v0 ∧ W.cell? ⟨g, 1, none⟩ = some v1) (hk : K (a.put o.dst (.agg #[v0, v1]))) : o.quiet P a C K := quiet_load ho hx (fun W hW => h1 W _ _ (h2 W hW).1 (h2 W hW).2) hk
theorem outTxt_no {top t : Trm} {st : Int} (h : outOk top st t = false) : outTxt top st t = ⟨#[]⟩ := by unfold outTxt; rw [h]; rfl
theorem outOk_ans {top t : Trm} (h : outOk top 2 t = true) : trmOk t = true := by
  unfold outOk at h
  split at h
  · cases h
  · split at h
    · omega
    · split at h
      · cases h
      · split at h
        · cases h
        · rename_i h1; simpa using h1
theorem outOk_nil {top t : Trm} {st : Int} (h : outOk top st t = true) (hs : st ≠ 2) : t = [] := by
  unfold outOk at h
  split at h
  · cases h
  · split at h
    · exact List.isEmpty_iff.1 h
    · first
      | cases h
      | (rw [if_pos hs] at h; cases h)
theorem outTxt_ans {top t : Trm} (h : outOk top 2 t = true) : outTxt top 2 t = B (textOf t) := by unfold outTxt; rw [h]; rfl
theorem txt_ne {t : Trm} (h : trmOk t = true) : txt t ≠ [] := by
  intro e
  obtain ⟨h1, h2, h3⟩ := trmOk_iff.1 h
  cases t with
  | nil => rw [Ms_nil] at h1; omega
  | cons c r =>
    rw [txt_cons h1] at e
    have e1 := (List.append_eq_nil_iff.1 e).1
    rw [List.all_cons, Bool.and_eq_true] at h3
    unfold wordB at e1
    rcases cell_parts h3.1 with ⟨hk, _⟩ | ⟨hk, _⟩ | ⟨hk, hn, _⟩
    · rw [if_pos hk] at e1; cases e1
    · rw [if_neg (by omega), if_pos hk] at e1
      obtain ⟨b, r', hb, -⟩ := itoa_hd c.n
      rw [hb] at e1; cases e1
    · rw [if_neg (by omega), if_neg (by omega)] at e1
      exact (name_bs hn).2 e1
theorem outTxt_ne {top t : Trm} {st : Int} (h : outOk top st t = true) : (outTxt top st t).toList ≠ [] := by
  rcases outOk_st h with rfl | rfl | rfl | rfl
  · rw [outTxt_ans h]
    unfold textOf
    rw [if_pos (outOk_ans h), Lib.toList_data]
    exact txt_ne (outOk_ans h)
  · rw [show outTxt top 3 t = ⟨#[110, 111, 110, 101]⟩ by unfold outTxt; rw [h]; rfl, Lib.toList_data]; decide
  · rw [show outTxt top 4 t = ⟨#[116, 111, 111, 32, 98, 105, 103]⟩ by unfold outTxt; rw [h]; rfl, Lib.toList_data]; decide
  · rw [show outTxt top 5 t = ⟨#[119, 114, 111, 110, 103]⟩ by unfold outTxt; rw [h]; rfl, Lib.toList_data]; decide
theorem outTxt_eq {top t u : Trm} {st : Int} (h : outOk top st t = true) (h' : outOk top st u = true) : ((outTxt top st t).toList == (outTxt top st u).toList) = decide (t = u) := by
  by_cases e : t = u
  · subst e
    rw [decide_eq_true rfl]
    exact beq_iff_eq.2 rfl
  · rw [decide_eq_false e]
    refine beq_eq_false_iff_ne.2 (fun hh => e ?_)
    by_cases hs : st = 2
    · subst hs
      rw [outTxt_ans h, outTxt_ans h', Lib.toList_data, Lib.toList_data] at hh
      unfold textOf at hh
      rw [if_pos (outOk_ans h), if_pos (outOk_ans h')] at hh
      exact txt_one (outOk_ans h) (outOk_ans h') hh
    · rw [outOk_nil h hs, outOk_nil h' hs]
theorem lawTxt_c (w : World) (A A' : Option Addr) (n c n' c' : Nat) (bs bs' : List Nat) (h : Bytes w A n c bs) (h' : Bytes w A' n' c' bs') (hT : Tab w) :
    Calls Tryz.prog 3 #[.slice A n c, .slice A' n' c'] w fun e w' => e = .returned (.bool true) ∧ Below w.heap.size w w' := by
  have HT0 := Lib.hid hT
  have HD1 := Lib.hid (drawTxt_c w A n c bs h)
  have HD2 := Lib.hid (fun W (hb : Below w.heap.size w W) => drawTxt_c W A' n' c' bs' (h'.ext hb))
  clear h h' hT
  by_cases hbig : 1048576 < n
  · have e0 : decide ((1048576 : Int) < (n : Int)) = true := decide_eq_true (by omega)
    clear HD1 HD2
    go_enter Tryz.func3, Tryz.ntmps3
    go_wp2
    go_ret
    exact ⟨rfl, Below.refl _ _⟩
  have e0 : decide ((1048576 : Int) < (n : Int)) = false := decide_eq_false (by omega)
  by_cases hbig' : 1048576 < n'
  · have e1 : decide ((1048576 : Int) < (n' : Int)) = true := decide_eq_true (by omega)
    clear HD1 HD2 hbig
    go_enter Tryz.func3, Tryz.ntmps3
    go_wp2
    go_ret
    exact ⟨rfl, Below.refl _ _⟩
  have e1 : decide ((1048576 : Int) < (n' : Int)) = false := decide_eq_false (by omega)
  go_enter Tryz.func3, Tryz.ntmps3
  go_upto_region 4 with (first | (go_at_call 5; (with_reducible refine HD1.out.mono ?_); rintro e w1 ⟨tv, ov, top, t, st, rfl, ht, hf, ho, hg, hb'⟩; have HT1 := Lib.hid ht; have HO1 := Lib.hid ho; have HF := Lib.hid hf; have HG := Lib.hid hg; obtain ⟨TA, tn, rfl, -, -, -⟩ := ht; obtain ⟨OA, on, rfl, -, -, -⟩ := ho; have HB1 := Lib.hid (bel_alloc hb' (.cells #[.int .i64 st, .slice OA t.length on] 25)); have HX1 := Lib.hid (Bx.new w1 25 #[.int .i64 st, .slice OA t.length on]); have HTa := Lib.hid (Kd.S_alloc (.cells #[.int .i64 st, .slice OA t.length on] 25) HT1.out); have HOa := Lib.hid (Kd.S_alloc (.cells #[.int .i64 st, .slice OA t.length on] 25) HO1.out); clear hf hg hb') | fail)
  generalize w1.alloc (.cells #[.int .i64 st, .slice OA t.length on] 25) = w2 at *
  go_upto_region 5 with (first | (go_at_call 5; (with_reducible refine (HD2.out _ HB1.out).mono ?_); rintro e w3 ⟨yv, uv, top2, u, su, rfl, hy, -, hu, hg, hb'⟩; have HU3 := Lib.hid hu; have HH := Lib.hid hg; obtain ⟨YA, yn, rfl, -, -, -⟩ := hy; obtain ⟨UA, un, rfl, -, -, -⟩ := hu; have HB3 := Lib.hid (bel_alloc (bel_trans HB1.out hb') (.cells #[.int .i64 su, .slice UA u.length un] 25)); have HX3 := Lib.hid (Bx.alloc (Bx.below HX1.out hb') (.cells #[.int .i64 su, .slice UA u.length un] 25)); have HY3 := Lib.hid (Bx.new w3 25 #[.int .i64 su, .slice UA u.length un]); have HTb := Lib.hid (Kd.S_alloc (.cells #[.int .i64 su, .slice UA u.length un] 25) (Kd.S_ext hb' HTa.out)); have HOb := Lib.hid (Kd.S_alloc (.cells #[.int .i64 su, .slice UA u.length un] 25) (Kd.S_ext hb' HOa.out)); have HUb := Lib.hid (Kd.S_alloc (.cells #[.int .i64 su, .slice UA u.length un] 25) HU3.out); clear hg hb') | fail)
  generalize w3.alloc (.cells #[.int .i64 su, .slice UA u.length un] 25) = w4 at *
  clear HD1 HD2 HB1 HX1 HT1 HO1 HTa HOa HU3 e0 e1 hbig hbig'
  have x0 := fun W (hb : Below w4.heap.size w4 W) => cell_keep hb (Bx.at' HX3.out 0 (.int .i64 st) rfl)
  have x1 := fun W (hb : Below w4.heap.size w4 W) => cell_keep hb (Bx.at' HX3.out 1 (.slice OA t.length on) rfl)
  have y0 := fun W (hb : Below w4.heap.size w4 W) => cell_keep hb (Bx.at' HY3.out 0 (.int .i64 su) rfl)
  have y1 := fun W (hb : Below w4.heap.size w4 W) => cell_keep hb (Bx.at' HY3.out 1 (.slice UA u.length un) rfl)
  have HX := Lib.hid x0
  have HX' := Lib.hid x1
  have HY := Lib.hid y0
  have HY' := Lib.hid y1
  clear x0 x1 y0 y1
  have z0 := HX.out w4 (Below.refl _ _)
  have z1 := HX'.out w4 (Below.refl _ _)
  have HI := Lib.hid (fun W (hb : Below w4.heap.size w4 W) => outTxtI_c top _ st t _ W (Kd.S_ext hb HTb.out) (Kd.S_ext hb HOb.out) (fit_len HF.out) (fit_len HG.out) HF.out.2 HG.out.2 (HT0.out.ext (bel_trans HB3.out hb)))
  have HS := Lib.hid (fun W (hb : Below w4.heap.size w4 W) => outTxtS_c top _ st t _ W (Kd.S_ext hb HTb.out) (Kd.S_ext hb HOb.out) (fit_len HF.out) (fit_len HG.out))
  have HK := Lib.hid (fun W (hb : Below w4.heap.size w4 W) => outOkS_c top _ st t _ W (Kd.S_ext hb HTb.out) (Kd.S_ext hb HOb.out) (fit_len HF.out) (fit_len HG.out))
  have HI2 := Lib.hid (fun W (hb : Below w4.heap.size w4 W) => outTxtI_c top _ su u _ W (Kd.S_ext hb HTb.out) (Kd.S_ext hb HUb.out) (fit_len HF.out) (fit_len HH.out) HF.out.2 HH.out.2 (HT0.out.ext (bel_trans HB3.out hb)))
  have HK2 := Lib.hid (fun W (hb : Below w4.heap.size w4 W) => outOkS_c top _ su u _ W (Kd.S_ext hb HTb.out) (Kd.S_ext hb HUb.out) (fit_len HF.out) (fit_len HH.out))
  have HTm := Lib.hid (fun W (hb : Below w4.heap.size w4 W) => textIm_c t _ W (Kd.S_ext hb HOb.out) (fit_len HG.out) HG.out.2 (HT0.out.ext (bel_trans HB3.out hb)))
  have HC := Lib.hid (fun W (hb : Below w4.heap.size w4 W) => caOut_c st su t u _ _ W (Kd.S_ext hb HOb.out) (Kd.S_ext hb HUb.out) (fit_len HG.out) (fit_len HH.out))
  have HP1 := Lib.hid (@outTxt_no top t st)
  have HP2 := Lib.hid (@outTxt_ne top t st)
  have HP3 := Lib.hid (@outTxt_eq top t u st)
  have HP4 := Lib.hid (fun (e : st = 2) (h : outOk top st t = true) => (show B (textOf t) = outTxt top st t by subst e; exact (outTxt_ans h).symm))
  obtain ⟨S, hS⟩ : ∃ S, outTxt top st t = S := ⟨_, rfl⟩
  obtain ⟨S2, hS2⟩ : ∃ S2, outTxt top su u = S2 := ⟨_, rfl⟩
  obtain ⟨q, hq⟩ : ∃ q, outOk top st t = q := ⟨_, rfl⟩
  obtain ⟨q2, hq2⟩ : ∃ q2, outOk top su u = q2 := ⟨_, rfl⟩
  rw [hS] at HI HS HP1 HP2 HP3 HP4
  rw [hS2] at HI2
  rw [hq] at HK HP1 HP2 HP3 HP4
  rw [hq2] at HK2
  have HS2 := Lib.hid hS2
  have HQ2 := Lib.hid hq2
  obtain ⟨bv, hbv⟩ : ∃ bv, (decide (st = su) && decide (t = u)) = bv := ⟨_, rfl⟩
  obtain ⟨sv, hsv⟩ : ∃ sv, (S.toList == S2.toList) = sv := ⟨_, rfl⟩
  have hlaw : q = true → q2 = true → bv ≠ sv → (st != su) = true := by
    intro hq1 hq2' hne
    by_cases e : st = su
    · exfalso
      subst e
      apply hne
      rw [← hbv, ← hsv, decide_eq_true rfl, Bool.true_and, ← HS2.out]
      exact (HP3.out hq1 (HQ2.out.trans hq2')).symm
    · exact bne_iff_ne.2 e
  have HLw := Lib.hid hlaw
  rw [hbv] at HC
  clear hbv hlaw
  clear hS hS2
  cases q with
  | false =>
    obtain rfl := HP1.out rfl
    clear hq hq2
    go_wp2_with (first | (go_at_call 6; (with_reducible refine (HI.out _ (Below.refl _ _)).mono ?_); rintro e w5 ⟨rfl, hb5⟩; have HB5 := Lib.hid hb5; have z2 := HX.out w5 hb5; have z3 := HX'.out w5 hb5; clear hb5) | (go_at_call 7; (with_reducible refine (HS.out _ HB5.out).mono ?_); rintro e w6 ⟨rfl, hb'⟩; have HB6 := Lib.hid (bel_trans HB5.out hb'); have z4 := HX.out w6 HB6.out; have z5 := HX'.out w6 HB6.out; clear hb') | (go_at_call 8; (with_reducible refine (HK.out _ HB6.out).mono ?_); rintro e w7 ⟨rfl, hb'⟩; have HB7 := Lib.hid (bel_trans HB6.out hb'); have z6 := HX.out w7 HB7.out; have z7 := HX'.out w7 HB7.out; clear hb') | (go_at_call 9; (with_reducible refine (caOk_c _).mono ?_); rintro e w8 ⟨rfl, hb'⟩; have HB8 := Lib.hid (bel_trans HB7.out hb'); clear hb') | fail)
    go_ret
    exact ⟨rfl, bel_trans HB3.out HB8.out⟩
  | true =>
    have hne := HP2.out rfl
    have hs0 : (S.toList == (⟨#[]⟩ : ByteArray).toList) = false := beq_eq_false_iff_ne.2 (by rw [show (⟨#[]⟩ : ByteArray).toList = [] by rw [Lib.toList_data]]; exact hne)
    have hs1 : (S.toList == []) = false := beq_eq_false_iff_ne.2 hne
    clear hne
    clear hq hq2
    by_cases h2 : st = 2
    · have f2 : (st == 2) = true := beq_iff_eq.2 h2
      rw [HP4.out h2 rfl] at HTm
      clear h2
      go_upto_region 12 with (first | (go_at_call 6; (with_reducible refine (HI.out _ (Below.refl _ _)).mono ?_); rintro e w5 ⟨rfl, hb5⟩; have HB5 := Lib.hid hb5; have z2 := HX.out w5 hb5; have z3 := HX'.out w5 hb5; clear hb5) | (go_at_call 7; (with_reducible refine (HS.out _ HB5.out).mono ?_); rintro e w6 ⟨rfl, hb'⟩; have HB6 := Lib.hid (bel_trans HB5.out hb'); have z4 := HX.out w6 HB6.out; have z5 := HX'.out w6 HB6.out; clear hb') | (go_at_call 8; (with_reducible refine (HK.out _ HB6.out).mono ?_); rintro e w7 ⟨rfl, hb'⟩; have HB7 := Lib.hid (bel_trans HB6.out hb'); have z6 := HX.out w7 HB7.out; have z7 := HX'.out w7 HB7.out; clear hb') | (go_at_call 10; (with_reducible refine (HTm.out _ HB7.out).mono ?_); rintro e w8 ⟨rfl, hb'⟩; have HB8 := Lib.hid (bel_trans HB7.out hb'); clear hb') | fail)
      have x0 := HX.out _ HB8.out
      have x1 := HX'.out _ HB8.out
      have y0 := HY.out _ HB8.out
      have y1 := HY'.out _ HB8.out
      cases q2 with
      | false =>
        refine wp_region_below (by kernel_rfl) (by kernel_rfl) ?_; (repeat (first | go_big_quiet_skip | (go_big_quiet_want; first | (refine quiet_pair (t := 25) rfl rfl (fun W v0 v1 hv hv' => (by go_simp)) (fun W hW => ⟨BelC.cell hW (by assumption), BelC.cell hW (by assumption)⟩) ?_; go_big_quiet_on; simp only [Act.put, List.setIfInBounds_toArray, List.set_cons_zero, List.set_cons_succ]) | (refine quiet_cell rfl rfl (fun W v hv => (by go_simp)) (fun W hW => BelC.cell hW (by assumption)) ?_; go_big_quiet_on; simp only [Act.put, List.setIfInBounds_toArray, List.set_cons_zero, List.set_cons_succ]) | (go_big_quiet_op; first | go_big_quiet_on | ((first | with_reducible refine ⟨_, fun W hW => (HK2.out W (bel_trans HB8.out hW.bel)).mono (fun e w' hh => ⟨hh.1, hW.step hh.2⟩), ?_⟩ | with_reducible refine ⟨_, fun W hW => (HC.out W (bel_trans HB8.out hW.bel)).mono (fun e w' hh => ⟨hh.1, hW.step hh.2⟩), ?_⟩ | with_reducible refine ⟨_, fun W hW => (HI2.out W (bel_trans HB8.out hW.bel)).mono (fun e w' hh => ⟨hh.1, hW.step hh.2⟩), ?_⟩); go_big_quiet_on) | (refine ⟨_, fun _ _ => rfl, ?_⟩; go_big_quiet_on))))); refine wpQuiet_nil ?_; intro w2 hw2
        go_wp2
        go_ret
        exact ⟨rfl, bel_trans HB3.out (bel_trans HB8.out hw2.bel)⟩
      | true =>
        cases bv with
        | false =>
          cases sv with
          | false =>
            refine wp_region_below (by kernel_rfl) (by kernel_rfl) ?_; (repeat (first | go_big_quiet_skip | (go_big_quiet_want; first | (refine quiet_pair (t := 25) rfl rfl (fun W v0 v1 hv hv' => (by go_simp)) (fun W hW => ⟨BelC.cell hW (by assumption), BelC.cell hW (by assumption)⟩) ?_; go_big_quiet_on; simp only [Act.put, List.setIfInBounds_toArray, List.set_cons_zero, List.set_cons_succ]) | (refine quiet_cell rfl rfl (fun W v hv => (by go_simp)) (fun W hW => BelC.cell hW (by assumption)) ?_; go_big_quiet_on; simp only [Act.put, List.setIfInBounds_toArray, List.set_cons_zero, List.set_cons_succ]) | (go_big_quiet_op; first | go_big_quiet_on | ((first | with_reducible refine ⟨_, fun W hW => (HK2.out W (bel_trans HB8.out hW.bel)).mono (fun e w' hh => ⟨hh.1, hW.step hh.2⟩), ?_⟩ | with_reducible refine ⟨_, fun W hW => (HC.out W (bel_trans HB8.out hW.bel)).mono (fun e w' hh => ⟨hh.1, hW.step hh.2⟩), ?_⟩ | with_reducible refine ⟨_, fun W hW => (HI2.out W (bel_trans HB8.out hW.bel)).mono (fun e w' hh => ⟨hh.1, hW.step hh.2⟩), ?_⟩); go_big_quiet_on) | (refine ⟨_, fun _ _ => rfl, ?_⟩; go_big_quiet_on))))); refine wpQuiet_nil ?_; intro w2 hw2
            go_wp2
            go_ret
            exact ⟨rfl, bel_trans HB3.out (bel_trans HB8.out hw2.bel)⟩
          | true =>
            have hne := HLw.out (by first | trivial | rfl) (by first | trivial | rfl) (by first | decide | simp)
            refine wp_region_below (by kernel_rfl) (by kernel_rfl) ?_; (repeat (first | go_big_quiet_skip | (go_big_quiet_want; first | (refine quiet_pair (t := 25) rfl rfl (fun W v0 v1 hv hv' => (by go_simp)) (fun W hW => ⟨BelC.cell hW (by assumption), BelC.cell hW (by assumption)⟩) ?_; go_big_quiet_on; simp only [Act.put, List.setIfInBounds_toArray, List.set_cons_zero, List.set_cons_succ]) | (refine quiet_cell rfl rfl (fun W v hv => (by go_simp)) (fun W hW => BelC.cell hW (by assumption)) ?_; go_big_quiet_on; simp only [Act.put, List.setIfInBounds_toArray, List.set_cons_zero, List.set_cons_succ]) | (go_big_quiet_op; first | go_big_quiet_on | ((first | with_reducible refine ⟨_, fun W hW => (HK2.out W (bel_trans HB8.out hW.bel)).mono (fun e w' hh => ⟨hh.1, hW.step hh.2⟩), ?_⟩ | with_reducible refine ⟨_, fun W hW => (HC.out W (bel_trans HB8.out hW.bel)).mono (fun e w' hh => ⟨hh.1, hW.step hh.2⟩), ?_⟩ | with_reducible refine ⟨_, fun W hW => (HI2.out W (bel_trans HB8.out hW.bel)).mono (fun e w' hh => ⟨hh.1, hW.step hh.2⟩), ?_⟩); go_big_quiet_on) | (refine ⟨_, fun _ _ => rfl, ?_⟩; go_big_quiet_on))))); refine wpQuiet_nil ?_; intro w2 hw2
            go_wp2
            go_ret
            exact ⟨rfl, bel_trans HB3.out (bel_trans HB8.out hw2.bel)⟩
        | true =>
          cases sv with
          | false =>
            have hne := HLw.out (by first | trivial | rfl) (by first | trivial | rfl) (by first | decide | simp)
            refine wp_region_below (by kernel_rfl) (by kernel_rfl) ?_; (repeat (first | go_big_quiet_skip | (go_big_quiet_want; first | (refine quiet_pair (t := 25) rfl rfl (fun W v0 v1 hv hv' => (by go_simp)) (fun W hW => ⟨BelC.cell hW (by assumption), BelC.cell hW (by assumption)⟩) ?_; go_big_quiet_on; simp only [Act.put, List.setIfInBounds_toArray, List.set_cons_zero, List.set_cons_succ]) | (refine quiet_cell rfl rfl (fun W v hv => (by go_simp)) (fun W hW => BelC.cell hW (by assumption)) ?_; go_big_quiet_on; simp only [Act.put, List.setIfInBounds_toArray, List.set_cons_zero, List.set_cons_succ]) | (go_big_quiet_op; first | go_big_quiet_on | ((first | with_reducible refine ⟨_, fun W hW => (HK2.out W (bel_trans HB8.out hW.bel)).mono (fun e w' hh => ⟨hh.1, hW.step hh.2⟩), ?_⟩ | with_reducible refine ⟨_, fun W hW => (HC.out W (bel_trans HB8.out hW.bel)).mono (fun e w' hh => ⟨hh.1, hW.step hh.2⟩), ?_⟩ | with_reducible refine ⟨_, fun W hW => (HI2.out W (bel_trans HB8.out hW.bel)).mono (fun e w' hh => ⟨hh.1, hW.step hh.2⟩), ?_⟩); go_big_quiet_on) | (refine ⟨_, fun _ _ => rfl, ?_⟩; go_big_quiet_on))))); refine wpQuiet_nil ?_; intro w2 hw2
            go_wp2
            go_ret
            exact ⟨rfl, bel_trans HB3.out (bel_trans HB8.out hw2.bel)⟩
          | true =>
            refine wp_region_below (by kernel_rfl) (by kernel_rfl) ?_; (repeat (first | go_big_quiet_skip | (go_big_quiet_want; first | (refine quiet_pair (t := 25) rfl rfl (fun W v0 v1 hv hv' => (by go_simp)) (fun W hW => ⟨BelC.cell hW (by assumption), BelC.cell hW (by assumption)⟩) ?_; go_big_quiet_on; simp only [Act.put, List.setIfInBounds_toArray, List.set_cons_zero, List.set_cons_succ]) | (refine quiet_cell rfl rfl (fun W v hv => (by go_simp)) (fun W hW => BelC.cell hW (by assumption)) ?_; go_big_quiet_on; simp only [Act.put, List.setIfInBounds_toArray, List.set_cons_zero, List.set_cons_succ]) | (go_big_quiet_op; first | go_big_quiet_on | ((first | with_reducible refine ⟨_, fun W hW => (HK2.out W (bel_trans HB8.out hW.bel)).mono (fun e w' hh => ⟨hh.1, hW.step hh.2⟩), ?_⟩ | with_reducible refine ⟨_, fun W hW => (HC.out W (bel_trans HB8.out hW.bel)).mono (fun e w' hh => ⟨hh.1, hW.step hh.2⟩), ?_⟩ | with_reducible refine ⟨_, fun W hW => (HI2.out W (bel_trans HB8.out hW.bel)).mono (fun e w' hh => ⟨hh.1, hW.step hh.2⟩), ?_⟩); go_big_quiet_on) | (refine ⟨_, fun _ _ => rfl, ?_⟩; go_big_quiet_on))))); refine wpQuiet_nil ?_; intro w2 hw2
            go_wp2
            go_ret
            exact ⟨rfl, bel_trans HB3.out (bel_trans HB8.out hw2.bel)⟩
    · have f2 : (st == 2) = false := beq_eq_false_iff_ne.2 h2
      clear h2
      go_upto_region 12 with (first | (go_at_call 6; (with_reducible refine (HI.out _ (Below.refl _ _)).mono ?_); rintro e w5 ⟨rfl, hb5⟩; have HB5 := Lib.hid hb5; have z2 := HX.out w5 hb5; have z3 := HX'.out w5 hb5; clear hb5) | (go_at_call 7; (with_reducible refine (HS.out _ HB5.out).mono ?_); rintro e w6 ⟨rfl, hb'⟩; have HB6 := Lib.hid (bel_trans HB5.out hb'); have z4 := HX.out w6 HB6.out; have z5 := HX'.out w6 HB6.out; clear hb') | (go_at_call 8; (with_reducible refine (HK.out _ HB6.out).mono ?_); rintro e w7 ⟨rfl, hb'⟩; have HB7 := Lib.hid (bel_trans HB6.out hb'); have z6 := HX.out w7 HB7.out; have z7 := HX'.out w7 HB7.out; clear hb') | (go_at_call 10; (with_reducible refine (HTm.out _ HB7.out).mono ?_); rintro e w8 ⟨rfl, hb'⟩; have HB8 := Lib.hid (bel_trans HB7.out hb'); clear hb') | fail)
      have x0 := HX.out _ HB7.out
      have x1 := HX'.out _ HB7.out
      have y0 := HY.out _ HB7.out
      have y1 := HY'.out _ HB7.out
      cases q2 with
      | false =>
        refine wp_region_below (by kernel_rfl) (by kernel_rfl) ?_; (repeat (first | go_big_quiet_skip | (go_big_quiet_want; first | (refine quiet_pair (t := 25) rfl rfl (fun W v0 v1 hv hv' => (by go_simp)) (fun W hW => ⟨BelC.cell hW (by assumption), BelC.cell hW (by assumption)⟩) ?_; go_big_quiet_on; simp only [Act.put, List.setIfInBounds_toArray, List.set_cons_zero, List.set_cons_succ]) | (refine quiet_cell rfl rfl (fun W v hv => (by go_simp)) (fun W hW => BelC.cell hW (by assumption)) ?_; go_big_quiet_on; simp only [Act.put, List.setIfInBounds_toArray, List.set_cons_zero, List.set_cons_succ]) | (go_big_quiet_op; first | go_big_quiet_on | ((first | with_reducible refine ⟨_, fun W hW => (HK2.out W (bel_trans HB7.out hW.bel)).mono (fun e w' hh => ⟨hh.1, hW.step hh.2⟩), ?_⟩ | with_reducible refine ⟨_, fun W hW => (HC.out W (bel_trans HB7.out hW.bel)).mono (fun e w' hh => ⟨hh.1, hW.step hh.2⟩), ?_⟩ | with_reducible refine ⟨_, fun W hW => (HI2.out W (bel_trans HB7.out hW.bel)).mono (fun e w' hh => ⟨hh.1, hW.step hh.2⟩), ?_⟩); go_big_quiet_on) | (refine ⟨_, fun _ _ => rfl, ?_⟩; go_big_quiet_on))))); refine wpQuiet_nil ?_; intro w2 hw2
        go_wp2
        go_ret
        exact ⟨rfl, bel_trans HB3.out (bel_trans HB7.out hw2.bel)⟩
      | true =>
        cases bv with
        | false =>
          cases sv with
          | false =>
            refine wp_region_below (by kernel_rfl) (by kernel_rfl) ?_; (repeat (first | go_big_quiet_skip | (go_big_quiet_want; first | (refine quiet_pair (t := 25) rfl rfl (fun W v0 v1 hv hv' => (by go_simp)) (fun W hW => ⟨BelC.cell hW (by assumption), BelC.cell hW (by assumption)⟩) ?_; go_big_quiet_on; simp only [Act.put, List.setIfInBounds_toArray, List.set_cons_zero, List.set_cons_succ]) | (refine quiet_cell rfl rfl (fun W v hv => (by go_simp)) (fun W hW => BelC.cell hW (by assumption)) ?_; go_big_quiet_on; simp only [Act.put, List.setIfInBounds_toArray, List.set_cons_zero, List.set_cons_succ]) | (go_big_quiet_op; first | go_big_quiet_on | ((first | with_reducible refine ⟨_, fun W hW => (HK2.out W (bel_trans HB7.out hW.bel)).mono (fun e w' hh => ⟨hh.1, hW.step hh.2⟩), ?_⟩ | with_reducible refine ⟨_, fun W hW => (HC.out W (bel_trans HB7.out hW.bel)).mono (fun e w' hh => ⟨hh.1, hW.step hh.2⟩), ?_⟩ | with_reducible refine ⟨_, fun W hW => (HI2.out W (bel_trans HB7.out hW.bel)).mono (fun e w' hh => ⟨hh.1, hW.step hh.2⟩), ?_⟩); go_big_quiet_on) | (refine ⟨_, fun _ _ => rfl, ?_⟩; go_big_quiet_on))))); refine wpQuiet_nil ?_; intro w2 hw2
            go_wp2
            go_ret
            exact ⟨rfl, bel_trans HB3.out (bel_trans HB7.out hw2.bel)⟩
          | true =>
            have hne := HLw.out (by first | trivial | rfl) (by first | trivial | rfl) (by first | decide | simp)
            refine wp_region_below (by kernel_rfl) (by kernel_rfl) ?_; (repeat (first | go_big_quiet_skip | (go_big_quiet_want; first | (refine quiet_pair (t := 25) rfl rfl (fun W v0 v1 hv hv' => (by go_simp)) (fun W hW => ⟨BelC.cell hW (by assumption), BelC.cell hW (by assumption)⟩) ?_; go_big_quiet_on; simp only [Act.put, List.setIfInBounds_toArray, List.set_cons_zero, List.set_cons_succ]) | (refine quiet_cell rfl rfl (fun W v hv => (by go_simp)) (fun W hW => BelC.cell hW (by assumption)) ?_; go_big_quiet_on; simp only [Act.put, List.setIfInBounds_toArray, List.set_cons_zero, List.set_cons_succ]) | (go_big_quiet_op; first | go_big_quiet_on | ((first | with_reducible refine ⟨_, fun W hW => (HK2.out W (bel_trans HB7.out hW.bel)).mono (fun e w' hh => ⟨hh.1, hW.step hh.2⟩), ?_⟩ | with_reducible refine ⟨_, fun W hW => (HC.out W (bel_trans HB7.out hW.bel)).mono (fun e w' hh => ⟨hh.1, hW.step hh.2⟩), ?_⟩ | with_reducible refine ⟨_, fun W hW => (HI2.out W (bel_trans HB7.out hW.bel)).mono (fun e w' hh => ⟨hh.1, hW.step hh.2⟩), ?_⟩); go_big_quiet_on) | (refine ⟨_, fun _ _ => rfl, ?_⟩; go_big_quiet_on))))); refine wpQuiet_nil ?_; intro w2 hw2
            go_wp2
            go_ret
            exact ⟨rfl, bel_trans HB3.out (bel_trans HB7.out hw2.bel)⟩
        | true =>
          cases sv with
          | false =>
            have hne := HLw.out (by first | trivial | rfl) (by first | trivial | rfl) (by first | decide | simp)
            refine wp_region_below (by kernel_rfl) (by kernel_rfl) ?_; (repeat (first | go_big_quiet_skip | (go_big_quiet_want; first | (refine quiet_pair (t := 25) rfl rfl (fun W v0 v1 hv hv' => (by go_simp)) (fun W hW => ⟨BelC.cell hW (by assumption), BelC.cell hW (by assumption)⟩) ?_; go_big_quiet_on; simp only [Act.put, List.setIfInBounds_toArray, List.set_cons_zero, List.set_cons_succ]) | (refine quiet_cell rfl rfl (fun W v hv => (by go_simp)) (fun W hW => BelC.cell hW (by assumption)) ?_; go_big_quiet_on; simp only [Act.put, List.setIfInBounds_toArray, List.set_cons_zero, List.set_cons_succ]) | (go_big_quiet_op; first | go_big_quiet_on | ((first | with_reducible refine ⟨_, fun W hW => (HK2.out W (bel_trans HB7.out hW.bel)).mono (fun e w' hh => ⟨hh.1, hW.step hh.2⟩), ?_⟩ | with_reducible refine ⟨_, fun W hW => (HC.out W (bel_trans HB7.out hW.bel)).mono (fun e w' hh => ⟨hh.1, hW.step hh.2⟩), ?_⟩ | with_reducible refine ⟨_, fun W hW => (HI2.out W (bel_trans HB7.out hW.bel)).mono (fun e w' hh => ⟨hh.1, hW.step hh.2⟩), ?_⟩); go_big_quiet_on) | (refine ⟨_, fun _ _ => rfl, ?_⟩; go_big_quiet_on))))); refine wpQuiet_nil ?_; intro w2 hw2
            go_wp2
            go_ret
            exact ⟨rfl, bel_trans HB3.out (bel_trans HB7.out hw2.bel)⟩
          | true =>
            refine wp_region_below (by kernel_rfl) (by kernel_rfl) ?_; (repeat (first | go_big_quiet_skip | (go_big_quiet_want; first | (refine quiet_pair (t := 25) rfl rfl (fun W v0 v1 hv hv' => (by go_simp)) (fun W hW => ⟨BelC.cell hW (by assumption), BelC.cell hW (by assumption)⟩) ?_; go_big_quiet_on; simp only [Act.put, List.setIfInBounds_toArray, List.set_cons_zero, List.set_cons_succ]) | (refine quiet_cell rfl rfl (fun W v hv => (by go_simp)) (fun W hW => BelC.cell hW (by assumption)) ?_; go_big_quiet_on; simp only [Act.put, List.setIfInBounds_toArray, List.set_cons_zero, List.set_cons_succ]) | (go_big_quiet_op; first | go_big_quiet_on | ((first | with_reducible refine ⟨_, fun W hW => (HK2.out W (bel_trans HB7.out hW.bel)).mono (fun e w' hh => ⟨hh.1, hW.step hh.2⟩), ?_⟩ | with_reducible refine ⟨_, fun W hW => (HC.out W (bel_trans HB7.out hW.bel)).mono (fun e w' hh => ⟨hh.1, hW.step hh.2⟩), ?_⟩ | with_reducible refine ⟨_, fun W hW => (HI2.out W (bel_trans HB7.out hW.bel)).mono (fun e w' hh => ⟨hh.1, hW.step hh.2⟩), ?_⟩); go_big_quiet_on) | (refine ⟨_, fun _ _ => rfl, ?_⟩; go_big_quiet_on))))); refine wpQuiet_nil ?_; intro w2 hw2
            go_wp2
            go_ret
            exact ⟨rfl, bel_trans HB3.out (bel_trans HB7.out hw2.bel)⟩
end Go.Proofs.YtjglbadkbhopoaaGreatDoor
namespace Go.Proofs.YtjglbadkbhopoaaGreatDoor
open Go.ChangeShapes Go.WideShapes Go.ChangeAt Go.RowKit
open Go.ChangeMaps (open_string shut_string)
set_option linter.unusedVariables false
set_option maxRecDepth 100000
theorem own : ownKnob Tryz.prog.godebug = none := by kernel_rfl
noncomputable def laidAll : List (String × DataW Unit) := [("math/bits.deBruijn32tab", Rows.laid_math_bits_deBruijn32tab), ("math/bits.deBruijn64tab", Rows.laid_math_bits_deBruijn64tab), ("internal/strconv.uint64pow10", Rows.laid_internal_strconv_uint64pow10), ("unicode/utf8.acceptRanges", Rows.laid_unicode_utf8_acceptRanges), ("unicode/utf8.first", Rows.laid_unicode_utf8_first)]
theorem tab_eq : (Rows.laid_internal_strconv_uint64pow10 : DataW Unit) = Lib.tabData .u64 Lib.pow10Tab := by kernel_rfl
theorem tab_of_laid {w : World} (hL : laidMetH Tryz.prog laidAll w) : Tab w := by
  rw [MakeChecks.laidMetH_plain _ _ _ (by kernel_rfl)] at hL
  have hL : laidMet Tryz.prog (("math/bits.deBruijn32tab", Rows.laid_math_bits_deBruijn32tab) :: ("math/bits.deBruijn64tab", Rows.laid_math_bits_deBruijn64tab) :: ("internal/strconv.uint64pow10", Rows.laid_internal_strconv_uint64pow10) :: ("unicode/utf8.acceptRanges", Rows.laid_unicode_utf8_acceptRanges) :: [("unicode/utf8.first", Rows.laid_unicode_utf8_first)]) w := hL
  have h2 := hL.tail.tail
  rw [tab_eq] at h2
  exact Lib.tabIs_of_head (g := 0) (by kernel_rfl) (by kernel_rfl) Tryz.underlying206 Tryz.underlying186 (by kernel_rfl) (by kernel_rfl) h2
noncomputable def laidWorld (os : Os) : World :=
  let w0 := World.doorLaid Tryz.prog 400 os
  { w0 with heap := w0.heap.modify 1 fun
    | .cells _ t frozen => .cells (Lib.firstTab.map fun z => Value.int .u8 z).toArray t frozen
    | o => o }
theorem door_met (os : Os) (args : Array Value) : laidMetH Tryz.prog laidAll ((laidWorld os).forCall (fun _ _ => 0) ⟨#[], args, []⟩).memory :=
  laidMetH_of_parts3 (fuel := 8) (laidMet_of_run' 8 (by kernel_rfl) (by kernel_rfl)) (by kernel_rfl) (by kernel_rfl)
end Go.Proofs.YtjglbadkbhopoaaGreatDoor
namespace Go.Proofs.YtjglbadkbhopoaaGreatDoor
open Go.ChangeShapes Go.WideShapes Go.ChangeAt Go.RowKit
set_option linter.unusedVariables false
set_option maxRecDepth 100000
theorem laidOut : laidOutB Tryz.prog = true := by kernel_rfl
theorem bytes_of {H : Type} {enc : TypeId × Value → H} {W : World} {base : Nat} {a : Option Addr} {n c : Nat} {d : DataW H} {p : List MemPlace} {held : Bool}
    (h : ∃ fuel, DataW.trod enc Tryz.prog W base (fun _ => true) held fuel 22 (Value.slice a n c).cells.toList = some (d, p)) : ∃ bs, Bytes W a n c bs := by
  obtain ⟨fuel, hf⟩ := h
  rcases open_ints Tryz.underlying22 Tryz.underlying5 (by kernel_rfl) hf with ⟨hcs, _⟩ | ⟨x, l, cc, zs, hcs, _, hl, hm, hz, _, hcell, hwz⟩
  · simp [Value.cells] at hcs
    obtain ⟨rfl, rfl, rfl⟩ := hcs
    exact ⟨[], rfl, Nat.le_refl _, Nat.zero_le _, fun hne => absurd rfl hne, fun b hb => by cases hb⟩
  · simp [Value.cells] at hcs
    obtain ⟨rfl, rfl, rfl⟩ := hcs
    have hzl : zs.length = c := by simpa using hz
    have hw : ∀ z ∈ zs, 0 ≤ z ∧ z ≤ 255 := fun z hzm => by
      have h1 := hwz z hzm
      have e1 : IntKind.u8.min = 0 := rfl
      have e2 : IntKind.u8.max = 255 := rfl
      simp [Lit.wf, e1, e2] at h1
      omega
    refine ⟨(zs.take n).map Int.toNat, by rw [List.length_map, List.length_take]; omega, hl, hm, fun _ => ⟨_, rfl, fun i b hi => ?_⟩, fun b hb => ?_⟩
    · rw [List.getElem?_map, List.getElem?_take] at hi
      split at hi
      · have hi2 : i < zs.length := by omega
        rw [List.getElem?_eq_getElem hi2] at hi
        have hb : (zs[i]).toNat = b := by simpa using hi
        have h1 := hcell i hi2
        have hg : zs.getD i 0 = zs[i] := by rw [List.getD_eq_getElem?_getD, List.getElem?_eq_getElem hi2]; rfl
        rw [hg] at h1
        have h2 := hw _ (List.getElem_mem hi2)
        rw [h1, ← hb]
        congr 2
        omega
      · cases hi
    · obtain ⟨z, hz1, rfl⟩ := List.mem_map.1 hb
      have := hw z (List.mem_of_mem_take hz1)
      omega
end Go.Proofs.YtjglbadkbhopoaaGreatDoor
namespace Go.Proofs.YtjglbadkbhopoaaGreatDoor
open Go.ChangeShapes Go.WideShapes Go.ChangeAt Go.RowKit
open Go.ChangeMaps (open_string shut_string)
set_option linter.unusedVariables false
set_option maxRecDepth 100000
theorem otx_witness (os : Os) {H : Type} (enc : TypeId × Value → H) :
    (OpenSpec.ofChange Rows.fnOutTextSpec).preRow enc Tryz.prog Tryz.f3 Rows.fnOutTextRow.domain false laidAll ((laidWorld os).forCall (fun _ _ => 0) ⟨#[], #[.slice none 0 0, .slice none 0 0], []⟩).memory #[.slice none 0 0, .slice none 0 0] := by
  have hw : (DataW.whole enc Tryz.prog ((laidWorld os).forCall (fun _ _ => 0) ⟨#[], #[.slice none 0 0, .slice none 0 0], []⟩).memory Tryz.f3.params.toList (OpenSpec.ofChange Rows.fnOutTextSpec).vars false #[Value.slice none 0 0, .slice none 0 0].toList 8).map (fun x => (x.1, x.2.1)) =
      some ([.nil, .nil], []) := by kernel_rfl
  obtain ⟨⟨x1, x2, x3⟩, hx, hx1⟩ := Option.map_eq_some_iff.1 hw
  simp only [Prod.mk.injEq] at hx1
  obtain ⟨rfl, rfl⟩ := hx1
  exact OpenSpec.preRow_of_cond 8 hx (by kernel_rfl) (fun k hk => by cases hk) (by kernel_rfl) (door_met os _)
theorem otx_lifted (os : Os) (started : os.Started) (H : Type) (enc : TypeId × Value → H) (F : Stop.Interp) :
    ReturnsInHanded {} Tryz.checked os 3 .any ((OpenSpec.ofChange Rows.fnOutTextSpec).preRow enc Tryz.prog Tryz.f3 Rows.fnOutTextRow.domain false laidAll) (((OpenSpec.ofChange Rows.fnOutTextSpec).at F).post enc Tryz.prog Tryz.f3 false true false false) := by
  refine returnsInHanded_of_row (C := Tryz.checked) (s := OpenSpec.ofChange Rows.fnOutTextSpec) own started (by kernel_rfl) Tryz.func3
    (witness_row_atRef (enc := enc) (C := Tryz.checked) false (laidWorld os) #[.slice none 0 0, .slice none 0 0] rfl (by kernel_rfl) (by kernel_rfl) (by kernel_rfl) (otx_witness os enc)) ?_
  intro W base args ds gs before hval0 hW _ _ _ hL hSh _
  have hval : ∀ (j : Nat) t v, Tryz.f3.params[j]? = some t → args[j]? = some v → Value.okWide Tryz.prog W .any base t v := hval0
  have hW' := hW
  obtain ⟨p, q, hA0, hV0, rfl, _, _⟩ := hW
  have hA : DataW.TrodAll enc Tryz.prog W 0 (fun _ => true) true Tryz.f3.params.toList args.toList ds p := hA0
  rw [Tryz.params3] at hA hval
  obtain ⟨v0, v1, d0, d1, p0, p1, rfl, rfl, rfl, h0, h1⟩ := trodAll_two hA
  obtain ⟨rfl, rfl⟩ := trodVars_none hV0
  obtain ⟨a0, n0, c0, rfl⟩ := okWide_slice Tryz.underlying22 (hval 0 22 v0 rfl rfl)
  obtain ⟨a1, n1, c1, rfl⟩ := okWide_slice Tryz.underlying22 (hval 1 22 v1 rfl rfl)
  have k0 := h0
  have k1 := h1
  have lt0 : ∀ x ∈ p0, x.block < W.heap.size := by obtain ⟨m, hm⟩ := k0; exact DataW.trod_lt m _ _ _ hm
  have lt1 : ∀ x ∈ p1, x.block < W.heap.size := by obtain ⟨m, hm⟩ := k1; exact DataW.trod_lt m _ _ _ hm
  obtain ⟨bs, hbs⟩ := bytes_of h0
  obtain ⟨bs', hbs'⟩ := bytes_of h1
  clear hA0 hV0 hval0
  refine (lawTxt_c W a0 a1 n0 c0 n1 c1 bs bs' hbs hbs' (tab_of_laid hL)).mono ?_
  rintro e W' ⟨rfl, bel⟩
  exact ⟨_, rfl, _, _, _, [], _, [], hW', trodAll_mk1 (shut_bool Tryz.underlying4 _), trodAll_mk2 (Below.trod laidOut (by kernel_rfl) (of_decide_eq_true (by kernel_rfl)) k0 bel lt0) (Below.trod laidOut (by kernel_rfl) (of_decide_eq_true (by kernel_rfl)) k1 bel lt1), rfl, bel.frame _, fun h => by cases h⟩
theorem fnOutText_holds : Rows.FnOutTextSaid :=
  OpenClaim.holds_of_cond 3 Tryz.f3 rfl rfl rfl rfl rfl rfl rfl ⟨rfl, rfl, rfl, rfl, rfl⟩ rfl rfl rfl rfl rfl (by kernel_rfl) Tryz.func3 (by kernel_rfl)
    (of_decide_eq_true (by kernel_rfl)) (by unfold Func.isWrapper; first | (rw [if_pos (by decide +kernel)]; kernel_rfl) | (rw [if_neg (by decide +kernel)]; exact ⟨rfl, rfl⟩))
    (fun os started H enc _ F0 => by rw [OpenClaim.pre_eq_preRow]; exact otx_lifted os started H enc F0)
theorem fnOutText_card : Rows.FnOutTextCardSaid :=
  Claim7.holds_tied_plain_at .later [] [.data, .data, .data, .data, .pinned] true Rows.fnOutTextCard.stood.harness false
    fnOutText_holds (fun _ h => by cases h) (by kernel_rfl) (fun _ h => by cases h) fnOutText_row_tie rfl ⟨rfl, rfl⟩ (by kernel_rfl) rfl
    (fun f fn hf hfn => by
      obtain rfl : f = 3 := Option.some.inj ((show Tryz.prog.funcNamed "loop.example/catechist/laws.FnOutText" = some 3 by kernel_rfl).symm.trans hf) |>.symm
      obtain rfl : fn = Tryz.f3 := (Option.some.inj (Tryz.func3.symm.trans hfn)).symm
      exact ⟨by kernel_rfl, fun j t ht => by
        rw [Tryz.params3] at ht
        have hm : t ∈ [22, 22] := by simpa using Array.mem_of_getElem? ht
        have hall : ([22, 22].all fun u => !Tryz.prog.wantsStandIn u) = true := by kernel_rfl
        exact (show Tryz.prog.wantsStandIn t = false by simpa using List.all_eq_true.1 hall t hm)⟩)
    (by kernel_rfl)
#print axioms fnOutText_card
end Go.Proofs.YtjglbadkbhopoaaGreatDoor
