/- Lemmas and contracts for FnOutOk, part 25. -/
import Derived.Test.YtjglbadkbhopoaaGreatDoorW24
import Derived.Test.YtjglbadkbhopoaaGreatDoorW07
import Derived.Test.YtjglbadkbhopoaaGreatDoorW06
import Derived.Test.YtjglbadkbhopoaaGreatDoorW05
import Derived.Test.YtjglbadkbhopoaaGreatDoorW04
import Derived.Test.YtjglbadkbhopoaaGreatDoorW08
import Derived.Test.YtjglbadkbhopoaaGreatDoorW09
import Derived.BigQuiet
import Derived.Test.YtjglbadkbhopoaaGreatDoorW14
namespace Go.Proofs.YtjglbadkbhopoaaGreatDoor
open Go.RowKit
set_option maxRecDepth 100000
set_option maxHeartbeats 8000000
set_option linter.unusedVariables false
theorem shiftI_c (t : Trm) (tv : Value) (n : Int) (w : World) (h : T0 w tv t) (ho : trmOk t = true) (h0 : 0 ≤ n) (h1 : n ≤ 99999) (hs : trmOk (shift t n) = true) :
    Calls Tryz.prog 15 #[tv, .int .i64 n] w fun e w' => ∃ v, e = .returned v ∧ T0 w' v (shift t n) ∧ Below w.heap.size w w' := by
  have hf := fit_okT (.inr ho)
  have hfs := fit_okT (.inr hs)
  have HK1 := Lib.hid (show Calls _ _ _ _ fun e w' => e = .returned (.bool true) ∧ Below w.heap.size w w' from ho ▸ imOkS_c t tv w h (fit_len hf) hf.2)
  have HI := Lib.hid (fun W => (show Calls Tryz.prog 38 #[.int .i64 n, .int .i64 0, .int .i64 99999] W fun e w' => e = .returned (.bool true) ∧ W = w' from by
    have hi := imIn_c n 0 99999 W
    rwa [decide_eq_true h0, decide_eq_true h1] at hi))
  have HSh := Lib.hid (fun W (hb : Below w.heap.size w W) => shiftedI_c t tv n W (Kd.S_ext hb h) (fit_len hf) (by omega) (by omega) (fun x hx => by have := cellOk_n' (List.all_eq_true.1 (trmOk_iff.1 ho).2.2 x hx); omega))
  have HK2 := Lib.hid (fun W v (h : T0 W v (shift t n)) => (show Calls _ _ _ _ fun e w' => e = .returned (.bool true) ∧ Below W.heap.size W w' from hs ▸ imOkS_c (shift t n) v W h (fit_len hfs) hfs.2))
  clear hf hfs ho hs h0 h1 h
  go_enter Tryz.func15, Tryz.ntmps15
  go_wp2_with (first | (go_at_call 26; (with_reducible refine (HK2.out _ _ HS2.out).mono ?_); rintro e w3 ⟨rfl, hb'⟩; have HS3 := Lib.hid (Kd.S_ext hb' HS2.out); have HB3 := Lib.hid (bel_trans HB2.out hb'); clear hb') | (go_at_call 26; (with_reducible refine HK1.out.mono ?_); rintro e w1 ⟨rfl, hb'⟩; have HB1 := Lib.hid hb'; clear hb') | (go_at_call 38; (with_reducible refine (HI.out _).mono ?_); rintro e w2 ⟨rfl, rfl⟩) | (go_at_call 41; (with_reducible refine (HSh.out _ HB1.out).mono ?_); rintro e w2 ⟨v2, rfl, hO, hb'⟩; have HS2 := Lib.hid (Kd.O_read hO); have HB2 := Lib.hid (bel_trans HB1.out hb'); clear hO hb') | fail)
  go_ret
  exact ⟨_, rfl, HS3.out, HB3.out⟩
theorem meetOk_one {a b : Trm} (ha : trmOk a = true) (hb : trmOk b = true) (h : (uni [] [(a, b)]).isSome = true) : ((meet [] a b).2 = 1 ∨ (meet [] a b).2 = 3) ∧ Binv (vars a ++ vars b) ((meet [] a b).1.getD []) ∧ Pok (vars a ++ vars b) (a, b) := by
  have hi : Uinv (vars a ++ vars b) [] [(a, b)] := .start (.nil _) ha hb (fun v hv => List.mem_append_left _ hv) (fun v hv => List.mem_append_right _ hv)
  obtain ⟨n, hn⟩ := uni_U hi
  obtain ⟨s', hs'⟩ := Option.isSome_iff_exists.1 h
  rw [hs'] at hn
  have hB := U_binv hi hn
  have hz := hi.b
  have hp : Pok (vars a ++ vars b) (a, b) := ⟨ha, hb, fun v hv => List.mem_append_left _ hv, fun v hv => List.mem_append_right _ hv⟩
  unfold meet
  split
  · rw [hs']
    dsimp only
    split
    · exact ⟨.inl rfl, hB, hp⟩
    · exact ⟨.inr rfl, hz, hp⟩
  · exact ⟨.inr rfl, hz, hp⟩
theorem outOk_uni {top t : Trm} (h : outOk top 2 t = true) : canon t = t ∧ trmOk (shift top t.length) = true ∧ (uni [] [(shift top t.length, t)]).isSome = true := by
  have ht := outOk_ans h
  have hq : isQ top = true := by
    unfold outOk at h
    split at h
    · cases h
    · rename_i h1; simpa using h1
  have hs := shiftQ_ok hq (trmOk_iff.1 ht).2.1
  unfold outOk at h
  rw [if_neg (by rw [hq]; decide), if_neg (by omega), if_neg (by omega), if_neg (by rw [ht]; decide)] at h
  split at h
  · cases h
  · rename_i h1
    exact ⟨by simpa using h1, hs, by rw [uni_swap hs ht]; exact h⟩
end Go.Proofs.YtjglbadkbhopoaaGreatDoor
namespace Go.Proofs.YtjglbadkbhopoaaGreatDoor
set_option linter.unusedVariables false
def nextV (s : Binds) (x : Int) : List Int := match getB s x with | none => [] | some t => vars t
inductive Leads (s : Binds) : Int → Int → Prop
  | one {x y : Int} : y ∈ nextV s x → Leads s x y
  | on {x y z : Int} : Leads s x y → z ∈ nextV s y → Leads s x z
theorem Leads.front {s : Binds} {x y z : Int} (h : y ∈ nextV s x) (k : Leads s y z) : Leads s x z := by
  induction k with
  | one h2 => exact .on (.one h) h2
  | on _ h2 ih => exact .on ih h2
theorem Leads.cases_front {s : Binds} {x z : Int} (k : Leads s x z) : ∃ y, y ∈ nextV s x ∧ (y = z ∨ Leads s y z) := by
  induction k with
  | one h => exact ⟨_, h, .inl rfl⟩
  | on h1 h2 ih =>
    obtain ⟨y, hy, rfl | hl⟩ := ih
    · exact ⟨y, hy, .inr (.one h2)⟩
    · exact ⟨y, hy, .inr (.on hl h2)⟩
theorem next_in {s : Binds} {x y : Int} (h : y ∈ nextV s x) : ∃ t, getB s x = some t ∧ y ∈ vars t := by
  unfold nextV at h
  cases hg : getB s x with
  | none => rw [hg] at h; cases h
  | some t => rw [hg] at h; exact ⟨t, rfl, h⟩
theorem next_of {s : Binds} {x y : Int} {t : Trm} (h : getB s x = some t) (hy : y ∈ vars t) : y ∈ nextV s x := by unfold nextV; rw [h]; exact hy
theorem rch_leads {s : Binds} {t : Trm} {y : Int} (h : Rch s t y) : ∀ {x : Int}, getB s x = some t → Leads s x y := by
  induction h with
  | here hv => intro x hx; exact .one (next_of hx hv)
  | on hv hg hr ih => intro x hx; exact .front (next_of hx hv) (ih hg)
theorem leads_rch {s : Binds} {x y : Int} (h : Leads s x y) : ∃ t, getB s x = some t ∧ Rch s t y := by
  induction h with
  | one h => obtain ⟨t, ht, hy⟩ := next_in h; exact ⟨t, ht, .here hy⟩
  | on _ h2 ih =>
    obtain ⟨t, ht, hr⟩ := ih
    obtain ⟨u, hu, hz⟩ := next_in h2
    refine ⟨t, ht, ?_⟩
    clear ht
    induction hr with
    | here hv => exact .on hv hu (.here hz)
    | on hv hg hr ih2 => exact .on hv hg (ih2 ‹_› h2 hu)
structure MInv (s : Binds) (m : Int → Int) : Prop where
  val : ∀ x, m x = 0 ∨ m x = 1 ∨ m x = 2
  closed : ∀ x, m x = 2 → ∀ y ∈ nextV s x, m y = 2
  acyc : ∀ x, m x = 2 → ¬ Leads s x x
theorem MInv.reach {s : Binds} {m : Int → Int} (h : MInv s m) {x y : Int} (hl : Leads s x y) (hx : m x = 2) : m y = 2 := by
  induction hl with
  | one hy => exact h.closed _ hx _ hy
  | on _ hz ih => exact h.closed _ ih _ hz
def setM (m : Int → Int) (x v : Int) : Int → Int := fun y => if y = x then v else m y
theorem setM_same (m : Int → Int) (x v : Int) : setM m x v x = v := by unfold setM; rw [if_pos rfl]
theorem setM_other {m : Int → Int} {x v y : Int} (h : y ≠ x) : setM m x v y = m y := by unfold setM; rw [if_neg h]
def zeros (m : Int → Int) : Nat := (V0.filter (fun x => decide (m x = 0))).length
theorem zeros_le (m : Int → Int) : zeros m ≤ 100000 := by
  unfold zeros
  have := List.length_filter_le (fun x => decide (m x = 0)) V0
  rw [V0_len] at this; exact this
theorem MInv.start {s : Binds} {m : Int → Int} (h : MInv s m) {x : Int} (hx : m x = 0) : MInv s (setM m x 1) where
  val := fun y => by
    by_cases e : y = x
    · subst e; rw [setM_same]; exact .inr (.inl rfl)
    · rw [setM_other e]; exact h.val y
  closed := fun y hy z hz => by
    have e : y ≠ x := fun e => by subst e; rw [setM_same] at hy; omega
    rw [setM_other e] at hy
    have h2 := h.closed y hy z hz
    have e2 : z ≠ x := fun e => by subst e; omega
    rw [setM_other e2]; exact h2
  acyc := fun y hy => by
    have e : y ≠ x := fun e => by subst e; rw [setM_same] at hy; omega
    rw [setM_other e] at hy
    exact h.acyc y hy
theorem MInv.finish {s : Binds} {m : Int → Int} (h : MInv s m) {x : Int} (hx : m x = 1) (hn : ∀ y ∈ nextV s x, m y = 2) : MInv s (setM m x 2) where
  val := fun y => by
    by_cases e : y = x
    · subst e; rw [setM_same]; exact .inr (.inr rfl)
    · rw [setM_other e]; exact h.val y
  closed := fun y hy z hz => by
    by_cases e2 : z = x
    · subst e2; exact setM_same _ _ _
    · rw [setM_other e2]
      by_cases e : y = x
      · subst e; exact hn z hz
      · rw [setM_other e] at hy; exact h.closed y hy z hz
  acyc := fun y hy hl => by
    by_cases e : y = x
    · subst e
      obtain ⟨z, hz, rfl | hl2⟩ := hl.cases_front
      · have := hn _ hz; omega
      · have := h.reach hl2 (hn z hz); omega
    · rw [setM_other e] at hy; exact h.acyc y hy hl
theorem zeros_start {m : Int → Int} {x : Int} (hx : m x = 0) (hv : x ∈ V0) : zeros (setM m x 1) < zeros m := by
  unfold zeros
  refine filter_lt (p := fun y => decide (m y = 0)) (q := fun y => decide (setM m x 1 y = 0)) (v := x) (fun y hy => ?_) (decide_eq_true hx) (decide_eq_false ?_) hv
  · have h := of_decide_eq_true hy
    refine decide_eq_true ?_
    by_cases e : y = x
    · subst e; exact hx
    · rwa [setM_other e] at h
  · rw [setM_same]; decide
theorem zeros_finish {m : Int → Int} {x : Int} (hx : m x = 1) : zeros (setM m x 2) = zeros m := by
  have h : ∀ L : List Int, L.filter (fun y => decide (setM m x 2 y = 0)) = L.filter (fun y => decide (m y = 0)) := fun L => by
    refine List.filter_congr (fun y _ => decide_eq_decide.2 ?_)
    by_cases e : y = x
    · subst e; rw [setM_same, hx]; omega
    · rw [setM_other e]
  unfold zeros
  rw [h]
structure MStep (s : Binds) (m m' : Int → Int) (n n' : Nat) : Prop where
  inv : MInv s m'
  under : ∀ x, m' x = 1 ↔ m x = 1
  done : ∀ x, m x = 2 → m' x = 2
  cost : n' + 2 * zeros m' ≤ n + 2 * zeros m
theorem MStep.refl {s : Binds} {m : Int → Int} {n : Nat} (h : MInv s m) : MStep s m m n n := ⟨h, fun _ => Iff.rfl, fun _ h => h, Nat.le_refl _⟩
theorem MStep.trans {s : Binds} {m m' m'' : Int → Int} {n n' n'' : Nat} (h : MStep s m m' n n') (k : MStep s m' m'' n' n'') : MStep s m m'' n n'' :=
  ⟨k.inv, fun x => (k.under x).trans (h.under x), fun x hx => k.done x (h.done x hx), Nat.le_trans k.cost h.cost⟩
theorem MStep.close {s : Binds} {m m' : Int → Int} {x : Int} {n n' : Nat} (h0 : m x = 0) (hv : x ∈ V0) (h : MStep s (setM m x 1) m' (n + 1) n') (hn : ∀ y ∈ nextV s x, m' y = 2) : MStep s m (setM m' x 2) n (n' + 1) := by
  have hx1 : m' x = 1 := (h.under x).2 (setM_same _ _ _)
  refine ⟨h.inv.finish hx1 hn, fun y => ?_, fun y hy => ?_, ?_⟩
  · by_cases e : y = x
    · subst e; rw [setM_same, h0]; omega
    · rw [setM_other e, h.under y, setM_other e]
  · by_cases e : y = x
    · subst e; exact setM_same _ _ _
    · rw [setM_other e]; exact h.done y (by rw [setM_other e]; exact hy)
  · rw [zeros_finish hx1]
    have := zeros_start h0 hv
    have := h.cost
    omega
end Go.Proofs.YtjglbadkbhopoaaGreatDoor
namespace Go.Proofs.YtjglbadkbhopoaaGreatDoor
open Go.RowKit
set_option linter.unusedVariables false
set_option maxRecDepth 100000
def heldV (v : Value) : Option (DataW Value × List MemPlace) := some (.held v, [])
def KM (w : World) (b n : Nat) (f : Int → Option Value) : Prop :=
  ∃ D : DataW Value, w.ownsMap Tryz.prog 3 heldV b n D ∧ Go.Maps.IsMap D ∧ ∀ (x : Int) z, D.atKey (.int .i64 x) z = (match f x with | some v => .held v | none => z)
theorem KM.made (w : World) : KM (w.alloc (.map #[] 0)) w.heap.size 0 (fun _ => none) :=
  ⟨.map [], World.ownsMap_made w _ _ _, Go.Maps.isMap_empty, fun x z => by simp [DataW.atKey]⟩
theorem KM.kept {w w' : World} {b n : Nat} {f : Int → Option Value} {row : Option Nat} (h : KM w b n f) (hg : w.grownBy w' row) (hne : some b ≠ row) : KM w' b n f := by
  obtain ⟨D, h1, h2, h3⟩ := h
  exact ⟨D, h1.kept hg hne, h2, h3⟩
theorem KM.lt {w : World} {b n : Nat} {f : Int → Option Value} (h : KM w b n f) : b < w.heap.size := by
  obtain ⟨D, h1, -⟩ := h; exact h1.lt
theorem KM.ext {w w' : World} {b n : Nat} {f : Int → Option Value} (h : KM w b n f) (hb : Below w.heap.size w w') : KM w' b n f :=
  h.kept (grown_of_below hb none) (by simp)
theorem KM.map {w : World} {b n : Nat} {f : Int → Option Value} (h : KM w b n f) : ∃ es c, w.heap[b]? = some (.map es c) := by
  obtain ⟨D, ⟨es, c, h1, -⟩, -⟩ := h; exact ⟨es, c, h1⟩
def setK (f : Int → Option Value) (x : Int) (v : Value) : Int → Option Value := fun y => if y = x then some v else f y
theorem KM.has {D : DataW Value} {f : Int → Option Value} (h : ∀ (x : Int) z, D.atKey (.int .i64 x) z = (match f x with | some v => .held v | none => z)) (n : Int) : Go.Maps.has D (.int .i64 n) = (f n).isSome := by
  cases hf : f n with
  | none => exact Go.Maps.has_false_of_atKey (fun z => by rw [h n z, hf])
  | some v => exact Go.Maps.has_true_of_atKey (y := .held v) (fun z => by rw [h n z, hf])
theorem wp_km_ok {P : Program} (hP : P = Tryz.prog) {w : World} {ops : Array Oper} {rest : List Oper} {o : Oper} {a : Act} {Q : Exit → Act → World → Prop} (hgd : o.guard = none) {m x : Operand} (ho : o.op = .lookup 105 m x true)
    {b c : Nat} {f : Int → Option Value} (h : KM w b c f) (hm : a.eval m = .map (some b)) {n : Int} (hx : a.eval x = .int .i64 n) (h0 : (Lit.int .i64 n).wf = true)
    (k : ∀ v, wpList P ops Q rest (a.put o.dst (.tuple #[v, .bool (f n).isSome])) w) : wpList P ops Q (o :: rest) a w := by
  subst hP
  obtain ⟨D, h2, h3, h4⟩ := h
  refine wpList_lookup_own_ok w hgd m x _ ho _ _ kInt Tryz.underlying105 heldV (Tryz.zeroValue23 w) _ _ rfl b c D hm h2 _ _ hx (Go.Maps.keyOf_int_mk Tryz.underlying3 h0) ?_
  intro v ps hv
  rw [KM.has h4]
  exact k v
theorem wp_km_at {P : Program} (hP : P = Tryz.prog) {w : World} {ops : Array Oper} {rest : List Oper} {o : Oper} {a : Act} {Q : Exit → Act → World → Prop} (hgd : o.guard = none) {m x : Operand} (ho : o.op = .lookup 105 m x false)
    {b c : Nat} {f : Int → Option Value} (h : KM w b c f) (hm : a.eval m = .map (some b)) {n : Int} (hx : a.eval x = .int .i64 n) (h0 : (Lit.int .i64 n).wf = true)
    (k : wpList P ops Q rest (a.put o.dst ((f n).getD (.slice none 0 0))) w) : wpList P ops Q (o :: rest) a w := by
  subst hP
  refine wpList_plain hgd fun K hK => ?_
  obtain ⟨D, h2, h3, h4⟩ := h
  obtain ⟨v, ps, hrun, hv⟩ := h2.lookup kInt Tryz.underlying105 (Tryz.zeroValue23 w) (show heldV (.slice none 0 0) = _ from rfl) (Go.Maps.keyOf_int_mk Tryz.underlying3 h0)
  rw [h4 n] at hv
  have he : v = (f n).getD (.slice none 0 0) := by
    unfold heldV at hv
    cases hf : f n with
    | none => rw [hf] at hv; simp at hv; exact hv.1
    | some u => rw [hf] at hv; simp at hv; exact hv.1
  subst he
  unfold Oper.wp
  simp [execOp, ho, hm, hx, hrun, Result.andThen]
  exact hK _ _ k
theorem wp_km_put {P : Program} (hP : P = Tryz.prog) {w : World} {ops : Array Oper} {rest : List Oper} {o : Oper} {a : Act} {Q : Exit → Act → World → Prop} (hgd : o.guard = none) {m x v : Operand} (ho : o.op = .mapUpdate 105 m x v)
    {b c : Nat} {f : Int → Option Value} (h : KM w b c f) (hm : a.eval m = .map (some b)) {n : Int} (hx : a.eval x = .int .i64 n) {u : Value} (hv : a.eval v = u) (h0 : (Lit.int .i64 n).wf = true) (hl : c ≤ 1000000000)
    (k : ∀ w', KM w' b (c + 1) (setK f n u) → w.grownBy w' (some b) → wpList P ops Q rest (a.put o.dst undef) w') : wpList P ops Q (o :: rest) a w := by
  subst hP
  obtain ⟨D, h2, h3, h4⟩ := h
  refine wpList_mapUpdate_own w hgd m x v _ ho _ _ kInt Tryz.underlying105 heldV b c D hm h2 (by unfold maxLen; omega) _ _ _ hx hv (Go.Maps.keyOf_int_mk Tryz.underlying3 h0) _ [] rfl (fun w' a1 a2 => k w' ⟨_, a1, h3.put _ _, fun y z => ?_⟩ a2)
  unfold setK
  by_cases e : y = n
  · subst e
    rw [Go.Maps.atKey_put_same h3 (by trivial), if_pos rfl]
  · rw [Go.Maps.atKey_put_other (by simpa using e), h4 y, if_neg e]
def MM (w : World) (b n : Nat) (m : Int → Int) : Prop :=
  ∃ D : DataW Unit, w.ownsMap Tryz.prog 3 (plainElem Tryz.prog 3) b n D ∧ Go.Maps.IsMap D ∧ ∀ x : Int, D.atKey (.int .i64 x) (.lit (.int .i64 0)) = .lit (.int .i64 (m x))
theorem MM.made (w : World) : MM (w.alloc (.map #[] 0)) w.heap.size 0 (fun _ => 0) :=
  ⟨.map [], World.ownsMap_made w _ _ _, Go.Maps.isMap_empty, fun x => by simp [DataW.atKey]⟩
theorem MM.kept {w w' : World} {b n : Nat} {m : Int → Int} {row : Option Nat} (h : MM w b n m) (hg : w.grownBy w' row) (hne : some b ≠ row) : MM w' b n m := by
  obtain ⟨D, h1, h2, h3⟩ := h
  exact ⟨D, h1.kept hg hne, h2, h3⟩
theorem MM.ext {w w' : World} {b n : Nat} {m : Int → Int} (h : MM w b n m) (hb : Below w.heap.size w w') : MM w' b n m :=
  h.kept (grown_of_below hb none) (by simp)
theorem MM.map {w : World} {b n : Nat} {m : Int → Int} (h : MM w b n m) : ∃ es c, w.heap[b]? = some (.map es c) := by
  obtain ⟨D, ⟨es, c, h1, -⟩, -⟩ := h; exact ⟨es, c, h1⟩
theorem wp_mm_look {P : Program} (hP : P = Tryz.prog) {w : World} {ops : Array Oper} {rest : List Oper} {o : Oper} {a : Act} {Q : Exit → Act → World → Prop} (hgd : o.guard = none) {m x : Operand} (ho : o.op = .lookup 109 m x false)
    {b c : Nat} {f : Int → Int} (h : MM w b c f) (hm : a.eval m = .map (some b)) {n : Int} (hx : a.eval x = .int .i64 n) (h0 : (Lit.int .i64 n).wf = true)
    (k : wpList P ops Q rest (a.put o.dst (.int .i64 (f n))) w) : wpList P ops Q (o :: rest) a w := by
  subst hP
  obtain ⟨D, h2, h3, h4⟩ := h
  refine wpList_lookup_own_int w hgd m x _ ho _ _ .i64 kInt Tryz.underlying109 Tryz.underlying3 (Tryz.zeroValue3 w) b c D hm h2 _ _ hx (Go.Maps.keyOf_int_mk Tryz.underlying3 h0) ?_
  intro z hz _
  rw [h4 n] at hz
  injection hz with hz
  injection hz with _ hz
  subst hz
  exact k
theorem wp_mm_put {P : Program} (hP : P = Tryz.prog) {w : World} {ops : Array Oper} {rest : List Oper} {o : Oper} {a : Act} {Q : Exit → Act → World → Prop} (hgd : o.guard = none) {m x v : Operand} (ho : o.op = .mapUpdate 109 m x v)
    {b c : Nat} {f : Int → Int} (h : MM w b c f) (hm : a.eval m = .map (some b)) {n z : Int} (hx : a.eval x = .int .i64 n) (hv : a.eval v = .int .i64 z) (h0 : (Lit.int .i64 n).wf = true) (hz : (Lit.int .i64 z).wf = true) (hl : c ≤ 1000000000)
    (k : ∀ w', MM w' b (c + 1) (setM f n z) → w.grownBy w' (some b) → wpList P ops Q rest (a.put o.dst undef) w') : wpList P ops Q (o :: rest) a w := by
  subst hP
  obtain ⟨D, h2, h3, h4⟩ := h
  refine wpList_mapUpdate_own w hgd m x v _ ho _ _ kInt Tryz.underlying109 _ b c D hm h2 (by unfold maxLen; omega) _ _ _ hx hv (Go.Maps.keyOf_int_mk Tryz.underlying3 h0) _ [] (plainElem_int Tryz.underlying3 hz) (fun w' a1 a2 => k w' ⟨_, a1, h3.put _ _, fun y => ?_⟩ a2)
  by_cases e : y = n
  · subst e
    rw [Go.Maps.atKey_put_same h3 (by trivial), setM_same]
  · rw [Go.Maps.atKey_put_other (by simpa using e), h4 y, setM_other e]
theorem turned_keep {w w' : World} {b : Nat} (hm : ∃ es c, w.heap[b]? = some (.map es c)) (hg : w.grownBy w' (some b)) (E : List Nat) : Keep E w w' := fun k cells q fz hk hq => by
  refine hg.block k (Array.getElem?_eq_some_iff.1 hk).1 (fun e => ?_)
  obtain ⟨es, c, hm⟩ := hm
  rw [Option.some.inj e, hm] at hk
  cases hk
theorem turned_cell {w w' : World} {b : Nat} (hm : ∃ es c, w.heap[b]? = some (.map es c)) (hg : w.grownBy w' (some b)) {ad : Addr} {v : Value} (h : w.cell? ad = some v) : w'.cell? ad = some v := by
  have hlt : ad.block < w.heap.size := by
    rcases Nat.lt_or_ge ad.block w.heap.size with h1 | h1
    · exact h1
    · exfalso; unfold World.cell? at h; rw [Array.getElem?_eq_none h1] at h; simp at h
  have hne : some ad.block ≠ some b := fun e => by
    obtain ⟨es, c, hm⟩ := hm
    unfold World.cell? at h
    rw [Option.some.inj e, hm] at h; simp at h
  unfold World.cell? at h ⊢
  rw [hg.block ad.block hlt hne]; exact h
end Go.Proofs.YtjglbadkbhopoaaGreatDoor
namespace Go.Proofs.YtjglbadkbhopoaaGreatDoor
open Go.RowKit
set_option maxRecDepth 100000
set_option maxHeartbeats 4000000
set_option linter.unusedVariables false
theorem grow_trans {w w1 w2 : World} {row : Option Nat} (h : w.grownBy w1 row) (k : w1.grownBy w2 row) : w.grownBy w2 row :=
  ⟨k.os.trans h.os, k.tape.trans h.tape, k.output.trans h.output, Nat.le_trans h.size k.size, fun i hi hr => (k.block i (Nat.lt_of_lt_of_le hi h.size) hr).trans (h.block i hi hr)⟩
theorem grow_refl (w : World) (row : Option Nat) : w.grownBy w row := ⟨rfl, rfl, rfl, Nat.le_refl _, fun _ _ _ => rfl⟩
theorem MStep.zeros {s : Binds} {m m' : Int → Int} {n n' : Nat} (h0 : MInv s m) (h : MStep s m m' n n') : zeros m' ≤ zeros m := by
  have hx : ∀ x, m' x = 0 → m x = 0 := fun x hx => by
    rcases h0.val x with h1 | h1 | h1
    · exact h1
    · have := (h.under x).2 h1; omega
    · have := h.done x h1; omega
  have hL : ∀ L : List Int, (L.filter (fun y => decide (m' y = 0))).length ≤ (L.filter (fun y => decide (m y = 0))).length := fun L => by
    induction L with
    | nil => exact Nat.le_refl _
    | cons a L ih =>
      rw [List.filter_cons, List.filter_cons]
      by_cases e : m' a = 0
      · rw [if_pos (decide_eq_true e), if_pos (decide_eq_true (hx a e))]; simp; exact ih
      · rw [if_neg (by simpa using e)]
        by_cases e2 : m a = 0
        · rw [if_pos (decide_eq_true e2)]; simp; omega
        · rw [if_neg (by simpa using e2)]; exact ih
  exact hL V0
def KR (w : World) (f : Int → Option Value) (s : Binds) : Prop := ∀ x, match getB s x with | none => f x = none | some t => ∃ v, f x = some v ∧ T0 w v t
theorem KR.mov {w w' : World} {f : Int → Option Value} {s : Binds} (h : KR w f s) (hm : ∀ E, Keep E w w') : KR w' f s := fun x => by
  have := h x
  split at this
  · exact this
  · obtain ⟨v, hv, ht⟩ := this
    exact ⟨v, hv, Kd.S_mov (hm _) ht⟩
theorem KR.at {w : World} {f : Int → Option Value} {s : Binds} (h : KR w f s) (x : Int) : ∃ t, T0 w ((f x).getD (.slice none 0 0)) t ∧ nextV s x = vars t ∧ (t = [] ∨ getB s x = some t) := by
  have := h x
  unfold nextV
  split at this
  · next hg => exact ⟨[], by rw [this]; exact ⟨none, 0, rfl, Nat.le_refl _, Nat.zero_le _, fun i x hx => by simp at hx⟩, by first | rfl | (rw [hg]; rfl), .inl rfl⟩
  · next t hg =>
    obtain ⟨v, hv, ht⟩ := this
    exact ⟨t, by rw [hv]; exact ht, by first | rfl | rw [hg], .inr hg⟩
theorem wf_v0 {x : Int} (h : x ∈ V0) : (Lit.int .i64 x).wf = true := by
  have := mem_V0.1 h
  exact wf_i64 (by omega) (by omega)
def VisOk (s : Binds) (m : Int → Int) (n : Nat) (x : Int) (vb : Nat) (w : World) (e : Ending) (w' : World) : Prop :=
  w.grownBy w' (some vb) ∧ ((e = .returned (.bool true) ∧ ∃ z, Leads s z z) ∨ (e = .returned (.bool false) ∧ ∃ m' n', MStep s m m' n n' ∧ m' x = 2 ∧ MM w' vb n' m'))
theorem VisOk.yes {s : Binds} {m : Int → Int} {n : Nat} {x : Int} {vb : Nat} {w w' : World} (hg : w.grownBy w' (some vb)) {z : Int} (h : Leads s z z) : VisOk s m n x vb w (.returned (.bool true)) w' := ⟨hg, .inl ⟨rfl, z, h⟩⟩
theorem VisOk.no {s : Binds} {m : Int → Int} {n : Nat} {x : Int} {vb : Nat} {w w' : World} (hg : w.grownBy w' (some vb)) {m' : Int → Int} {n' : Nat} (h : MStep s m m' n n') (h2 : m' x = 2) (h3 : MM w' vb n' m') : VisOk s m n x vb w (.returned (.bool false)) w' := ⟨hg, .inr ⟨rfl, m', n', h, h2, h3⟩⟩
theorem loopsI_c (s : Binds) (kb vb : Nat) (hne : kb ≠ vb) (hok : ∀ x t, getB s x = some t → trmOk t = true) : ∀ (N : Nat) (m : Int → Int) (n kn : Nat) (f : Int → Option Value) (x : Int) (w : World), zeros m ≤ N → MInv s m → (∀ y, m y = 1 → Leads s y x) → KM w kb kn f → KR w f s → MM w vb n m → n + 2 * zeros m ≤ 200000 → x ∈ V0 →
    Calls Tryz.prog 79 #[.map (some vb), .map (some kb), .int .i64 x] w fun e w' => VisOk s m n x vb w e w' := by
  intro N
  induction N with
  | zero =>
    intro m n kn f x w hz hI hu hK hR hM hn hx
    have hwf := wf_v0 hx
    have HG := Lib.hid (grow_refl w (some vb))
    have HM := Lib.hid hM
    rcases hI.val x with h0 | h1 | h2
    · have := zeros_start h0 hx; omega
    · have HV := Lib.hid (hu x h1)
      clear hz hI hu hK hR hM hn hx
      go_enter Tryz.func79, Tryz.ntmps79
      go_wp2_with (refine wp_mm_look rfl rfl rfl HM.out rfl rfl hwf ?_; rw [h1])
      go_ret
      exact VisOk.yes HG.out HV.out
    · have HV := Lib.hid (MStep.refl (n := n) hI)
      have H2 := Lib.hid h2
      clear hz hI hu hK hR hM hn hx
      go_enter Tryz.func79, Tryz.ntmps79
      go_wp2_with (refine wp_mm_look rfl rfl rfl HM.out rfl rfl hwf ?_; rw [h2])
      go_ret
      exact VisOk.no HG.out HV.out H2.out HM.out
  | succ N ih =>
    intro m n kn f x w hz hI hu hK hR hM hn hx
    have hwf := wf_v0 hx
    have HG := Lib.hid (grow_refl w (some vb))
    have HM := Lib.hid hM
    rcases hI.val x with h0 | h1 | h2
    · have HK := Lib.hid hK
      have HR := Lib.hid hR
      have HI := Lib.hid hI
      have HU := Lib.hid hu
      have HX := Lib.hid hx
      have HZ := Lib.hid hz
      have H0 := Lib.hid h0
      have HN := Lib.hid hn
      have IH := Lib.hid ih
      clear ih hz hI hu hK hR hM hx
      go_enter Tryz.func79, Tryz.ntmps79
      go_upto_region 7 with (first | (refine wp_mm_look rfl rfl rfl HM.out rfl rfl hwf ?_; rw [h0]) | (refine wp_mm_put rfl rfl rfl HM.out rfl rfl rfl hwf (by decide) (by omega) ?_; intro w1 hm1 hg1; have HM1 := Lib.hid hm1; have HG1 := Lib.hid hg1; clear hm1 hg1))
      obtain ⟨t, ht, hnx, htt⟩ := KR.at (KR.mov HR.out (fun E => turned_keep HM.out.map HG1.out E)) x
      have HK1 := Lib.hid (KM.kept HK.out HG1.out (by simpa using hne))
      have hlt : t.length ≤ 1000000000 := by
        rcases htt with rfl | hgt
        · simp
        · have h := hok x t hgt
          unfold trmOk at h
          simp only [Bool.and_eq_true, decide_eq_true_eq] at h
          omega
      have hvin : ∀ y ∈ free t, y ∈ V0 := fun y hy => by
        rcases htt with rfl | hgt
        · cases hy
        · exact mem_V0.2 (vars_ok (hok x t hgt) y (mem_free.1 hy))
      obtain ⟨A, c, ev, a1, a2, hC⟩ := ht
      have HF := Lib.hid (imFree_c t A c w1 hC hlt)
      have EV := Lib.hid ev
      clear ev hC htt
      go_upto_region 8 with (first | (refine wp_km_at rfl rfl rfl HK1.out rfl rfl hwf ?_; rw [EV.out]) | (go_at_call 45; (with_reducible refine HF.out.mono ?_); rintro e w2 ⟨v, rfl, hO, hb2⟩; obtain ⟨B, d, rfl, b1, b2, hRow⟩ := Kd.O_read hO; have HRow := Lib.hid hRow; have HB2 := Lib.hid hb2; clear hO hRow hb2))
      have hlen : (free t).length ≤ 9223372036854775807 := by have := Nat.le_trans b1 b2; unfold maxLen at this; omega
      have HM2 := Lib.hid (MM.ext HM1.out HB2.out)
      have HK2 := Lib.hid (KM.ext HK1.out HB2.out)
      have HG2 := Lib.hid (grow_trans HG1.out (grown_of_below HB2.out (some vb)))
      have HR2 := Lib.hid (KR.mov HR.out (fun E => turned_keep HM.out.map HG2.out E))
      have HI1 := Lib.hid (MInv.start HI.out h0)
      have HNX := Lib.hid (show ∀ y, y ∈ nextV s x ↔ y ∈ free t from fun y => by rw [hnx]; exact mem_free.symm)
      clear HF EV a1 a2 hnx
      go_loopw [23] (fun v23 wr => ∃ k : Nat, v23 = .int .i64 k ∧ k ≤ (free t).length ∧ ∃ (mk : Int → Int) (nk : Nat), Hid (MM wr vb nk mk) ∧ Hid (MStep s (setM m x 1) mk (n + 1) nk) ∧ Hid (∀ y ∈ (free t).take k, mk y = 2) ∧ Hid (w2.grownBy wr (some vb))) (fun v23 _ => (free t).length - (intOf v23).toNat)
      case atStart => exact ⟨0, rfl, Nat.zero_le _, _, _, HM2, Lib.hid (MStep.refl HI1.out), Lib.hid (by simp), Lib.hid (grow_refl _ _)⟩
      case round =>
        obtain ⟨k, rfl, hk, mk, nk, HMk, HSk, HDk, HGk⟩ := hrel
        have HGw := Lib.hid (grow_trans HG2.out HGk.out)
        by_cases hlt2 : k < (free t).length
        · obtain ⟨y, hy⟩ : ∃ y, (free t)[k]? = some y := ⟨_, List.getElem?_eq_getElem hlt2⟩
          obtain ⟨ad, hA, z0⟩ := int_at HRow.out hy
          have y0 := turned_cell HM2.out.map HGk.out z0
          subst hA
          have hyf : y ∈ free t := List.mem_of_getElem? hy
          have hyn : y ∈ nextV s x := (HNX.out y).2 hyf
          have hz1 := MStep.zeros HI1.out HSk.out
          have hz2 := zeros_start h0 HX.out
          have hc1 := HSk.out.cost
          have HQ := Lib.hid (IH.out mk nk kn f y wr (by have := HZ.out; omega) HSk.out.inv (fun q hq => by
            have h1 := (HSk.out.under q).1 hq
            by_cases e : q = x
            · subst e; exact .one hyn
            · rw [setM_other e] at h1; exact .on (HU.out q h1) hyn) (KM.kept HK2.out HGk.out (by simpa using hne)) (KR.mov HR2.out (fun E => turned_keep HM2.out.map HGk.out E)) HMk.out (by have := HN.out; omega) (hvin y hyf))
          have HT := Lib.hid (show ∀ mm : Int → Int, mm y = 2 → (∀ q ∈ (free t).take k, mm q = 2) → ∀ q ∈ (free t).take (k + 1), mm q = 2 from fun mm h1 h2 q hq => by
            rw [List.take_add_one, List.mem_append] at hq
            rcases hq with hq | hq
            · exact h2 q hq
            · rw [hy] at hq; simp at hq; subst hq; exact h1)
          clear hyf hyn hz1 hz2 hc1 hy z0
          go_wp2_with (go_at_call 79; (with_reducible refine HQ.out.mono ?_); rintro e w3 ⟨hg3, ⟨rfl, hcyc⟩ | ⟨rfl, m3, n3, hs3, h23, hm3⟩⟩)
          · have HG3 := Lib.hid (grow_trans HGw.out hg3)
            have HC3 := Lib.hid hcyc
            clear hg3 hcyc
            go_wp2
            go_ret
            obtain ⟨z, hz⟩ := HC3.out
            exact VisOk.yes HG3.out hz
          · have HG3 := Lib.hid (grow_trans HGk.out hg3)
            have HM3 := Lib.hid hm3
            have HS3 := Lib.hid hs3
            have HD3 := Lib.hid h23
            clear hg3 hm3 hs3 h23
            go_wp2
            exact ⟨⟨k + 1, by go_num, hlt2, m3, n3, HM3, Lib.hid (MStep.trans HSk.out HS3.out), Lib.hid (HT.out m3 HD3.out (fun q hq => HS3.out.done q (HDk.out q hq))), HG3⟩, by simp [intOf]; omega⟩
        · have HD := Lib.hid (show ∀ y ∈ nextV s x, mk y = 2 from fun y hy => HDk.out y (by rw [List.take_of_length_le (by omega)]; exact (HNX.out y).1 hy))
          have HE := Lib.hid (MStep.close h0 HX.out HSk.out HD.out)
          have hck : nk ≤ 1000000000 := by have := HSk.out.cost; have := HN.out; have := zeros_start h0 HX.out; omega
          go_wp2_with (refine wp_mm_put rfl rfl rfl HMk.out rfl rfl rfl hwf (by decide) hck ?_; intro w4 hm4 hg4; have HM4 := Lib.hid hm4; have HG4 := Lib.hid (grow_trans HGw.out hg4); clear hm4 hg4)
          go_ret
          exact VisOk.no HG4.out HE.out (setM_same _ _ _) HM4.out
    · have HV := Lib.hid (hu x h1)
      clear ih hz hI hu hK hR hM hn hx
      go_enter Tryz.func79, Tryz.ntmps79
      go_wp2_with (refine wp_mm_look rfl rfl rfl HM.out rfl rfl hwf ?_; rw [h1])
      go_ret
      exact VisOk.yes HG.out HV.out
    · have HV := Lib.hid (MStep.refl (n := n) hI)
      have H2 := Lib.hid h2
      clear ih hz hI hu hK hR hM hn hx
      go_enter Tryz.func79, Tryz.ntmps79
      go_wp2_with (refine wp_mm_look rfl rfl rfl HM.out rfl rfl hwf ?_; rw [h2])
      go_ret
      exact VisOk.no HG.out HV.out H2.out HM.out
end Go.Proofs.YtjglbadkbhopoaaGreatDoor
namespace Go.Proofs.YtjglbadkbhopoaaGreatDoor
open Go.RowKit
set_option maxRecDepth 100000
set_option maxHeartbeats 4000000
set_option linter.unusedVariables false
theorem sub1_c (s : Binds) (kb vb : Nat) (hne : kb ≠ vb) (hok : ∀ x t, getB s x = some t → trmOk t = true) (x : Int × Trm) (m : Int → Int) (n kn : Nat) (f : Int → Option Value) (pm pk : Addr) (tv : Value) (w : World)
    (hI : MInv s m) (hu : ∀ y, m y ≠ 1) (hK : KM w kb kn f) (hR : KR w f s) (hM : MM w vb n m) (hn : n + 2 * zeros m ≤ 200000) (hx : x.1 ∈ V0) (h1 : w.cell? pm = some (.map (some vb))) (h2 : w.cell? pk = some (.map (some kb))) :
    Calls Tryz.prog 78 #[.agg #[.int .i64 x.1, tv], .pointer (some pm), .pointer (some pk)] w fun e w' => VisOk s m n x.1 vb w e w' := by
  have HL := Lib.hid (fun o => loopsI_c s kb vb hne hok (zeros m) m n kn f x.1 (w.alloc o) (Nat.le_refl _) hI (fun y h => absurd h (hu y)) (KM.ext hK (bel_alloc (Below.refl _ _) o)) (KR.mov hR (fun E => Keep.of_below (bel_alloc (Below.refl _ _) o))) (MM.ext hM (bel_alloc (Below.refl _ _) o)) hn hx)
  have HG := Lib.hid (fun o => grown_of_below (bel_alloc (Below.refl _ w) o) (some vb))
  have c1 := fun o => cell_keep (bel_alloc (Below.refl _ w) o) h1
  have c2 := fun o => cell_keep (bel_alloc (Below.refl _ w) o) h2
  clear hK hR hM hI hu hn hx h1 h2
  obtain ⟨v, t⟩ := x
  simp only at HL ⊢
  go_enter Tryz.func78, Tryz.ntmps78
  go_wp2_with (go_at_call 79; (with_reducible refine (HL.out _).mono ?_); rintro e w1 ⟨hg, ⟨rfl, hc⟩ | ⟨rfl, m', n', a1, a2, a3⟩⟩; · have HG1 := Lib.hid (grow_trans (HG.out _) hg); have HC := Lib.hid hc; clear hg hc; go_wp2; go_ret; exact ⟨HG1.out, .inl ⟨rfl, HC.out⟩⟩)
  all_goals
    have HG1 := Lib.hid (grow_trans (HG.out _) hg)
    have HA := Lib.hid a1
    have HB := Lib.hid a2
    have HC := Lib.hid a3
    clear hg a1 a2 a3
    go_wp2
    go_ret
    exact ⟨HG1.out, .inr ⟨rfl, m', n', HA.out, HB.out, HC.out⟩⟩
def AllVis (s : Binds) (vb : Nat) (w : World) (z : Int) (w' : World) : Prop := w.grownBy w' (some vb) ∧ ((0 ≤ z ∧ ∃ q, Leads s q q) ∨ (z < 0 ∧ ∀ b ∈ s, ¬ Leads s b.1 b.1))
theorem sx_ixf (s : Binds) (A : Option Addr) (c : Nat) (kb vb : Nat) (hne : kb ≠ vb) (hok : ∀ x t, getB s x = some t → trmOk t = true) (kn : Nat) (f : Int → Option Value) (pm pk : Addr) (w : World)
    (h : Kd.bind.C 107 w A s) (hl : s.length ≤ 1000000000) (hv : ∀ b ∈ s, b.1 ∈ V0) (hK : KM w kb kn f) (hR : KR w f s) (hM : MM w vb 0 (fun _ => 0)) (h1 : w.cell? pm = some (.map (some vb))) (h2 : w.cell? pk = some (.map (some kb))) :
    Calls Tryz.prog 106 #[.slice A s.length c, .func (.func 78) #[] #[.pointer (some pm), .pointer (some pk)]] w fun e w' => ∃ z : Int, e = .returned (.int .i64 z) ∧ Hid (AllVis s vb w z w') := by
  have H := Lib.hid h
  have HV := Lib.hid hv
  have HK := Lib.hid hK
  have HR := Lib.hid hR
  have HM := Lib.hid hM
  have H1 := Lib.hid h1
  have H2 := Lib.hid h2
  have HI0 := Lib.hid (show MInv s (fun _ => 0) from ⟨fun _ => .inl rfl, fun x h => by simp at h, fun x h => by simp at h⟩)
  clear h hv hK hR hM h1 h2
  go_enter Tryz.func106, Tryz.ntmps106
  go_wp2
  go_loopw [8] (fun v8 wr => ∃ k : Nat, v8 = .int .i64 k ∧ k ≤ s.length ∧ ∃ (mk : Int → Int) (nk : Nat), Hid (MM wr vb nk mk) ∧ Hid (MStep s (fun _ => 0) mk 0 nk) ∧ Hid (∀ b ∈ s.take k, mk b.1 = 2) ∧ Hid (w.grownBy wr (some vb))) (fun v8 _ => s.length - (intOf v8).toNat)
  case atStart => exact ⟨0, rfl, Nat.zero_le _, _, _, HM, Lib.hid (MStep.refl HI0.out), Lib.hid (by simp), Lib.hid (grow_refl _ _)⟩
  case round =>
    obtain ⟨k, rfl, hk, mk, nk, HMk, HSk, HDk, HGk⟩ := hrel
    by_cases hlt : k < s.length
    · obtain ⟨x, hc⟩ : ∃ x, s[k]? = some x := ⟨_, List.getElem?_eq_getElem hlt⟩
      have hC := H.out
      obtain ⟨ad, B, cb, hA, x0, x1, y3, y4, y5⟩ := bind_at hC hc
      subst hA
      have y_0 := turned_cell HM.out.map HGk.out x0
      have y_1 := turned_cell HM.out.map HGk.out x1
      have hu : ∀ y, mk y ≠ 1 := fun y hy => by have := (HSk.out.under y).1 hy; simp at this
      have HQ := Lib.hid (sub1_c s kb vb hne hok x mk nk kn f pm pk (.slice B x.2.length cb) wr HSk.out.inv hu (KM.kept HK.out HGk.out (by simpa using hne)) (KR.mov HR.out (fun E => turned_keep HM.out.map HGk.out E)) HMk.out (by have := HSk.out.cost; have := zeros_le (fun _ => 0); omega) (HV.out x (List.mem_of_getElem? hc)) (turned_cell HM.out.map HGk.out H1.out) (turned_cell HM.out.map HGk.out H2.out))
      have HT := Lib.hid (show ∀ mm : Int → Int, mm x.1 = 2 → (∀ b ∈ s.take k, mm b.1 = 2) → ∀ b ∈ s.take (k + 1), mm b.1 = 2 from fun mm h1 h2 q hq => by
        rw [List.take_add_one, List.mem_append] at hq
        rcases hq with hq | hq
        · exact h2 q hq
        · rw [hc] at hq; simp at hq; subst hq; exact h1)
      clear hC hc x0 x1 hu
      go_wp2_with (go_at_call 78; (with_reducible refine HQ.out.mono ?_); rintro e w1 ⟨hg, ⟨rfl, hc⟩ | ⟨rfl, m3, n3, hs3, h23, hm3⟩⟩)
      · have HG3 := Lib.hid (grow_trans HGk.out hg)
        have HC3 := Lib.hid hc
        clear hg hc
        go_wp2
        go_ret
        exact ⟨_, rfl, Lib.hid ⟨HG3.out, .inl ⟨by omega, HC3.out⟩⟩⟩
      · have HG3 := Lib.hid (grow_trans HGk.out hg)
        have HM3 := Lib.hid hm3
        have HS3 := Lib.hid hs3
        have HD3 := Lib.hid h23
        clear hg hm3 hs3 h23
        go_wp2
        exact ⟨⟨k + 1, by go_num, hlt, m3, n3, HM3, Lib.hid (MStep.trans HSk.out HS3.out), Lib.hid (HT.out m3 HD3.out (fun q hq => HS3.out.done _ (HDk.out q hq))), HG3⟩, by simp [intOf]; omega⟩
    · have HE := Lib.hid (show ∀ b ∈ s, ¬ Leads s b.1 b.1 from fun b hb => HSk.out.inv.acyc b.1 (HDk.out b (by rw [List.take_of_length_le (by omega)]; exact hb)))
      go_wp2
      go_ret
      exact ⟨-1, rfl, Lib.hid ⟨HGk.out, .inr ⟨by omega, HE.out⟩⟩⟩
theorem sx_con (s : Binds) (A : Option Addr) (c : Nat) (kb vb : Nat) (hne : kb ≠ vb) (hok : ∀ x t, getB s x = some t → trmOk t = true) (kn : Nat) (f : Int → Option Value) (pm pk : Addr) (w : World)
    (h : Kd.bind.C 107 w A s) (hl : s.length ≤ 1000000000) (hv : ∀ b ∈ s, b.1 ∈ V0) (hK : KM w kb kn f) (hR : KR w f s) (hM : MM w vb 0 (fun _ => 0)) (h1 : w.cell? pm = some (.map (some vb))) (h2 : w.cell? pk = some (.map (some kb))) :
    Calls Tryz.prog 77 #[.slice A s.length c, .func (.func 78) #[] #[.pointer (some pm), .pointer (some pk)]] w fun e w' => ∃ q : Bool, e = .returned (.bool q) ∧ Hid (w.grownBy w' (some vb) ∧ ((q = true ∧ ∃ y, Leads s y y) ∨ (q = false ∧ ∀ b ∈ s, ¬ Leads s b.1 b.1))) := by
  have HX := Lib.hid (sx_ixf s A c kb vb hne hok kn f pm pk w h hl hv hK hR hM h1 h2)
  clear h hK hR hM h1 h2
  go_enter Tryz.func77, Tryz.ntmps77
  go_wp2_with (go_at_call 106; refine HX.out.mono ?_; rintro e w1 ⟨z, rfl, HZ⟩)
  go_ret
  obtain ⟨hg, h⟩ := HZ.out
  rcases h with ⟨hz, hq⟩ | ⟨hz, hq⟩
  · exact ⟨true, ret_bool (decide_eq_true hz), Lib.hid ⟨hg, .inl ⟨rfl, hq⟩⟩⟩
  · exact ⟨false, ret_bool (decide_eq_false (by omega)), Lib.hid ⟨hg, .inr ⟨rfl, hq⟩⟩⟩
end Go.Proofs.YtjglbadkbhopoaaGreatDoor
namespace Go.Proofs.YtjglbadkbhopoaaGreatDoor
open Go.RowKit
set_option maxRecDepth 100000
set_option maxHeartbeats 2000000
set_option linter.unusedVariables false
end Go.Proofs.YtjglbadkbhopoaaGreatDoor
namespace Go.Proofs.YtjglbadkbhopoaaGreatDoor
open Go.RowKit
set_option maxRecDepth 100000
set_option maxHeartbeats 16000000
set_option linter.unusedVariables false
def NB (g : Nat) (p1 p2 bv vs cv : Value) (w1 : World) : Prop :=
  w1.cell? ⟨g, 0, none⟩ = some p1 ∧ w1.cell? ⟨g, 1, none⟩ = some p2 ∧ w1.cell? ⟨g + 1, 2, none⟩ = some bv ∧ w1.cell? ⟨g + 1, 3, none⟩ = some vs ∧ w1.cell? ⟨g + 1, 4, none⟩ = some cv
end Go.Proofs.YtjglbadkbhopoaaGreatDoor
namespace Go.Proofs.YtjglbadkbhopoaaGreatDoor
open Go.RowKit
set_option maxRecDepth 100000
set_option maxHeartbeats 4000000
set_option linter.unusedVariables false
end Go.Proofs.YtjglbadkbhopoaaGreatDoor
namespace Go.Proofs.YtjglbadkbhopoaaGreatDoor
open Go.RowKit
set_option maxRecDepth 100000
set_option maxHeartbeats 8000000
set_option linter.unusedVariables false
end Go.Proofs.YtjglbadkbhopoaaGreatDoor
namespace Go.Proofs.YtjglbadkbhopoaaGreatDoor
open Go.RowKit
set_option maxRecDepth 100000
set_option maxHeartbeats 4000000
set_option linter.unusedVariables false
end Go.Proofs.YtjglbadkbhopoaaGreatDoor
namespace Go.Proofs.YtjglbadkbhopoaaGreatDoor
open Go.RowKit
set_option maxRecDepth 100000
set_option maxHeartbeats 4000000
set_option linter.unusedVariables false
def keysWf (s : Binds) : Prop := ∀ b ∈ s, (Lit.int .i64 b.1).wf = true
theorem getB_app (l : Binds) (b : Int × Trm) (x : Int) : getB (l ++ [b]) x = match getB l x with | some t => some t | none => if b.1 = x then some b.2 else none := by
  unfold getB
  rw [List.find?_append]
  cases h : l.find? (fun b => decide (b.1 = x)) with
  | some a => rfl
  | none =>
    by_cases e : b.1 = x
    · simp [e]
    · simp [e]
theorem KR.snoc {w : World} {f : Int → Option Value} {l : Binds} {b : Int × Trm} {v : Value} (h : KR w f l) (hf : f b.1 = none) (ht : T0 w v b.2) : KR w (setK f b.1 v) (l ++ [b]) := fun x => by
  have hx := h x
  rw [getB_app]
  cases hg : getB l x with
  | none =>
    rw [hg] at hx
    have hx : f x = none := hx
    by_cases e : x = b.1
    · subst e
      simp only [if_pos]
      exact ⟨v, by unfold setK; rw [if_pos rfl], ht⟩
    · simp only [if_neg (fun h : b.1 = x => e h.symm)]
      unfold setK; rw [if_neg e]; exact hx
  | some t =>
    rw [hg] at hx
    obtain ⟨u, hu, htu⟩ : ∃ v, f x = some v ∧ T0 w v t := hx
    have e : x ≠ b.1 := fun e => by subst e; rw [hf] at hu; cases hu
    exact ⟨u, by unfold setK; rw [if_neg e]; exact hu, htu⟩
theorem KR.dup {w : World} {f : Int → Option Value} {l : Binds} (h : KR w f l) {x : Int} {v : Value} (hf : f x = some v) : ∃ t, (x, t) ∈ l := by
  have hx := h x
  split at hx
  · rw [hf] at hx; cases hx
  · next t hg => exact ⟨t, getB_in hg⟩
def goodTo (s : Binds) (k : Nat) : Prop := ∀ (i : Nat) (a : Int × Trm), s[i]? = some a → i < k → 0 ≤ a.1 ∧ a.1 ≤ 99999 ∧ trmOk a.2 = true ∧ ∀ (j : Nat) (b : Int × Trm), s[j]? = some b → j < i → b.1 ≠ a.1
theorem goodTo.step {s : Binds} {k : Nat} (h : goodTo s k) {x : Int × Trm} (hx : s[k]? = some x) (h0 : 0 ≤ x.1) (h1 : x.1 ≤ 99999) (ht : trmOk x.2 = true) (hd : ∀ (j : Nat) (b : Int × Trm), s[j]? = some b → j < k → b.1 ≠ x.1) : goodTo s (k + 1) := fun i a ha hi => by
  by_cases e : i = k
  · subst e
    rw [hx] at ha
    obtain rfl := Option.some.inj ha
    exact ⟨h0, h1, ht, hd⟩
  · exact h i a ha (by omega)
theorem mem_take_ix {s : Binds} {k : Nat} {b : Int × Trm} (h : b ∈ s.take k) : ∃ j, j < k ∧ s[j]? = some b := by
  obtain ⟨j, hj⟩ := List.getElem?_of_mem h
  rw [List.getElem?_take] at hj
  by_cases e : j < k
  · rw [if_pos e] at hj; exact ⟨j, e, hj⟩
  · rw [if_neg e] at hj; cases hj
theorem good_end {s : Binds} (h : goodTo s s.length) : (∀ b ∈ s, b.1 ∈ V0) ∧ (∀ x t, getB s x = some t → trmOk t = true) ∧ (s.map (·.1)).Nodup := by
  have hm : ∀ b ∈ s, ∃ i, s[i]? = some b ∧ i < s.length := fun b hb => by
    obtain ⟨i, hi⟩ := List.getElem?_of_mem hb
    exact ⟨i, hi, (List.getElem?_eq_some_iff.1 hi).1⟩
  refine ⟨fun b hb => ?_, fun x t hg => ?_, ?_⟩
  · obtain ⟨i, hi, hl⟩ := hm b hb
    have := h i b hi hl
    exact mem_V0.2 ⟨this.1, this.2.1⟩
  · obtain ⟨i, hi, hl⟩ := hm _ (getB_in hg)
    exact (h i _ hi hl).2.2.1
  · exact nodup_ix.2 (fun i j a b ha hb hji => (h i a ha (List.getElem?_eq_some_iff.1 ha).1).2.2.2 j b hb hji)
theorem good_sub {s : Binds} (h : goodTo s s.length) (hl : ∀ b ∈ s, ¬ Leads s b.1 b.1) : subOk s = true := by
  refine sub_yes (fun i a ha => ?_)
  have hlt := (List.getElem?_eq_some_iff.1 ha).1
  obtain ⟨a0, a1, a2, a3⟩ := h i a ha hlt
  exact ⟨⟨a0, a1, a2, fun hr => hl a (List.mem_of_getElem? ha) (rch_leads hr (getB_nodup (good_end h).2.2 ha))⟩, a3⟩
theorem circle_sub {s : Binds} {y : Int} (hl : Leads s y y) : subOk s = false := by
  obtain ⟨t, hg, hr⟩ := leads_rch hl
  obtain ⟨i, hi⟩ := List.getElem?_of_mem (getB_in hg)
  exact sub_no1 hi (fun h => h.2.2.2 hr)
theorem subOkI_c (s : Binds) (sv : Value) (w : World) (hs : B0 w sv s) (hf : fitB s) (hw : keysWf s) :
    Calls Tryz.prog 42 #[sv] w fun e w' => e = .returned (.bool (subOk s)) ∧ Below w.heap.size w w' := by
  have HF := Lib.hid hf.2.2
  have hlen := hf.1
  have HW := Lib.hid hw
  obtain ⟨A, c, rfl, a1, a2, hC⟩ := hs
  have HC := Lib.hid hC
  have hmm := @run_makeMap Tryz.prog
  have s1 : ∀ (W : World) o, (W.alloc o).heap.size = W.heap.size + 1 := fun W o => by show (W.heap.push o).size = _; rw [Array.size_push]
  clear hf hw hC
  have HK0 := Lib.hid (KM.ext (KM.made w) (bel_alloc (Below.refl _ _) (.cells #[.map (some w.heap.size)] 105)))
  have HB0 := Lib.hid (bel_alloc (bel_alloc (Below.refl _ w) (.map #[] 0)) (.cells #[.map (some w.heap.size)] 105))
  have HP0 : Hid (((w.alloc (.map #[] 0)).alloc (.cells #[.map (some w.heap.size)] 105)).cell? ⟨w.heap.size + 1, 0, none⟩ = some (.map (some w.heap.size))) := Lib.hid (by
    have := Lib.cell_of_heap (heap_alloc_new (w.alloc (.map #[] 0)) (.cells #[.map (some w.heap.size)] 105)) 0
    rw [s1] at this; exact this)
  go_enter Tryz.func42, Tryz.ntmps42
  go_wp2
  go_loopw [12] (fun v12 wr => ∃ k : Nat, v12 = .int .i64 k ∧ k ≤ s.length ∧ ∃ f : Int → Option Value, Hid (KM wr w.heap.size k f) ∧ Hid (KR wr f (s.take k)) ∧ Hid (goodTo s k) ∧ Hid (wr.cell? ⟨w.heap.size + 1, 0, none⟩ = some (.map (some w.heap.size))) ∧ Hid (Below w.heap.size w wr)) (fun v12 _ => s.length - (intOf v12).toNat)
  case atStart => exact ⟨0, rfl, Nat.zero_le _, _, HK0, Lib.hid (fun x => by simp [getB]), Lib.hid (fun i a _ hi => by omega), HP0, HB0⟩
  case round =>
    obtain ⟨k, rfl, hk, f, HK, HR, HGd, HP, HB⟩ := hrel
    clear HK0 HB0 HP0
    have p0 := HP.out
    have p1 := fun o => cell_keep (bel_alloc (Below.refl _ wr) o) HP.out
    have HKo := Lib.hid (fun o => KM.ext HK.out (bel_alloc (Below.refl _ wr) o))
    have HBo := Lib.hid (fun o => bel_alloc HB.out o)
    by_cases hlt : k < s.length
    · obtain ⟨x, hc⟩ : ∃ x, s[k]? = some x := ⟨_, List.getElem?_eq_getElem hlt⟩
      obtain ⟨ad, B, cb, hA, x0, x1, y3, y4, y5⟩ := bind_at HC.out hc
      subst hA
      have y_0 := cell_keep HB.out x0
      have y_1 := cell_keep HB.out x1
      have hwf := HW.out x (List.mem_of_getElem? hc)
      have hfx := HF.out x (List.mem_of_getElem? hc)
      have HT := Lib.hid (fun W (hb : Below w.heap.size w W) => imOkS_c x.2 (.slice B x.2.length cb) W (Kd.S_ext hb ⟨B, cb, rfl, y3, y4, y5⟩) (fit_len hfx) hfx.2)
      have HI := Lib.hid (fun W => imIn_c x.1 0 99999 W)
      have HTx := Lib.hid (show T0 w (.slice B x.2.length cb) x.2 from ⟨B, cb, rfl, y3, y4, y5⟩)
      have Hc := Lib.hid hc
      clear x0 x1 y3 y4 y5 hfx hc
      cases hfv : f x.1 with
      | some u =>
        have HV : Hid (subOk s = false) := Lib.hid (by
          obtain ⟨t, ht⟩ := KR.dup HR.out hfv
          obtain ⟨j, hj, hjs⟩ := mem_take_ix ht
          exact sub_no2 Hc.out hjs hj rfl)
        go_wp2_with (refine wp_km_ok rfl rfl rfl (HKo.out _) rfl rfl hwf ?_; intro v6; rw [hfv])
        go_ret
        exact ⟨ret_bool HV.out.symm, HBo.out _⟩
      | none =>
        obtain ⟨q1, e1⟩ : ∃ q, (decide (0 ≤ x.1) && decide (x.1 ≤ 99999)) = q := ⟨_, rfl⟩
        rw [e1] at HI
        obtain ⟨q2, e2⟩ : ∃ q, trmOk x.2 = q := ⟨_, rfl⟩
        rw [e2] at HT
        have HE1 := Lib.hid e1
        have HE2 := Lib.hid e2
        have HFv := Lib.hid hfv
        clear e1 e2
        cases q1 with
        | false =>
          have HV : Hid (subOk s = false) := Lib.hid (sub_no1 Hc.out (fun h => by have := HE1.out; rw [decide_eq_true h.1, decide_eq_true h.2.1] at this; cases this))
          go_wp2_with (first | (refine wp_km_ok rfl rfl rfl (HKo.out _) rfl rfl hwf ?_; intro v6; rw [hfv]) | (go_at_call 38; (with_reducible refine (HI.out _).mono ?_); rintro e w2 ⟨rfl, rfl⟩))
          go_ret
          exact ⟨ret_bool HV.out.symm, HBo.out _⟩
        | true =>
          cases q2 with
          | false =>
            have HV : Hid (subOk s = false) := Lib.hid (sub_no1 Hc.out (fun h => by have := HE2.out; rw [h.2.2.1] at this; cases this))
            go_wp2_with (first | (refine wp_km_ok rfl rfl rfl (HKo.out _) rfl rfl hwf ?_; intro v6; rw [hfv]) | (go_at_call 38; (with_reducible refine (HI.out _).mono ?_); rintro e w2 ⟨rfl, rfl⟩) | (go_at_call 26; (with_reducible refine (HT.out _ (HBo.out _)).mono ?_); rintro e w2 ⟨rfl, hb2⟩))
            go_ret
            exact ⟨ret_bool HV.out.symm, bel_trans (HBo.out _) hb2⟩
          | true =>
            have HGn : Hid (goodTo s (k + 1)) := Lib.hid (by
              have h1 := HE1.out
              simp only [Bool.and_eq_true, decide_eq_true_eq] at h1
              refine HGd.out.step Hc.out h1.1 h1.2 HE2.out (fun j b hb hj e => ?_)
              have h2 := HR.out x.1
              have hmem : b ∈ s.take k := List.mem_of_getElem? (by rw [List.getElem?_take, if_pos hj]; exact hb)
              split at h2
              · next hg =>
                unfold getB at hg
                rw [Option.map_eq_none_iff, List.find?_eq_none] at hg
                exact hg b hmem (by simpa using e)
              · obtain ⟨v, hv, _⟩ := h2; rw [HFv.out] at hv; cases hv)
            have HX := Lib.hid (fun w1 => box2_at wr (.int .i64 x.1) (.slice B x.2.length cb) 107 (w1 := w1))
            have HTk := Lib.hid (show s.take (k + 1) = s.take k ++ [x] by rw [List.take_add_one, Hc.out]; rfl)
            have hk9 : k ≤ 1000000000 := by omega
            clear HI
            go_upto_region 8 with (first | (refine wp_km_ok rfl rfl rfl (HKo.out _) rfl rfl hwf ?_; intro v6; rw [hfv]) | (go_at_call 38; (with_reducible refine (imIn_c _ _ _ _).mono ?_); rintro e w2 ⟨rfl, rfl⟩; rw [HE1.out]) | (go_at_call 26; (with_reducible refine (HT.out _ (HBo.out _)).mono ?_); rintro e w2 ⟨rfl, hb2⟩; obtain ⟨z0, z1⟩ := HX.out _ hb2; have HB2 := Lib.hid (bel_trans (HBo.out _) hb2); have z2 := cell_keep hb2 (p1 _); have HK2 := Lib.hid (KM.ext (HKo.out _) hb2); have HR2 := Lib.hid (KR.mov HR.out (fun E => Keep.of_below (bel_trans (bel_alloc (Below.refl _ wr) _) hb2))); clear hb2))
            go_wp2_with (refine wp_km_put rfl rfl rfl HK2.out rfl rfl rfl hwf hk9 ?_; intro w3 hk3 hg3; have HK3 := Lib.hid hk3; have HG3 := Lib.hid hg3; clear hk3 hg3)
            exact ⟨⟨k + 1, by go_num, hlt, _, HK3, Lib.hid (by rw [HTk.out]; exact KR.snoc (KR.mov HR2.out (fun E => turned_keep HK2.out.map HG3.out E)) HFv.out (Kd.S_mov (turned_keep HK2.out.map HG3.out _) (Kd.S_ext HB2.out HTx.out))), HGn, Lib.hid (turned_cell HK2.out.map HG3.out z2), Lib.hid (HB2.out.trans (grown_below HG3.out (Nat.le_refl _) HB2.out.size))⟩, by simp [intOf]; omega⟩
    · obtain rfl : k = s.length := by omega
      obtain ⟨g1, g2, g3⟩ := good_end HGd.out
      have hR := HR.out
      rw [List.take_of_length_le (Nat.le_refl _)] at hR
      have hlt2 := KM.lt HK.out
      have hbb := bel_alloc (bel_alloc (Below.refl _ wr) (.map #[] 0)) (.cells #[.map (some wr.heap.size)] 109)
      have hpm : ((wr.alloc (.map #[] 0)).alloc (.cells #[.map (some wr.heap.size)] 109)).cell? ⟨wr.heap.size + 1, 0, none⟩ = some (.map (some wr.heap.size)) := by
        have := Lib.cell_of_heap (heap_alloc_new (wr.alloc (.map #[] 0)) (.cells #[.map (some wr.heap.size)] 109)) 0
        rw [s1] at this; exact this
      have HX := Lib.hid (sx_con s A c w.heap.size wr.heap.size (by omega) g2 s.length f ⟨wr.heap.size + 1, 0, none⟩ ⟨w.heap.size + 1, 0, none⟩ _ (Kd.C_ext (bel_trans HB.out hbb) HC.out) (by omega) g1 (KM.ext HK.out hbb) (KR.mov hR (fun E => Keep.of_below hbb)) (MM.ext (MM.made wr) (bel_alloc (Below.refl _ _) _)) hpm (cell_keep hbb HP.out))
      have HBB := Lib.hid (bel_trans HB.out hbb)
      have hst := fun (a : Addr) (r : Option Nat) (W : World) m => run_store Tryz.prog W a (.map r) m rfl
      clear hbb hpm hR g1 g2 g3 hlt
      go_wp2_with (go_at_call 77; refine HX.out.mono ?_; rintro e w4 ⟨q, rfl, HQ⟩)
      go_ret
      obtain ⟨hg, h⟩ := HQ.out
      refine ⟨ret_bool ?_, HBB.out.trans (grown_below hg (by omega) HBB.out.size)⟩
      rcases h with ⟨rfl, y, hy⟩ | ⟨rfl, hy⟩
      · exact (circle_sub hy).symm
      · exact (good_sub HGd.out hy).symm
end Go.Proofs.YtjglbadkbhopoaaGreatDoor
namespace Go.Proofs.YtjglbadkbhopoaaGreatDoor
open Go.RowKit
set_option maxRecDepth 100000
set_option maxHeartbeats 8000000
set_option linter.unusedVariables false
theorem subUni_c (a b : Trm) (sv av bv : Value) (w : World) (hs : Kd.bind.S 107 w sv []) (h1 : T0 w av a) (h2 : T0 w bv b) (ha : trmOk a = true) (hb : trmOk b = true) (hu : (uni [] [(a, b)]).isSome = true) :
    Calls Tryz.prog 14 #[sv, av, bv] w fun e w' => ∃ (v : Value) (k : Int), e = .returned (.tuple #[v, .int .i64 k]) ∧ (k = 1 ∨ k = 3) ∧ Below w.heap.size w w' := by
  obtain ⟨hk, hB, hP⟩ := meetOk_one ha hb hu
  have hfa := fit_okT (.inr ha)
  have hfb := fit_okT (.inr hb)
  have hsub : subOk [] = true := by unfold subOk; exact @decide_eq_true _ (Classical.propDecidable _) sub_nil
  have HK := Lib.hid (show Calls _ _ _ _ fun e w' => e = .returned (.bool true) ∧ Below w.heap.size w w' from hsub ▸ subOkI_c [] sv w hs ⟨Nat.zero_le _, Nat.zero_le _, fun b hb => by cases hb⟩ (fun b hb => by cases hb))
  have HA := Lib.hid (fun W (hb' : Below w.heap.size w W) => (show Calls _ _ _ _ fun e w' => e = .returned (.bool true) ∧ Below W.heap.size W w' from ha ▸ imOkS_c a av W (Kd.S_ext hb' h1) (fit_len hfa) hfa.2))
  have HBk := Lib.hid (fun W (hb' : Below w.heap.size w W) => (show Calls _ _ _ _ fun e w' => e = .returned (.bool true) ∧ Below W.heap.size W w' from hb ▸ imOkS_c b bv W (Kd.S_ext hb' h2) (fit_len hfb) hfb.2))
  have hl : (vars a ++ vars b).length ≤ 4000000 := by
    rw [List.length_append]
    have := vars_len a; have := vars_len b
    have := (trmOk_iff.1 ha).2.1; have := (trmOk_iff.1 hb).2.1
    omega
  have hr : ∀ x ∈ vars a ++ vars b, 0 ≤ x ∧ x ≤ 1000000000 := fun x hx => by
    rcases List.mem_append.1 hx with hx | hx
    · have := vars_ok ha x hx; omega
    · have := vars_ok hb x hx; omega
  have HM := Lib.hid (fun W (hb' : Below w.heap.size w W) => meetI_c (vars a ++ vars b) [] sv av bv a b W (.nil _) hP hl hr (Kd.S_ext hb' hs) (Kd.S_ext hb' h1) (Kd.S_ext hb' h2))
  have HCp := Lib.hid (fun W v (h : Kd.bind.S 107 W v ((meet [] a b).1.getD [])) => copiedI_c _ v W h (Nat.le_trans hB.len hl) (fun x hx => by have := (trmOk_iff.1 (hB.trm x.1 x.2 (getB_nod hB.nod hx))).2.1; omega))
  have HKk := Lib.hid hk
  clear hk hB hP hfa hfb hsub hl hr hs h1 h2 ha hb hu
  go_enter Tryz.func14, Tryz.ntmps14
  go_wp2_with (first | (go_at_call 42; (with_reducible refine HK.out.mono ?_); rintro e w1 ⟨rfl, hb'⟩; have HB1 := Lib.hid hb'; clear hb') | (go_at_call 26; (with_reducible refine (HBk.out _ HB2.out).mono ?_); rintro e w3 ⟨rfl, hb'⟩; have HB3 := Lib.hid (bel_trans HB2.out hb'); clear hb') | (go_at_call 26; (with_reducible refine (HA.out _ HB1.out).mono ?_); rintro e w2 ⟨rfl, hb'⟩; have HB2 := Lib.hid (bel_trans HB1.out hb'); clear hb') | (go_at_call 43; (with_reducible refine (HM.out _ HB3.out).mono ?_); rintro e w4 ⟨v4, rfl, hO, hb'⟩; have HS4 := Lib.hid (Kd.F_read hO); have HB4 := Lib.hid (bel_trans HB3.out hb'); clear hO hb') | (go_at_call 44; (with_reducible refine (HCp.out _ _ HS4.out).mono ?_); rintro e w5 ⟨v5, rfl, hO, hb'⟩; have HB5 := Lib.hid (bel_trans HB4.out hb'); clear hO hb') | fail)
  refine bodyPost_ret (results_tmp2 rfl _ _ _) rfl ?_
  exact ⟨_, _, rfl, HKk.out, HB5.out⟩
end Go.Proofs.YtjglbadkbhopoaaGreatDoor
