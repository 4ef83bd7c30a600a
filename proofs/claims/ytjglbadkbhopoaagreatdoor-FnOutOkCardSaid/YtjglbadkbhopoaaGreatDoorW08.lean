/- Lemmas and contracts for FnOutOk, part 8. -/
import Derived.Test.YtjglbadkbhopoaaGreatDoorW07
import Derived.Test.YtjglbadkbhopoaaGreatDoorW02
namespace Go.Proofs.YtjglbadkbhopoaaGreatDoor
set_option linter.unusedVariables false
def cutsOk : Int → List SGoal → Bool
  | _, [] => true
  | n, g :: gs => if g.g.k = 3 then decide (g.cut ≤ n) && cutsOk g.cut gs else cutsOk n gs
theorem cuts_mono : ∀ {gs : List SGoal} {n m : Int}, cutsOk n gs = true → n ≤ m → cutsOk m gs = true
  | [], n, m, h, _ => rfl
  | g :: gs, n, m, h, hm => by
    unfold cutsOk at *
    split at h
    · rename_i hk
      rw [if_pos hk]
      simp only [Bool.and_eq_true, decide_eq_true_eq] at *
      exact ⟨by omega, h.2⟩
    · rename_i hk
      rw [if_neg hk]
      exact cuts_mono h hm
theorem cuts_own {n : Int} {v : Int} {rest : List SGoal} (h : cutsOk n rest = true) : ∀ (gs : List Goal), cutsOk n (gs.map (shiftG v n) ++ rest) = true
  | [] => h
  | g :: gs => by
    rw [List.map_cons, List.cons_append]
    unfold cutsOk
    split
    · rename_i hk
      have hk : g.k = 3 := hk
      have : (shiftG v n g).cut = n := by unfold shiftG; exact if_pos hk
      rw [this]; simp only [Int.le_refl, decide_true, Bool.true_and]
      exact cuts_own h gs
    · exact cuts_own h gs
def lastM (m : Int) (cs : List TCh) : Int := (cs.getLast?.map (·.mark)).getD m
def lastV (v : Int) (cs : List TCh) : Int := (cs.getLast?.map (·.vars)).getD v
theorem last_cons_m (m : Int) (c : TCh) (cs : List TCh) : lastM m (c :: cs) = lastM c.mark cs := by
  unfold lastM
  cases cs with
  | nil => rfl
  | cons d cs => rw [List.getLast?_cons_cons]; cases h : (d :: cs).getLast? <;> simp_all
theorem last_cons_v (m : Int) (c : TCh) (cs : List TCh) : lastV m (c :: cs) = lastV c.vars cs := by
  unfold lastV
  cases cs with
  | nil => rfl
  | cons d cs => rw [List.getLast?_cons_cons]; cases h : (d :: cs).getLast? <;> simp_all
section
variable {p : Prog} {node : Int} {B : Binds} {V : Int}
theorem chAll_append : ∀ {cs ds : List TCh} {m v : Int} {i : Nat}, chAll p node B V m v i (cs ++ ds) = (chAll p node B V m v i cs && chAll p node B V (lastM m cs) (lastV v cs) (i + cs.length) ds)
  | [], ds, m, v, i => by simp [chAll, lastM, lastV]
  | c :: cs, ds, m, v, i => by
    rw [List.cons_append, chAll, chAll, chAll_append, last_cons_m, last_cons_v, Bool.and_assoc, List.length_cons, show i + (cs.length + 1) = i + 1 + cs.length by omega]
structure ChOne (p : Prog) (node : Int) (B : Binds) (V m v : Int) (i : Nat) (c : TCh) : Prop where
  mr : m ≤ c.mark ∧ c.mark ≤ B.length
  vr : v ≤ c.vars ∧ c.vars ≤ V
  bb : bindsBelow (B.take c.mark.toNat) c.vars = true
  gs : c.goals.all (sgOk c.vars i) = true
  tm : trmOk c.call = true
  cl : calls c.call = true
  bl : belowV c.vars c.call = true
  nf : (if c.far = 0 then nearOk p c else farOk p node c) = true
theorem chOne_iff {m v : Int} {i : Nat} {c : TCh} : chOne p node B V m v i c = true ↔ ChOne p node B V m v i c := by
  unfold chOne
  simp only [Bool.and_eq_true, inR_iff]
  constructor
  · rintro ⟨⟨⟨⟨⟨⟨h1, h2⟩, h3⟩, h4⟩, h5, h6⟩, h7⟩, h8⟩
    exact ⟨h1, h2, h3, h4, h5, h6, h7, h8⟩
  · rintro ⟨h1, h2, h3, h4, h5, h6, h7, h8⟩
    exact ⟨⟨⟨⟨⟨⟨h1, h2⟩, h3⟩, h4⟩, h5, h6⟩, h7⟩, h8⟩
theorem chAll_snoc {cs : List TCh} {c : TCh} {m v : Int} {i : Nat} : chAll p node B V m v i (cs ++ [c]) = true ↔ chAll p node B V m v i cs = true ∧ ChOne p node B V (lastM m cs) (lastV v cs) (i + cs.length) c := by
  rw [chAll_append, Bool.and_eq_true, ← chOne_iff]
  simp [chAll]
theorem chAll_last : ∀ {cs : List TCh} {m v : Int} {i : Nat}, chAll p node B V m v i cs = true → m ≤ lastM m cs ∧ v ≤ lastV v cs ∧ (m ≤ B.length → lastM m cs ≤ B.length) ∧ (v ≤ V → lastV v cs ≤ V) ∧ ∀ c ∈ cs, c.mark ≤ lastM m cs ∧ c.vars ≤ lastV v cs
  | [], m, v, i, _ => ⟨Int.le_refl _, Int.le_refl _, id, id, fun c hc => by cases hc⟩
  | c :: cs, m, v, i, h => by
    rw [chAll, Bool.and_eq_true, chOne_iff] at h
    obtain ⟨h1, h2⟩ := h
    obtain ⟨a1, a2, a3, a4, a5⟩ := chAll_last h2
    rw [last_cons_m, last_cons_v]
    have := h1.mr
    have := h1.vr
    refine ⟨by omega, by omega, fun _ => a3 (by omega), fun _ => a4 (by omega), fun d hd => ?_⟩
    rcases List.mem_cons.1 hd with rfl | hd
    · exact ⟨a1, a2⟩
    · exact a5 d hd
theorem ChOne.move {B' : Binds} {V' m v : Int} {i : Nat} {c : TCh} (h : ChOne p node B V m v i c) (h1 : c.mark ≤ B'.length) (h2 : B'.take c.mark.toNat = B.take c.mark.toNat) (h3 : c.vars ≤ V') : ChOne p node B' V' m v i c :=
  ⟨⟨h.mr.1, h1⟩, ⟨h.vr.1, h3⟩, by rw [h2]; exact h.bb, h.gs, h.tm, h.cl, h.bl, h.nf⟩
theorem chAll_move {B' : Binds} {V' : Int} : ∀ {cs : List TCh} {m v : Int} {i : Nat}, chAll p node B V m v i cs = true → (∀ c ∈ cs, c.mark ≤ B.length → c.mark ≤ B'.length ∧ B'.take c.mark.toNat = B.take c.mark.toNat ∧ (c.vars ≤ V → c.vars ≤ V')) → chAll p node B' V' m v i cs = true
  | [], m, v, i, _, _ => rfl
  | c :: cs, m, v, i, h, k => by
    rw [chAll, Bool.and_eq_true, chOne_iff] at h ⊢
    have := k c List.mem_cons_self h.1.mr.2
    exact ⟨h.1.move this.1 this.2.1 (this.2.2 h.1.vr.2), chAll_move h.2 (fun d hd => k d (List.mem_cons_of_mem _ hd))⟩
end
structure Tinv (q : Bool) (p : Prog) (node : Int) (s : TSt) : Prop where
  prg : prgOk p = true
  nd : inR node (-1) 2 = true
  top : isQ s.top = true
  v : 0 ≤ s.vars ∧ s.vars ≤ 99999
  sub : SubOk' s.binds
  bb : bindsBelow s.binds s.vars = true
  ch : chAll p node s.binds s.vars 0 0 0 s.ch = true
  tv : q = true → belowV s.vars s.top = true
  ex : q = true → ∀ (i : Nat) (c : TCh), s.ch[i]? = some c → cutsOk i c.goals = true ∧ belowV c.vars s.top = true
def goalsOk (q : Bool) (v n : Int) (gs : List SGoal) : Prop := gs.all (sgOk v n) = true ∧ (q = true → cutsOk n gs = true)
def Tok (q : Bool) (p : Prog) (node : Int) (s : TSt) : Prop := (3 ≤ s.st ∧ s.st ≤ 5 ∧ nothing s = true ∧ isQ s.top = true) ∨ (Tinv q p node s ∧ goalsOk q s.vars s.ch.length s.goals ∧ statOk s = true)
section
variable {q : Bool} {p : Prog} {node : Int} {s s' : TSt}
theorem tEnd_ok (h : Tinv q p node s) {k : Int} (h3 : 3 ≤ k) (h5 : k ≤ 5) : Tok q p node (tEnd s k) := .inl ⟨h3, h5, rfl, h.top⟩
theorem Tinv.pop (h : Tinv q p node s) {c : TCh} {cs : List TCh} (hc : s.ch = cs ++ [c]) :
    ChOne p node s.binds s.vars (lastM 0 cs) (lastV 0 cs) cs.length c ∧ 0 ≤ lastM 0 cs ∧ 0 ≤ lastV 0 cs ∧ Tinv q p node { s with binds := s.binds.take c.mark.toNat, vars := c.vars, ch := cs } ∧ Tinv q p node { s with binds := s.binds.take c.mark.toNat, vars := c.vars } ∧ goalsOk q c.vars cs.length c.goals := by
  have hch := h.ch
  rw [hc, chAll_snoc, Nat.zero_add] at hch
  obtain ⟨h1, h2⟩ := hch
  obtain ⟨l1, l2, l3, l4, l5⟩ := chAll_last h1
  have hv := h.v
  have h2m := h2.mr
  have h2v := h2.vr
  have hlen : ((s.binds.take c.mark.toNat).length : Int) = c.mark := by rw [List.length_take]; omega
  have mv : ∀ d ∈ cs, d.mark ≤ (s.binds.length : Int) → d.mark ≤ ((s.binds.take c.mark.toNat).length : Int) ∧ (s.binds.take c.mark.toNat).take d.mark.toNat = s.binds.take d.mark.toNat ∧ (d.vars ≤ s.vars → d.vars ≤ c.vars) := fun d hd _ => by
    have := l5 d hd
    refine ⟨by omega, ?_, fun _ => by omega⟩
    rw [List.take_take]; congr 1; omega
  have hch' := chAll_move (B' := s.binds.take c.mark.toNat) (V' := c.vars) h1 mv
  have exc : q = true → cutsOk cs.length c.goals = true ∧ belowV c.vars s.top = true := fun hq => by
    have := h.ex hq cs.length c (by rw [hc]; simp)
    exact this
  refine ⟨h2, l1, l2, ⟨h.prg, h.nd, h.top, ⟨?_, ?_⟩, sub_take h.sub _, h2.bb, hch', fun hq => (exc hq).2, fun hq i d hd => h.ex hq i d ?_⟩, ⟨h.prg, h.nd, h.top, ⟨?_, ?_⟩, sub_take h.sub _, h2.bb, ?_, fun hq => (exc hq).2, h.ex⟩, h2.gs, fun hq => (exc hq).1⟩
  · show 0 ≤ c.vars; omega
  · show c.vars ≤ 99999; omega
  · rw [hc, List.getElem?_append_left (List.getElem?_eq_some_iff.1 hd).1]; exact hd
  · show 0 ≤ c.vars; omega
  · show c.vars ≤ 99999; omega
  · show chAll p node (s.binds.take c.mark.toNat) c.vars 0 0 0 s.ch = true
    rw [hc, chAll_snoc, Nat.zero_add]
    exact ⟨hch', h2.move (by omega) (by rw [List.take_take]; congr 1; omega) (Int.le_refl _)⟩
theorem tWait_ok (h : Tinv q p node s) {c : TCh} {cs : List TCh} (hc : s.ch = cs ++ [c]) (hf : 0 < c.far) (hm : c.mark = s.binds.length) (hv : c.vars = s.vars) : Tok q p node (tWait s) := by
  refine .inr ⟨⟨h.prg, h.nd, h.top, h.v, h.sub, h.bb, h.ch, h.tv, h.ex⟩, ⟨rfl, fun _ => rfl⟩, ?_⟩
  have hl : s.ch.getLast? = some c := by rw [hc]; simp
  unfold statOk tWait waitsOk
  simp [hl, hf, hm, hv]
theorem nextCl_le (p : Prog) (t : Trm) (k : Nat) : nextCl p t k ≤ p.cl.length := by
  unfold nextCl
  split
  · split
    · omega
    · exact nextCl_le p t (k + 1)
  · exact Nat.le_refl _
  termination_by p.cl.length - k
theorem nextCl_ge (p : Prog) (t : Trm) (k : Nat) (h : k ≤ p.cl.length) : k ≤ nextCl p t k := by
  unfold nextCl
  split
  · split
    · exact Nat.le_refl _
    · have := nextCl_ge p t (k + 1) (by omega); omega
  · exact h
  termination_by p.cl.length - k
theorem nextCl_hit {p : Prog} {t : Trm} {k : Nat} (h : nextCl p t k < p.cl.length) : ∃ x, p.cl[nextCl p t k]? = some x ∧ headC x.head = headC t := by
  unfold nextCl at h ⊢
  by_cases hk : k < p.cl.length
  · rw [dif_pos hk] at h ⊢
    by_cases he : headC (p.cl[k]'hk).head = headC t
    · rw [if_pos he]
      exact ⟨p.cl[k], List.getElem?_eq_getElem hk, he⟩
    · rw [if_neg he] at h ⊢
      exact nextCl_hit h
  · rw [dif_neg hk] at h; omega
  termination_by p.cl.length - k
theorem cl_at (h : prgOk p = true) {x : Clause} (hx : x ∈ p.cl) : inCl x.head = true ∧ calls x.head = true ∧ x.body.length ≤ 4 ∧ ∀ g ∈ x.body, goalOk g.k g.a g.b g.c = true := by
  unfold prgOk at h
  simp only [Bool.and_eq_true] at h
  have := List.all_eq_true.1 h.1.2 x hx
  unfold clauseOk at this
  simp only [Bool.and_eq_true, decide_eq_true_eq] at this
  exact ⟨this.1.1.1, this.1.1.2, this.1.2, List.all_eq_true.1 this.2⟩
theorem clAt_ok (h : prgOk p = true) {k : Nat} (hk : k < p.cl.length) : clAt p k ∈ p.cl := by
  unfold clAt; rw [List.getElem?_eq_getElem hk]; exact List.getElem_mem hk
theorem shape_shift {k : Int} {a b c : Trm} {n : Int} (h : goalOk k a b c = true) (h0 : 0 ≤ n) (hn : n ≤ 99991) : shapeOk (termV (n + 8)) k (shift a n) (shift b n) (shift c n) = true := by
  rw [goal_shape, Bool.and_eq_true] at h
  have hsh : ∀ t, inCl t = true → termV (n + 8) (shift t n) = true := fun t ht => by
    have := shift_term (inCl_term ht) h0 (show 8 + n ≤ 100000 by omega)
    rwa [Int.add_comm] at this
  obtain ⟨-, h⟩ := h
  unfold shapeOk at *
  rw [shift_len, shift_len, shift_len]
  split at h
  · rename_i h1; rw [if_pos h1]
    simp only [Bool.and_eq_true] at h ⊢
    exact ⟨⟨hsh _ h.1.1, shift_calls h.1.2⟩, h.2⟩
  · rename_i h1; rw [if_neg h1]
    split at h
    · rename_i h2; rw [if_pos h2]; exact h
    · rename_i h2; rw [if_neg h2]
      split at h
      · rename_i h3; rw [if_pos h3]
        simp only [Bool.and_eq_true] at h ⊢
        exact ⟨⟨hsh _ h.1.1, hsh _ h.1.2⟩, h.2⟩
      · rename_i h3; rw [if_neg h3]
        split at h
        · rename_i h4; rw [if_pos h4]
          simp only [Bool.and_eq_true] at h ⊢
          exact ⟨⟨hsh _ h.1.1, hsh _ h.1.2⟩, hsh _ h.2⟩
        · cases h
theorem exit_ok {n m : Int} {call : Trm} (h : termV n call = true) (hc : calls call = true) (hm : 0 ≤ m) : sgOk n m (exitG call) = true := by
  unfold sgOk exitG shapeOk
  simp [h, hc, inR_iff, hm]
theorem behind_ok {call : Trm} {rest : List SGoal} {v : Int} {n : Nat} {x : Clause} (hx : ∀ g ∈ x.body, goalOk g.k g.a g.b g.c = true) (h0 : 0 ≤ v) (h9 : v ≤ 99991) (hc : termV v call = true) (hcc : calls call = true) (hr : goalsOk q v n rest) {m : Nat} (hm : n ≤ m) : goalsOk q (v + 8) m (behind x v n call rest) := by
  refine ⟨List.all_eq_true.2 fun g hg => ?_, fun hq => ?_⟩
  · unfold behind at hg
    rcases List.mem_append.1 hg with hg | hg
    · rcases List.mem_append.1 hg with hg | hg
      · obtain ⟨g', hg', rfl⟩ := List.mem_map.1 hg
        have := shape_shift (hx g' hg') h0 h9
        unfold sgOk shiftG
        simp only [this, Bool.and_true, Bool.and_eq_true, inR_iff]
        split
        · rename_i hk; simp [hk]; omega
        · simp
      · obtain rfl := List.mem_singleton.1 hg
        exact exit_ok (termV_mono hc (by omega)) hcc (by omega)
    · exact sg_mono (List.all_eq_true.1 hr.1 g hg) (by omega) (by omega)
  · unfold behind
    rw [List.append_assoc]
    refine cuts_mono (cuts_own (n := n) ?_ _) (show (n : Int) ≤ m by omega)
    show cutsOk n ([exitG call] ++ rest) = true
    rw [List.singleton_append]
    unfold cutsOk exitG
    simp only [if_neg (show ¬ (6 : Int) = 3 by decide)]
    exact hr.2 hq
theorem tMeet_ok {back : TSt → Option TSt} {a b : Trm} {goals : List SGoal} {more : Int} (h : Tinv q p node s) (hb : ∀ s', back s = some s' → Tok q p node s' ∧ s'.top = s.top) (hm : 0 ≤ more) (hv : s.vars + more ≤ 99999)
    (ha : termV (s.vars + more) a = true) (hb' : termV (s.vars + more) b = true) (hg : goalsOk q (s.vars + more) s.ch.length goals) (hs : tMeet back s a b goals more = some s') : Tok q p node s' ∧ s'.top = s.top := by
  unfold tMeet at hs
  have hvv := h.v
  rcases meet_cases s.binds a b with ⟨t, ht⟩ | ht | ht
  · rw [ht] at hs
    rw [if_neg (show ¬ (1 : Int) = 3 by decide), if_neg (show ¬ (1 : Int) = 2 by decide)] at hs
    obtain rfl := Option.some.inj hs
    obtain ⟨m1, m2, m, rfl⟩ := meet_ok h.sub (bb_mono h.bb (show s.vars ≤ s.vars + more by omega)) (show s.vars + more ≤ 100000 by omega) ha hb' ht
    refine ⟨.inr ⟨⟨h.prg, h.nd, h.top, ⟨?_, hv⟩, m1, m2, ?_, fun hq => below_mono (h.tv hq) (show s.vars ≤ s.vars + more by omega), h.ex⟩, hg, ?_⟩, rfl⟩
    · show 0 ≤ s.vars + more; omega
    · refine chAll_move h.ch (fun d _ hd => ⟨?_, ?_, fun hd' => ?_⟩)
      · show d.mark ≤ ((s.binds ++ m).length : Int); rw [List.length_append]; omega
      · show (s.binds ++ m).take d.mark.toNat = _; rw [List.take_append_of_le_length (by omega)]
      · show d.vars ≤ s.vars + more; omega
    · rfl
  · rw [ht] at hs
    rw [if_neg (show ¬ (2 : Int) = 3 by decide), if_pos rfl] at hs
    exact hb s' hs
  · rw [ht] at hs
    rw [if_pos rfl] at hs
    obtain rfl := Option.some.inj hs
    exact ⟨tEnd_ok h (by decide) (by decide), rfl⟩
theorem push_ok (h : Tinv q p node s) {call : Trm} {rest : List SGoal} {k : Nat} (hc : termV s.vars call = true) (hcc : calls call = true) (hr : goalsOk q s.vars s.ch.length rest) :
    Tinv q p node (push p s call rest (nextCl p call k)) ∧ (push p s call rest (nextCl p call k)).top = s.top ∧ (push p s call rest (nextCl p call k)).vars = s.vars ∧ (push p s call rest (nextCl p call k)).binds = s.binds ∧ s.ch.length ≤ (push p s call rest (nextCl p call k)).ch.length := by
  unfold push
  split
  · rename_i hlt
    refine ⟨⟨h.prg, h.nd, h.top, h.v, h.sub, h.bb, ?_, h.tv, fun hq i d hd => ?_⟩, rfl, rfl, rfl, by simp⟩
    · show chAll p node s.binds s.vars 0 0 0 (s.ch ++ [_]) = true
      rw [chAll_snoc, Nat.zero_add]
      obtain ⟨l1, l2, l3, l4, l5⟩ := chAll_last h.ch
      obtain ⟨c1, c2⟩ := termV_iff.1 hc
      obtain ⟨x, hx1, hx2⟩ := nextCl_hit hlt
      have hv := h.v
      refine ⟨h.ch, ⟨⟨?_, Int.le_refl _⟩, ⟨l4 hv.1, Int.le_refl _⟩, bb_take h.bb _, hr.1, c1, hcc, c2, ?_⟩⟩
      · show lastM 0 s.ch ≤ (s.binds.length : Int); exact l3 (by omega)
      · rw [if_pos rfl]
        unfold nearOk
        simp only [Int.toNat_natCast, hx1, hx2, decide_true, Bool.and_true, inR_iff]
        omega
    · have hd : (s.ch ++ [(⟨rest, s.binds.length, s.vars, call, (nextCl p call k : Int), 0⟩ : TCh)])[i]? = some d := hd
      by_cases hi : i < s.ch.length
      · rw [List.getElem?_append_left hi] at hd
        exact h.ex hq i d hd
      · rw [List.getElem?_append_right (by omega)] at hd
        have hi0 : i - s.ch.length = 0 := by
          have := (List.getElem?_eq_some_iff.1 hd).1
          simp only [List.length_singleton] at this
          omega
        rw [hi0] at hd
        obtain rfl := Option.some.inj hd
        have : i = s.ch.length := by omega
        subst this
        exact ⟨hr.2 hq, h.tv hq⟩
  · exact ⟨h, rfl, rfl, rfl, Nat.le_refl _⟩
theorem tTry_ok {back : TSt → Option TSt} {call : Trm} {rest : List SGoal} {k : Nat} (hb : ∀ s0 s', Tinv q p node s0 → back s0 = some s' → Tok q p node s' ∧ s'.top = s0.top) (h : Tinv q p node s) (hc : termV s.vars call = true) (hcc : calls call = true) (hr : goalsOk q s.vars s.ch.length rest)
    (hs : tTryB back p s call rest k = some s') : Tok q p node s' ∧ s'.top = s.top := by
  unfold tTryB at hs
  split at hs
  · exact hb s s' h hs
  · rename_i hk
    have hlt : nextCl p call k < p.cl.length := by have := nextCl_le p call k; omega
    split at hs
    · obtain rfl := Option.some.inj hs
      exact ⟨tEnd_ok h (by decide) (by decide), rfl⟩
    · rename_i hv
      have hv0 := h.v
      obtain ⟨i1, i2, i3, i4, i5⟩ := push_ok (k := nextCl p call k + 1) h hc hcc hr
      obtain ⟨x1, x2, x3, x4⟩ := cl_at h.prg (clAt_ok h.prg hlt)
      have hsh := shift_term (inCl_term x1) hv0.1 (show 8 + s.vars ≤ 100000 by omega)
      rw [Int.add_comm] at hsh
      have := tMeet_ok i1 (fun s' => hb _ s' i1) (by decide) (by rw [i3]; omega) (by rw [i3]; exact termV_mono hc (by omega)) (by rw [i3]; exact hsh) (by rw [i3]; exact behind_ok x4 hv0.1 (by omega) hc hcc hr i5) hs
      rwa [i2] at this
theorem tBack_ok : ∀ {n : Nat} {s s' : TSt}, Tinv q p node s → tBack n p s = some s' → Tok q p node s' ∧ s'.top = s.top
  | 0, s, s', _, h => by simp [tBack] at h
  | n + 1, s, s', hi, h => by
    unfold tBack at h
    cases hl : s.ch.getLast? with
    | none =>
      rw [hl] at h
      obtain rfl := Option.some.inj h
      exact ⟨tEnd_ok hi (by decide) (by decide), rfl⟩
    | some c =>
      rw [hl] at h
      obtain ⟨cs, hc⟩ := List.getLast?_eq_some_iff.1 hl
      obtain ⟨p1, p2, p3, p4, p5, p6⟩ := hi.pop hc
      have hd : s.ch.dropLast = cs := by rw [hc, List.dropLast_concat]
      dsimp only at h
      split at h
      · rename_i hf
        obtain rfl := Option.some.inj h
        have pm := p1.mr
        refine ⟨tWait_ok p5 (c := c) (cs := cs) hc hf ?_ rfl, rfl⟩
        show c.mark = ((s.binds.take c.mark.toNat).length : Int)
        rw [List.length_take]; omega
      · rw [hd] at h
        exact tTry_ok (s := { s with binds := s.binds.take c.mark.toNat, vars := c.vars, ch := cs }) (fun s0 s1 i0 h0 => tBack_ok i0 h0) p4 (termV_iff.2 ⟨p1.tm, p1.bl⟩) p1.cl p6 h
end
def meas (p : Prog) (ch : List TCh) : Nat := (ch.map (fun c => p.cl.length - c.next.toNat + 1)).sum
theorem meas_snoc (p : Prog) (cs : List TCh) (c : TCh) : meas p (cs ++ [c]) = meas p cs + (p.cl.length - c.next.toNat + 1) := by unfold meas; rw [List.map_append, List.sum_append]; simp
theorem meet_ends {back : TSt → Option TSt} {s : TSt} {a b : Trm} {goals : List SGoal} {more : Int} (h : ∃ s', back s = some s') : ∃ s', tMeet back s a b goals more = some s' := by
  unfold tMeet
  split
  · exact ⟨_, rfl⟩
  · split
    · exact h
    · exact ⟨_, rfl⟩
theorem try_ends {back : TSt → Option TSt} {p : Prog} {s : TSt} {call : Trm} {rest : List SGoal} {k N : Nat} (hN : meas p s.ch + (p.cl.length - k) < N + 1) (h : ∀ s0 : TSt, meas p s0.ch < N + 1 → ∃ s', back s0 = some s') : ∃ s', tTryB back p s call rest k = some s' := by
  unfold tTryB
  split
  · exact h s (by omega)
  · rename_i hk
    have hlt : nextCl p call k < p.cl.length := by have := nextCl_le p call k; omega
    have hkl : k < p.cl.length := by
      apply Nat.lt_of_not_le
      intro hge
      have : nextCl p call k = p.cl.length := by unfold nextCl; rw [dif_neg (by omega)]
      omega
    split
    · exact ⟨_, rfl⟩
    · refine meet_ends (h _ ?_)
      unfold push
      split
      · rename_i hn
        have h1 := nextCl_ge p call k (by omega)
        have h2 := nextCl_ge p call (nextCl p call k + 1) (by omega)
        show meas p (s.ch ++ [_]) < _
        rw [meas_snoc]
        simp only [Int.toNat_natCast]
        omega
      · omega
theorem back_ends {p : Prog} : ∀ (n : Nat) (s : TSt), meas p s.ch < n → ∃ s', tBack n p s = some s'
  | 0, s, h => by omega
  | n + 1, s, h => by
    unfold tBack
    cases hl : s.ch.getLast? with
    | none => exact ⟨_, rfl⟩
    | some c =>
      obtain ⟨cs, hc⟩ := List.getLast?_eq_some_iff.1 hl
      have hd : s.ch.dropLast = cs := by rw [hc, List.dropLast_concat]
      rw [hc, meas_snoc] at h
      dsimp only
      split
      · exact ⟨_, rfl⟩
      · rw [hd]
        cases n with
        | zero => omega
        | succ n => exact try_ends (N := n) (s := { s with binds := s.binds.take c.mark.toNat, vars := c.vars, ch := cs }) (by show meas p cs + _ < _; omega) (fun s0 h0 => back_ends (n + 1) s0 h0)
end Go.Proofs.YtjglbadkbhopoaaGreatDoor
namespace Go.Proofs.YtjglbadkbhopoaaGreatDoor
set_option linter.unusedVariables false
theorem nil_of_empty {α : Type} {l : List α} (h : l.isEmpty = true) : l = [] := by cases l with
  | nil => rfl
  | cons _ _ => cases h
section
variable {q : Bool} {p : Prog} {node : Int} {s s' : TSt}
theorem tMeet0 {back : TSt → Option TSt} {a b : Trm} {rest : List SGoal} (h : Tinv q p node s) (hb : ∀ s0 s', Tinv q p node s0 → back s0 = some s' → Tok q p node s' ∧ s'.top = s0.top) (ha : termV s.vars a = true) (hb' : termV s.vars b = true) (hg : goalsOk q s.vars s.ch.length rest) (hs : tMeet back s a b rest 0 = some s') : Tok q p node s' ∧ s'.top = s.top :=
  tMeet_ok h (fun s' => hb s s' h) (Int.le_refl _) (by have := h.v; omega) (by rw [Int.add_zero]; exact ha) (by rw [Int.add_zero]; exact hb') (by rw [Int.add_zero]; exact hg) hs
theorem num_term {n v : Int} (h : inR n (-9999) 9999 = true) : termV v (numT n) = true := by
  rw [inR_iff] at h
  refine termV_iff.2 ⟨trmOk_iff.2 ⟨?_, by simp [numT], ?_⟩, by simp [belowV, numT]⟩
  · unfold numT; rw [show (1 : Nat) = 0 + 1 by rfl, Ms_cons]; exact Ms_zero.2 rfl
  · simp [numT, cellOk]; omega
theorem take_cuts {cs : List TCh} {k : Nat} {i : Nat} {c : TCh} (h : (cs.take k)[i]? = some c) : cs[i]? = some c := by
  rw [List.getElem?_take] at h
  split at h
  · exact h
  · cases h
theorem Tinv.cut (h : Tinv q p node s) (k : Nat) : Tinv q p node { s with ch := s.ch.take k } := by
  refine ⟨h.prg, h.nd, h.top, h.v, h.sub, h.bb, ?_, h.tv, fun hq i c hc => h.ex hq i c (take_cuts hc)⟩
  have := h.ch
  rw [← List.take_append_drop k s.ch, chAll_append, Bool.and_eq_true] at this
  exact this.1
theorem far_ok (h : Tinv q p node s) {call : Trm} {rest : List SGoal} (hc : termV s.vars call = true) (hcc : calls call = true) (hr : goalsOk q s.vars s.ch.length rest) (h0 : 0 ≤ node) (hn : nodeOf p call ≠ node) :
    Tinv q p node { s with ch := s.ch ++ [⟨rest, s.binds.length, s.vars, call, 0, 1⟩] } := by
  refine ⟨h.prg, h.nd, h.top, h.v, h.sub, h.bb, ?_, h.tv, fun hq i d hd => ?_⟩
  · show chAll p node s.binds s.vars 0 0 0 (s.ch ++ [_]) = true
    rw [chAll_snoc, Nat.zero_add]
    obtain ⟨l1, l2, l3, l4, l5⟩ := chAll_last h.ch
    obtain ⟨c1, c2⟩ := termV_iff.1 hc
    have hv := h.v
    refine ⟨h.ch, ⟨⟨?_, Int.le_refl _⟩, ⟨l4 hv.1, Int.le_refl _⟩, bb_take h.bb _, hr.1, c1, hcc, c2, ?_⟩⟩
    · show lastM 0 s.ch ≤ (s.binds.length : Int); exact l3 (by omega)
    · rw [if_neg (show ¬ (1 : Int) = 0 by decide)]
      unfold farOk
      have hn1 : decide (node ≠ -1) = true := decide_eq_true (by omega)
      rw [hn1, decide_eq_true hn]
      simp [inR]
  · have hd : (s.ch ++ [(⟨rest, s.binds.length, s.vars, call, 0, 1⟩ : TCh)])[i]? = some d := hd
    by_cases hi : i < s.ch.length
    · rw [List.getElem?_append_left hi] at hd
      exact h.ex hq i d hd
    · rw [List.getElem?_append_right (by omega)] at hd
      have hi0 : i - s.ch.length = 0 := by
        have := (List.getElem?_eq_some_iff.1 hd).1
        simp only [List.length_singleton] at this
        omega
      rw [hi0] at hd
      obtain rfl := Option.some.inj hd
      have : i = s.ch.length := by omega
      subst this
      exact ⟨hr.2 hq, h.tv hq⟩
theorem empty_ok (h : Tinv q p node s) (hg : s.goals = []) : Tok q p node (tEmpty s) ∧ (tEmpty s).top = s.top := by
  unfold tEmpty
  split
  · rename_i hl
    refine ⟨.inr ⟨⟨h.prg, h.nd, h.top, h.v, h.sub, h.bb, h.ch, h.tv, h.ex⟩, ?_, ?_⟩, rfl⟩
    · show goalsOk q s.vars s.ch.length s.goals
      rw [hg]; exact ⟨rfl, fun _ => rfl⟩
    · unfold statOk ansOk
      simp [hg, hl]
  · exact ⟨tEnd_ok h (by decide) (by decide), rfl⟩
theorem goals_tail {v n : Int} {g : SGoal} {gs : List SGoal} (h : goalsOk q v n (g :: gs)) : sgOk v n g = true ∧ gs.all (sgOk v n) = true ∧ (q = true → cutsOk (if g.g.k = 3 then g.cut else n) gs = true) := by
  obtain ⟨h1, h2⟩ := h
  rw [List.all_cons, Bool.and_eq_true] at h1
  refine ⟨h1.1, h1.2, fun hq => ?_⟩
  have := h2 hq
  unfold cutsOk at this
  split
  · rename_i hk; rw [if_pos hk, Bool.and_eq_true] at this; exact this.2
  · rename_i hk; rw [if_neg hk] at this; exact this
theorem sg_cases {v n : Int} {g : SGoal} (h : sgOk v n g = true) : (0 ≤ g.cut ∧ g.cut ≤ n) ∧ (g.g.k = 1 ∨ g.g.k = 6 → termV v g.g.a = true ∧ calls g.g.a = true) ∧ (g.g.k = 2 ∨ g.g.k = 4 ∨ g.g.k = 5 → termV v g.g.a = true ∧ termV v g.g.b = true) ∧ (g.g.k = 5 → termV v g.g.c = true) ∧ (1 ≤ g.g.k ∧ g.g.k ≤ 6) := by
  unfold sgOk at h
  simp only [Bool.and_eq_true, inR_iff] at h
  obtain ⟨⟨h1, h2⟩, h3⟩ := h
  refine ⟨h1, ?_⟩
  unfold shapeOk at h3
  split at h3
  · rename_i hk
    simp only [Bool.and_eq_true] at h3
    exact ⟨fun _ => h3.1, fun _ => by omega, fun _ => by omega, by omega⟩
  · rename_i hk
    split at h3
    · rename_i hk3
      exact ⟨fun _ => by omega, fun _ => by omega, fun _ => by omega, by omega⟩
    · split at h3
      · rename_i hk2
        simp only [Bool.and_eq_true] at h3
        exact ⟨fun _ => by omega, fun _ => h3.1, fun _ => by omega, by omega⟩
      · split at h3
        · rename_i hk5
          simp only [Bool.and_eq_true] at h3
          exact ⟨fun _ => by omega, fun _ => h3.1, fun _ => h3.2, by omega⟩
        · cases h3
theorem reckon_ok {n : Nat} {g : Goal} {rest : List SGoal} (h : Tinv q p node s) (hst : s.st = 1) (hout : s.out = []) (hg : g.k = 5 → termV s.vars g.c = true) (hr : goalsOk q s.vars s.ch.length rest) (hs : tReckon n p s g rest = some s') : Tok q p node s' ∧ s'.top = s.top := by
  unfold tReckon at hs
  split at hs
  · obtain rfl := Option.some.inj hs
    exact ⟨tEnd_ok h (by decide) (by decide), rfl⟩
  · rename_i hn
    split at hs
    · rename_i h5
      have hin : inR (numV s.binds g.a + numV s.binds g.b) (-9999) 9999 = true := by
        cases hh : inR (numV s.binds g.a + numV s.binds g.b) (-9999) 9999 with
        | true => rfl
        | false => exact absurd (.inr ⟨h5, hh⟩) hn
      exact tMeet0 h (fun s0 s1 i0 h0 => tBack_ok i0 h0) (hg h5) (num_term hin) hr hs
    · split at hs
      · exact tBack_ok h hs
      · obtain rfl := Option.some.inj hs
        refine ⟨.inr ⟨⟨h.prg, h.nd, h.top, h.v, h.sub, h.bb, h.ch, h.tv, h.ex⟩, hr, ?_⟩, rfl⟩
        unfold statOk; simp [hst, hout]
theorem call_ok {n : Nat} {t : Trm} {rest : List SGoal} (h : Tinv q p node s) (ht : termV s.vars t = true) (hc : calls t = true) (hr : goalsOk q s.vars s.ch.length rest) (hs : tCall n p node s t rest = some s') : Tok q p node s' ∧ s'.top = s.top := by
  unfold tCall at hs
  split at hs
  · rename_i hl
    have f1 := flat_term h.sub h.bb ht hl
    have f2 := flat_calls h.sub hc
    split at hs
    · rename_i hn
      obtain rfl := Option.some.inj hs
      have := far_ok h f1 f2 hr hn.1 hn.2
      exact ⟨tWait_ok this (c := ⟨rest, s.binds.length, s.vars, flat s.binds t, 0, 1⟩) (cs := s.ch) rfl (by show (0 : Int) < 1; decide) rfl rfl, rfl⟩
    · exact tTry_ok (fun s0 s1 i0 h0 => tBack_ok i0 h0) h f1 f2 hr hs
  · obtain rfl := Option.some.inj hs
    exact ⟨tEnd_ok h (by decide) (by decide), rfl⟩
theorem step_ok {n : Nat} (h : Tok true p node s) (hs : tStepN n p node s = some s') : Tok true p node s' ∧ s'.top = s.top := by
  rcases h with h | ⟨h, hg, hst⟩
  · have h' := h
    obtain ⟨h3, h5, hn, ht⟩ := h'
    unfold tStepN at hs
    rw [if_neg (by omega), if_pos (by omega)] at hs
    obtain rfl := Option.some.inj hs
    exact ⟨.inl h, rfl⟩
  · unfold tStepN at hs
    split at hs
    · exact tBack_ok h hs
    · rename_i h2
      split at hs
      · obtain rfl := Option.some.inj hs
        exact ⟨.inr ⟨h, hg, hst⟩, rfl⟩
      · rename_i h1
        have h1 : s.st = 1 := by omega
        have hout : s.out = [] := by
          unfold statOk at hst; rw [if_pos h1] at hst; exact nil_of_empty hst
        cases hgl : s.goals with
        | nil =>
          rw [hgl] at hs
          obtain rfl := Option.some.inj hs
          exact empty_ok h hgl
        | cons g rest =>
          rw [hgl] at hs hg
          obtain ⟨t1, t2, t3⟩ := goals_tail hg
          obtain ⟨c1, c2, c3, c4, c5⟩ := sg_cases t1
          have hr : g.g.k ≠ 3 → goalsOk true s.vars s.ch.length rest := fun hk => ⟨t2, fun hq => by have := t3 hq; rwa [if_neg hk] at this⟩
          have keep : g.g.k ≠ 3 → Tok true p node { s with goals := rest } := fun hk => .inr ⟨⟨h.prg, h.nd, h.top, h.v, h.sub, h.bb, h.ch, h.tv, h.ex⟩, hr hk, by unfold statOk; simp [h1, hout]⟩
          dsimp only at hs
          split at hs
          · rename_i hk
            exact call_ok h (c2 (.inl hk)).1 (c2 (.inl hk)).2 (hr (by omega)) hs
          · split at hs
            · rename_i hk
              exact tMeet0 h (fun s0 s1 i0 h0 => tBack_ok i0 h0) (c3 (.inl hk)).1 (c3 (.inl hk)).2 (hr (by omega)) hs
            · split at hs
              · rename_i hk
                exact reckon_ok h h1 hout c4 (hr (by omega)) hs
              · split at hs
                · rename_i hk
                  obtain rfl := Option.some.inj hs
                  have hi := h.cut g.cut.toNat
                  have hcut : cutsOk g.cut rest = true := by have := t3 rfl; rwa [if_pos hk] at this
                  have hlen : ((s.ch.take g.cut.toNat).length : Int) = g.cut := by rw [List.length_take]; omega
                  refine ⟨.inr ⟨⟨h.prg, h.nd, h.top, h.v, h.sub, h.bb, hi.ch, h.tv, hi.ex⟩, ⟨?_, fun _ => ?_⟩, by unfold statOk; simp [h1, hout]⟩, rfl⟩
                  · show rest.all (sgOk s.vars ((s.ch.take g.cut.toNat).length : Int)) = true
                    rw [hlen]
                    have : ∀ (gs : List SGoal) (m n : Int), 0 ≤ n → cutsOk n gs = true → gs.all (sgOk s.vars m) = true → gs.all (sgOk s.vars n) = true := by
                      intro gs
                      induction gs with
                      | nil => intros; rfl
                      | cons x xs ih =>
                        intro m n h0 hc ha
                        rw [List.all_cons, Bool.and_eq_true] at ha ⊢
                        unfold cutsOk at hc
                        have hx := ha.1
                        unfold sgOk at hx ⊢
                        simp only [Bool.and_eq_true, Bool.or_eq_true, decide_eq_true_eq, inR_iff] at hx ⊢
                        split at hc
                        · rename_i hk3
                          simp only [Bool.and_eq_true, decide_eq_true_eq] at hc
                          exact ⟨⟨⟨⟨hx.1.1.1, hc.1⟩, hx.1.2⟩, hx.2⟩, ih m n h0 (cuts_mono hc.2 hc.1) ha.2⟩
                        · rename_i hk3
                          have h0' : x.cut = 0 := by rcases hx.1.2 with h | h; exact absurd h hk3; exact h
                          exact ⟨⟨⟨by omega, hx.1.2⟩, hx.2⟩, ih m n h0 hc ha.2⟩
                    exact this rest _ _ c1.1 hcut t2
                  · show cutsOk ((s.ch.take g.cut.toNat).length : Int) rest = true
                    rw [hlen]; exact hcut
                · rename_i hk
                  split at hs
                  · obtain rfl := Option.some.inj hs
                    exact ⟨keep hk, rfl⟩
                  · obtain rfl := Option.some.inj hs
                    exact ⟨tEnd_ok h (by decide) (by decide), rfl⟩
end
def fuelOf (p : Prog) (s : TSt) : Nat := meas p s.ch + p.cl.length + 2
theorem step_ends (p : Prog) (node : Int) (s : TSt) : ∃ s', tStepN (fuelOf p s) p node s = some s' := by
  have hb : ∃ s', tBack (fuelOf p s) p s = some s' := back_ends _ s (by unfold fuelOf; omega)
  unfold tStepN
  split
  · exact hb
  · split
    · exact ⟨_, rfl⟩
    · cases s.goals with
      | nil => exact ⟨_, rfl⟩
      | cons g rest =>
        dsimp only
        split
        · unfold tCall
          split
          · split
            · exact ⟨_, rfl⟩
            · unfold tTry fuelOf
              exact try_ends (N := meas p s.ch + p.cl.length + 1) (by omega) (fun s0 h0 => back_ends _ s0 h0)
          · exact ⟨_, rfl⟩
        · split
          · exact meet_ends hb
          · split
            · unfold tReckon
              split
              · exact ⟨_, rfl⟩
              · split
                · exact meet_ends hb
                · split
                  · exact hb
                  · exact ⟨_, rfl⟩
            · split
              · exact ⟨_, rfl⟩
              · split
                · exact ⟨_, rfl⟩
                · exact ⟨_, rfl⟩
noncomputable def tStep (p : Prog) (node : Int) (s : TSt) : TSt := (tStepN (fuelOf p s) p node s).getD s
theorem tStep_eq (p : Prog) (node : Int) (s : TSt) : tStepN (fuelOf p s) p node s = some (tStep p node s) := by
  obtain ⟨s', h⟩ := step_ends p node s
  unfold tStep; rw [h]; rfl
theorem subOk_iff {s : Binds} : subOk s = true ↔ SubOk' s := by classical exact decide_eq_true_iff
theorem view_move {s s2 : TSt} {cs : List TCh} (h : ∀ d ∈ cs, s2.binds.take d.mark.toNat = s.binds.take d.mark.toNat) : cs.map (viewC s2) = cs.map (viewC s) :=
  List.map_congr_left fun d hd => by unfold viewC; rw [h d hd]
end Go.Proofs.YtjglbadkbhopoaaGreatDoor
namespace Go.Proofs.YtjglbadkbhopoaaGreatDoor
open Go.RowKit
set_option maxRecDepth 100000
set_option maxHeartbeats 2000000
set_option linter.unusedVariables false
theorem S_one {α : Type} {d : Kd α} {e : Nat} {w : World} {v : Value} {xs : List α} (h : d.S e w v xs) : v.oneCell' = true := by obtain ⟨A, c, rfl, _⟩ := h; rfl
theorem C_at {α : Type} {d : Kd α} {e : Nat} {w : World} {A : Option Addr} {xs : List α} (h : d.C e w A xs) {i : Nat} {x : α} (hi : xs[i]? = some x) :
    ∃ ad cs, A = some ad ∧ d.K w x cs ∧ (∀ u, cs[0]? = some u → w.cell? (ad.add (i * d.sz)) = some u) ∧ ∀ j u, cs[j + 1]? = some u → w.cell? ⟨(ad.add (i * d.sz)).block, (ad.add (i * d.sz)).off + (j + 1), none⟩ = some u := by
  obtain ⟨ad, cs, _, _, ea, _, hk, hc⟩ := h i x hi
  refine ⟨ad, cs, ea, hk, fun u hu => ?_, fun j u hu => ?_⟩
  · have := hc 0 u hu; rwa [Nat.add_zero] at this
  · have := hc (j + 1) u hu; rw [← add_add'] at this; exact this
abbrev T0 (w : World) (v : Value) (t : Trm) : Prop := Kd.cell.S 47 w v t
theorem T0_mov {E : List Nat} {w w' : World} {v : Value} {t : Trm} (hk : Keep E w w') (hE : 47 ∈ E) (h : T0 w v t) : T0 w' v t :=
  Kd.S_mov (hk.sub fun q hq => by
    have : q = 47 := by simpa [Kd.cell] using hq
    rw [this]; exact hE) h
def Kd.goal : Kd Goal where
  sz := 4
  E := [47]
  K := fun w g cs => ∃ av bv cv, cs = [.int .i64 g.k, av, bv, cv] ∧ T0 w av g.a ∧ T0 w bv g.b ∧ T0 w cv g.c
  len := by rintro w x cs ⟨_, _, _, rfl, _⟩; rfl
  one := by
    rintro w x cs ⟨av, bv, cv, rfl, h1, h2, h3⟩ u hu
    simp only [List.mem_cons, List.mem_nil_iff, or_false] at hu
    rcases hu with rfl | rfl | rfl | rfl
    · rfl
    · exact S_one h1
    · exact S_one h2
    · exact S_one h3
  mov := by rintro w w' x cs hk ⟨av, bv, cv, e, h1, h2, h3⟩; exact ⟨av, bv, cv, e, T0_mov hk (by simp) h1, T0_mov hk (by simp) h2, T0_mov hk (by simp) h3⟩
def Kd.sgoal : Kd SGoal where
  sz := 5
  E := [47]
  K := fun w g cs => ∃ av bv cv, cs = [.int .i64 g.g.k, av, bv, cv, .int .i64 g.cut] ∧ T0 w av g.g.a ∧ T0 w bv g.g.b ∧ T0 w cv g.g.c
  len := by rintro w x cs ⟨_, _, _, rfl, _⟩; rfl
  one := by
    rintro w x cs ⟨av, bv, cv, rfl, h1, h2, h3⟩ u hu
    simp only [List.mem_cons, List.mem_nil_iff, or_false] at hu
    rcases hu with rfl | rfl | rfl | rfl | rfl
    · rfl
    · exact S_one h1
    · exact S_one h2
    · exact S_one h3
    · rfl
  mov := by rintro w w' x cs hk ⟨av, bv, cv, e, h1, h2, h3⟩; exact ⟨av, bv, cv, e, T0_mov hk (by simp) h1, T0_mov hk (by simp) h2, T0_mov hk (by simp) h3⟩
abbrev G0 (w : World) (v : Value) (gs : List SGoal) : Prop := Kd.sgoal.S 168 w v gs
abbrev B0 (w : World) (v : Value) (s : Binds) : Prop := Kd.bind.S 107 w v s
def Kd.clause : Kd Clause where
  sz := 2
  E := [47, 160]
  K := fun w c cs => ∃ hv bv, cs = [hv, bv] ∧ T0 w hv c.head ∧ Kd.goal.S 160 w bv c.body
  len := by rintro w x cs ⟨_, _, rfl, _⟩; rfl
  one := by
    rintro w x cs ⟨hv, bv, rfl, h1, h2⟩ u hu
    simp only [List.mem_cons, List.mem_nil_iff, or_false] at hu
    rcases hu with rfl | rfl
    · exact S_one h1
    · exact S_one h2
  mov := by
    rintro w w' x cs hk ⟨hv, bv, e, h1, h2⟩
    exact ⟨hv, bv, e, T0_mov hk (by simp) h1, Kd.S_mov (hk.sub fun q hq => by simp only [Kd.goal, List.mem_cons, List.mem_nil_iff, or_false] at hq ⊢; omega) h2⟩
def Kd.place : Kd Place where
  sz := 3
  E := []
  K := fun w c cs => cs = [.string c.name, .int .i64 c.n, .int .i64 c.node]
  len := by rintro w x cs rfl; rfl
  one := by
    rintro w x cs rfl u hu
    simp only [List.mem_cons, List.mem_nil_iff, or_false] at hu
    rcases hu with rfl | rfl | rfl <;> rfl
  mov := fun _ h => h
theorem G0_mov {E : List Nat} {w w' : World} {v : Value} {gs : List SGoal} (hk : Keep E w w') (hE : 47 ∈ E) (hE2 : 168 ∈ E) (h : G0 w v gs) : G0 w' v gs :=
  Kd.S_mov (hk.sub fun q hq => by
    simp only [Kd.sgoal, List.mem_cons, List.mem_nil_iff, or_false] at hq
    rcases hq with rfl | rfl
    · exact hE2
    · exact hE) h
theorem B0_mov {E : List Nat} {w w' : World} {v : Value} {s : Binds} (hk : Keep E w w') (hE : 47 ∈ E) (hE2 : 107 ∈ E) (h : B0 w v s) : B0 w' v s :=
  Kd.S_mov (hk.sub fun q hq => by
    have : q = 107 ∨ q = 47 := by simpa [Kd.bind, Kd.pair, Kd.int, Kd.slice, Kd.cell] using hq
    rcases this with rfl | rfl
    · exact hE2
    · exact hE) h
def Kd.sch : Kd SCh where
  sz := 5
  E := [47, 168, 107]
  K := fun w c cs => ∃ gv bv av, cs = [gv, bv, .int .i64 c.vars, av, .int .i64 c.next] ∧ G0 w gv c.goals ∧ B0 w bv c.binds ∧ T0 w av c.call
  len := by rintro w x cs ⟨_, _, _, rfl, _⟩; rfl
  one := by
    rintro w x cs ⟨gv, bv, av, rfl, h1, h2, h3⟩ u hu
    simp only [List.mem_cons, List.mem_nil_iff, or_false] at hu
    rcases hu with rfl | rfl | rfl | rfl | rfl
    · exact S_one h1
    · exact S_one h2
    · rfl
    · exact S_one h3
    · rfl
  mov := by rintro w w' x cs hk ⟨gv, bv, av, e, h1, h2, h3⟩; exact ⟨gv, bv, av, e, G0_mov hk (by simp) (by simp) h1, B0_mov hk (by simp) (by simp) h2, T0_mov hk (by simp) h3⟩
abbrev Kd.sout : Kd (Int × Trm) := Kd.bind
theorem AppI.goal : AppI Tryz.prog 124 160 Kd.goal := ⟨Tryz.underlying124, ⟨.agg #[.int .i64 0, .slice none 0 0, .slice none 0 0, .slice none 0 0], 80, by kernel_rfl, rfl, by decide⟩, by decide, fun q hq => by
  have : q = 47 := by simpa [Kd.goal] using hq
  rw [this]; decide⟩
theorem AppI.sgoal : AppI Tryz.prog 136 168 Kd.sgoal := ⟨Tryz.underlying136, ⟨.agg #[.int .i64 0, .slice none 0 0, .slice none 0 0, .slice none 0 0, .int .i64 0], 88, by kernel_rfl, rfl, by decide⟩, by decide, fun q hq => by
  have : q = 47 := by simpa [Kd.sgoal] using hq
  rw [this]; decide⟩
theorem AppI.sch : AppI Tryz.prog 137 196 Kd.sch := ⟨Tryz.underlying137, ⟨.agg #[.slice none 0 0, .slice none 0 0, .int .i64 0, .slice none 0 0, .int .i64 0], 88, by kernel_rfl, rfl, by decide⟩, by decide, fun q hq => by
  have : q = 47 ∨ q = 168 ∨ q = 107 := by simpa [Kd.sch] using hq
  rcases this with rfl | rfl | rfl <;> decide⟩
section
variable {e : Nat} {w : World} {A : Option Addr} {i : Nat}
theorem goal_at {xs : List Goal} {x : Goal} (h : Kd.goal.C e w A xs) (hi : xs[i]? = some x) : ∃ ad av bv cv, A = some ad ∧ w.cell? (ad.add (i * 4)) = some (.int .i64 x.k) ∧ w.cell? ⟨(ad.add (i * 4)).block, (ad.add (i * 4)).off + 1, none⟩ = some av ∧ w.cell? ⟨(ad.add (i * 4)).block, (ad.add (i * 4)).off + 2, none⟩ = some bv ∧ w.cell? ⟨(ad.add (i * 4)).block, (ad.add (i * 4)).off + 3, none⟩ = some cv ∧ T0 w av x.a ∧ T0 w bv x.b ∧ T0 w cv x.c := by
  obtain ⟨ad, cs, ea, ⟨av, bv, cv, rfl, h1, h2, h3⟩, c0, c1⟩ := C_at h hi
  exact ⟨ad, av, bv, cv, ea, c0 _ rfl, c1 0 _ rfl, c1 1 _ rfl, c1 2 _ rfl, h1, h2, h3⟩
theorem sgoal_at {xs : List SGoal} {x : SGoal} (h : Kd.sgoal.C e w A xs) (hi : xs[i]? = some x) : ∃ ad av bv cv, A = some ad ∧ w.cell? (ad.add (i * 5)) = some (.int .i64 x.g.k) ∧ w.cell? ⟨(ad.add (i * 5)).block, (ad.add (i * 5)).off + 1, none⟩ = some av ∧ w.cell? ⟨(ad.add (i * 5)).block, (ad.add (i * 5)).off + 2, none⟩ = some bv ∧ w.cell? ⟨(ad.add (i * 5)).block, (ad.add (i * 5)).off + 3, none⟩ = some cv ∧ w.cell? ⟨(ad.add (i * 5)).block, (ad.add (i * 5)).off + 4, none⟩ = some (.int .i64 x.cut) ∧ T0 w av x.g.a ∧ T0 w bv x.g.b ∧ T0 w cv x.g.c := by
  obtain ⟨ad, cs, ea, ⟨av, bv, cv, rfl, h1, h2, h3⟩, c0, c1⟩ := C_at h hi
  exact ⟨ad, av, bv, cv, ea, c0 _ rfl, c1 0 _ rfl, c1 1 _ rfl, c1 2 _ rfl, c1 3 _ rfl, h1, h2, h3⟩
theorem clause_at {xs : List Clause} {x : Clause} (h : Kd.clause.C e w A xs) (hi : xs[i]? = some x) : ∃ ad hv bv, A = some ad ∧ w.cell? (ad.add (i * 2)) = some hv ∧ w.cell? ⟨(ad.add (i * 2)).block, (ad.add (i * 2)).off + 1, none⟩ = some bv ∧ T0 w hv x.head ∧ Kd.goal.S 160 w bv x.body := by
  obtain ⟨ad, cs, ea, ⟨hv, bv, rfl, h1, h2⟩, c0, c1⟩ := C_at h hi
  exact ⟨ad, hv, bv, ea, c0 _ rfl, c1 0 _ rfl, h1, h2⟩
theorem place_at {xs : List Place} {x : Place} (h : Kd.place.C e w A xs) (hi : xs[i]? = some x) : ∃ ad, A = some ad ∧ w.cell? (ad.add (i * 3)) = some (.string x.name) ∧ w.cell? ⟨(ad.add (i * 3)).block, (ad.add (i * 3)).off + 1, none⟩ = some (.int .i64 x.n) ∧ w.cell? ⟨(ad.add (i * 3)).block, (ad.add (i * 3)).off + 2, none⟩ = some (.int .i64 x.node) := by
  obtain ⟨ad, cs, ea, rfl, c0, c1⟩ := C_at h hi
  exact ⟨ad, ea, c0 _ rfl, c1 0 _ rfl, c1 1 _ rfl⟩
theorem sch_at {xs : List SCh} {x : SCh} (h : Kd.sch.C e w A xs) (hi : xs[i]? = some x) : ∃ ad gv bv av, A = some ad ∧ w.cell? (ad.add (i * 5)) = some gv ∧ w.cell? ⟨(ad.add (i * 5)).block, (ad.add (i * 5)).off + 1, none⟩ = some bv ∧ w.cell? ⟨(ad.add (i * 5)).block, (ad.add (i * 5)).off + 2, none⟩ = some (.int .i64 x.vars) ∧ w.cell? ⟨(ad.add (i * 5)).block, (ad.add (i * 5)).off + 3, none⟩ = some av ∧ w.cell? ⟨(ad.add (i * 5)).block, (ad.add (i * 5)).off + 4, none⟩ = some (.int .i64 x.next) ∧ G0 w gv x.goals ∧ B0 w bv x.binds ∧ T0 w av x.call := by
  obtain ⟨ad, cs, ea, ⟨gv, bv, av, rfl, h1, h2, h3⟩, c0, c1⟩ := C_at h hi
  exact ⟨ad, gv, bv, av, ea, c0 _ rfl, c1 0 _ rfl, c1 1 _ rfl, c1 2 _ rfl, c1 3 _ rfl, h1, h2, h3⟩
end
end Go.Proofs.YtjglbadkbhopoaaGreatDoor
namespace Go.Proofs.YtjglbadkbhopoaaGreatDoor
open Go.RowKit
set_option maxRecDepth 100000
set_option maxHeartbeats 2000000
set_option linter.unusedVariables false
theorem inClS_c (t : Trm) (tv : Value) (w : World) (h : Kd.cell.S 47 w tv t) (hl : t.length ≤ 1000000000) :
    Calls Tryz.prog 140 #[tv] w fun e w' => e = .returned (.bool (inCl t)) ∧ Below w.heap.size w w' := by
  have HT := Lib.hid (trmOkS_c t tv w h hl)
  have HS := Lib.hid h
  obtain ⟨A, c, rfl, a1, a2, -⟩ := h
  cases hq : trmOk t with
  | false =>
    rw [hq] at HT
    have HV := Lib.hid (show inCl t = false by unfold inCl; rw [hq]; rfl)
    clear hq
    go_enter Tryz.func140, Tryz.ntmps140
    go_wp2_with (go_at_call 21; (with_reducible refine HT.out.mono ?_); rintro e w1 ⟨rfl, hb⟩)
    go_ret
    exact ⟨ret_bool HV.out.symm, hb⟩
  | true =>
    rw [hq] at HT
    by_cases h12 : t.length ≤ 12
    · have e0 : decide ((12 : Int) < (t.length : Int)) = false := decide_eq_false (by omega)
      have HV := Lib.hid (show inCl t = t.all small by unfold inCl; rw [hq, decide_eq_true h12]; rfl)
      clear hq
      go_enter Tryz.func140, Tryz.ntmps140
      go_wp2_with (go_at_call 21; (with_reducible refine HT.out.mono ?_); rintro e w1 ⟨rfl, hb⟩; have HB := Lib.hid hb; clear hb)
      go_loopw [3] (fun v3 wr => ∃ k : Nat, v3 = .int .i64 k ∧ k ≤ t.length ∧ Hid ((t.drop k).all small = t.all small) ∧ wr = w1) (fun v3 _ => t.length - (intOf v3).toNat)
      case atStart => exact ⟨0, rfl, Nat.zero_le _, Lib.hid (by simp), rfl⟩
      case round =>
        obtain ⟨k, rfl, hk, HA, rfl⟩ := hrel
        by_cases hlt : k < t.length
        · obtain ⟨cc, hc⟩ : ∃ cc, t[k]? = some cc := ⟨_, List.getElem?_eq_getElem hlt⟩
          obtain ⟨A', c', ev, _, _, hC⟩ := Kd.S_ext HB.out HS.out
          injection ev with u1 u2 u3
          obtain ⟨ad, had, x1, x2, x3⟩ := cell_at hC hc
          have had2 := u1.trans had
          have hA := HA.out
          rw [List.drop_eq_getElem_cons hlt, (List.getElem?_eq_some_iff.1 hc).2, List.all_cons] at hA
          clear u1 u2 u3 had hC hc
          subst had2
          by_cases hk1 : cc.k = 1
          · have e1 : (cc.k == 1) = true := beq_iff_eq.2 hk1
            by_cases h8 : 8 ≤ cc.n
            · have e2 : decide (8 ≤ cc.n) = true := decide_eq_true h8
              have HR := Lib.hid (show inCl t = false by rw [HV.out, ← hA, show small cc = false by unfold small; rw [e1, e2]; rfl]; rfl)
              clear hA hk1
              go_wp2
              go_ret
              exact ⟨ret_bool HR.out.symm, HB.out⟩
            · have e2 : decide (8 ≤ cc.n) = false := decide_eq_false h8
              have HR := Lib.hid (show (t.drop (k + 1)).all small = t.all small by rw [← hA, show small cc = true by unfold small; rw [e1, e2]; rfl]; rfl)
              clear hA hk1
              go_wp2
              exact ⟨⟨k + 1, by go_num, hlt, HR, trivial⟩, by simp [intOf]; omega⟩
          · have e1 : (cc.k == 1) = false := beq_eq_false_iff_ne.2 hk1
            have HR := Lib.hid (show (t.drop (k + 1)).all small = t.all small by rw [← hA, show small cc = true by unfold small; rw [e1]; rfl]; rfl)
            clear hA hk1
            go_wp2
            exact ⟨⟨k + 1, by go_num, hlt, HR, trivial⟩, by simp [intOf]; omega⟩
        · have HR := Lib.hid (show inCl t = true by rw [HV.out, ← HA.out, List.drop_of_length_le (by omega)]; rfl)
          go_wp2
          go_ret
          exact ⟨ret_bool HR.out.symm, HB.out⟩
    · have e0 : decide ((12 : Int) < (t.length : Int)) = true := decide_eq_true (by omega)
      have HV := Lib.hid (show inCl t = false by unfold inCl; rw [hq, decide_eq_false h12]; rfl)
      clear hq
      go_enter Tryz.func140, Tryz.ntmps140
      go_wp2_with (go_at_call 21; (with_reducible refine HT.out.mono ?_); rintro e w1 ⟨rfl, hb⟩)
      go_ret
      exact ⟨ret_bool HV.out.symm, hb⟩
end Go.Proofs.YtjglbadkbhopoaaGreatDoor
namespace Go.Proofs.YtjglbadkbhopoaaGreatDoor
open Go.RowKit
set_option maxRecDepth 100000
set_option maxHeartbeats 4000000
set_option linter.unusedVariables false
theorem gbox_at (w : World) (k : Int) (av bv cv : Value) {w1 : World} (hb : Below (w.alloc (.cells #[.int .i64 k, av, bv, cv] 160)).heap.size (w.alloc (.cells #[.int .i64 k, av, bv, cv] 160)) w1) :
    w1.cell? ⟨w.heap.size, 0, none⟩ = some (.int .i64 k) ∧ w1.cell? ⟨w.heap.size, 1, none⟩ = some av ∧ w1.cell? ⟨w.heap.size, 2, none⟩ = some bv ∧ w1.cell? ⟨w.heap.size, 3, none⟩ = some cv := by
  have h := heap_alloc_new w (.cells #[.int .i64 k, av, bv, cv] 160)
  exact ⟨cell_keep hb (Lib.cell_of_heap h 0), cell_keep hb (Lib.cell_of_heap h 1), cell_keep hb (Lib.cell_of_heap h 2), cell_keep hb (Lib.cell_of_heap h 3)⟩
theorem goalS_c (k : Int) (a b c : Trm) (av bv cv : Value) (w : World) (hA : Kd.cell.S 47 w av a) (hB : Kd.cell.S 47 w bv b) (hC : Kd.cell.S 47 w cv c) (la : a.length ≤ 1000000000) (lb : b.length ≤ 1000000000) (lc : c.length ≤ 1000000000) :
    Calls Tryz.prog 139 #[.agg #[.int .i64 k, av, bv, cv]] w fun e w' => e = .returned (.bool (goalOk k a b c)) ∧ Below w.heap.size w w' := by
  have HA := Lib.hid (fun w' hb => inClS_c a av w' (Kd.S_ext hb hA) la)
  have HB := Lib.hid (fun w' hb => inClS_c b bv w' (Kd.S_ext hb hB) lb)
  have HC := Lib.hid (fun w' hb => inClS_c c cv w' (Kd.S_ext hb hC) lc)
  have HX := Lib.hid (fun w1 => gbox_at w k av bv cv (w1 := w1))
  have H0 := Lib.hid (fun o => bel_alloc (Below.refl _ w) o)
  have HSa := Lib.hid hA
  have HCl := Lib.hid (fun w' hb => (show Calls Tryz.prog 49 #[av] w' fun e w2 => e = .returned (.bool (calls a)) ∧ w' = w2 by
    obtain ⟨A, c, rfl, _, _, h⟩ := Kd.S_ext (w := w) (w' := w') hb hA
    exact calls_c a A c w' h))
  obtain ⟨A1, n1, rfl, a1, a2, -⟩ := hA
  obtain ⟨A2, n2, rfl, b1, b2, -⟩ := hB
  obtain ⟨A3, n3, rfl, c1, c2, -⟩ := hC
  obtain ⟨qa, hqa⟩ : ∃ q, inCl a = q := ⟨_, rfl⟩
  obtain ⟨qb, hqb⟩ : ∃ q, inCl b = q := ⟨_, rfl⟩
  obtain ⟨qc, hqc⟩ : ∃ q, inCl c = q := ⟨_, rfl⟩
  obtain ⟨ca, hca⟩ : ∃ q, calls a = q := ⟨_, rfl⟩
  rw [hqa] at HA
  rw [hqb] at HB
  rw [hqc] at HC
  rw [hca] at HCl
  unfold goalOk
  rw [hqa, hqb, hqc, hca]
  clear hqa hqb hqc hca HSa
  by_cases k1 : k = 1
  · subst k1
    rw [if_pos rfl]
    obtain ⟨q0, e0⟩ : ∃ q, ((b.length : Int) + (c.length : Int) == 0) = q := ⟨_, rfl⟩
    rw [e0]
    cases qa <;> cases ca <;> cases q0
    all_goals
      go_enter Tryz.func139, Tryz.ntmps139
      go_wp2_with (first | (go_at_call 140; (with_reducible refine (HA.out _ (H0.out _)).mono ?_); rintro e w1 ⟨rfl, hb1⟩; obtain ⟨x0, x1, x2, x3⟩ := HX.out _ hb1; have HB1 := Lib.hid (bel_trans (H0.out _) hb1); clear hb1) | (go_at_call 49; (with_reducible refine (HCl.out _ HB1.out).mono ?_); rintro e w2 ⟨rfl, rfl⟩))
      go_ret
      exact ⟨rfl, HB1.out⟩
  · rw [if_neg k1]
    have e1 : (k == 1) = false := beq_eq_false_iff_ne.2 k1
    by_cases k3 : k = 3
    · subst k3
      rw [if_pos rfl]
      obtain ⟨q0, e0⟩ : ∃ q, ((a.length : Int) + (b.length : Int) + (c.length : Int) == 0) = q := ⟨_, rfl⟩
      rw [e0]
      cases q0
      all_goals
        go_enter Tryz.func139, Tryz.ntmps139
        go_wp2
        go_ret
        exact ⟨rfl, H0.out _⟩
    · rw [if_neg k3]
      have e3 : (k == 3) = false := beq_eq_false_iff_ne.2 k3
      by_cases k24 : k = 2 ∨ k = 4
      · rw [if_pos k24]
        obtain ⟨q0, e0⟩ : ∃ q, ((c.length : Int) == 0) = q := ⟨_, rfl⟩
        rw [e0]
        clear k1 k3 e1 e3
        rcases k24 with rfl | rfl
        all_goals (cases qa <;> cases qb <;> cases q0)
        all_goals
          go_enter Tryz.func139, Tryz.ntmps139
          go_wp2_with (first | (go_at_call 140; (with_reducible refine (HA.out _ (H0.out _)).mono ?_); rintro e w1 ⟨rfl, hb1⟩; obtain ⟨x0, x1, x2, x3⟩ := HX.out _ hb1; have Hb1 := Lib.hid hb1; have HB1 := Lib.hid (bel_trans (H0.out _) hb1); clear hb1) | (go_at_call 140; (with_reducible refine (HB.out _ HB1.out).mono ?_); rintro e w2 ⟨rfl, hb2⟩; obtain ⟨z0, z1, z2, z3⟩ := HX.out _ (bel_trans Hb1.out hb2); have HB2 := Lib.hid (bel_trans HB1.out hb2); clear hb2) | (go_at_call 140; (with_reducible refine (HC.out _ HB2.out).mono ?_); rintro e w3 ⟨rfl, hb3⟩; have HB3 := Lib.hid (bel_trans HB2.out hb3); clear hb3))
          go_ret
          first | exact ⟨rfl, HB3.out⟩ | exact ⟨rfl, HB2.out⟩ | exact ⟨rfl, HB1.out⟩
      · rw [if_neg k24]
        by_cases k5 : k = 5
        · subst k5
          rw [if_pos rfl]
          clear k1 k3 e1 e3 k24
          cases qa <;> cases qb <;> cases qc
          all_goals
            go_enter Tryz.func139, Tryz.ntmps139
            go_wp2_with (first | (go_at_call 140; (with_reducible refine (HA.out _ (H0.out _)).mono ?_); rintro e w1 ⟨rfl, hb1⟩; obtain ⟨x0, x1, x2, x3⟩ := HX.out _ hb1; have Hb1 := Lib.hid hb1; have HB1 := Lib.hid (bel_trans (H0.out _) hb1); clear hb1) | (go_at_call 140; (with_reducible refine (HB.out _ HB1.out).mono ?_); rintro e w2 ⟨rfl, hb2⟩; obtain ⟨z0, z1, z2, z3⟩ := HX.out _ (bel_trans Hb1.out hb2); have HB2 := Lib.hid (bel_trans HB1.out hb2); clear hb2) | (go_at_call 140; (with_reducible refine (HC.out _ HB2.out).mono ?_); rintro e w3 ⟨rfl, hb3⟩; have HB3 := Lib.hid (bel_trans HB2.out hb3); clear hb3))
            go_ret
            first | exact ⟨rfl, HB3.out⟩ | exact ⟨rfl, HB2.out⟩ | exact ⟨rfl, HB1.out⟩
        · rw [if_neg k5]
          have e2 : (k == 2) = false := beq_eq_false_iff_ne.2 (fun h => k24 (.inl h))
          have e4 : (k == 4) = false := beq_eq_false_iff_ne.2 (fun h => k24 (.inr h))
          have e5 : (k == 5) = false := beq_eq_false_iff_ne.2 k5
          clear k1 k3 k24 k5
          go_enter Tryz.func139, Tryz.ntmps139
          go_wp2
          go_ret
          exact ⟨rfl, H0.out _⟩
end Go.Proofs.YtjglbadkbhopoaaGreatDoor
