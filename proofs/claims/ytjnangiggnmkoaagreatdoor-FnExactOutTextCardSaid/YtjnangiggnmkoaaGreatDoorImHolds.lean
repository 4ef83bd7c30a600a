/- Contracts: the program's look for loops, and how it binds. -/
import Derived.Test.YtjnangiggnmkoaaGreatDoorSeen
import Derived.Test.YtjnangiggnmkoaaGreatDoorUni4
import Derived.Test.YtjnangiggnmkoaaGreatDoorBase3
namespace Go.Proofs.YtjnangiggnmkoaaGreatDoor
open Go.RowKit
set_option maxRecDepth 100000
set_option maxHeartbeats 2000000
set_option linter.unusedVariables false
theorem AppI.bindings : AppI Tryz.prog 64 115 Kd.bind := ⟨Tryz.underlying64, AppI.bind.info, AppI.bind.pos, AppI.bind.sep⟩
theorem cloneS_c (t : Trm) (A : Option Addr) (c : Nat) (w : World) (h : Kd.cell.S 47 w (.slice A t.length c) t) (hl : t.length ≤ 1000000000) :
    Calls Tryz.prog 70 #[.slice A t.length c] w fun e w' => ∃ v, e = .returned v ∧ Kd.cell.O 47 w' w.heap.size v t ∧ Below w.heap.size w w' := by
  obtain ⟨A', c', ev, _, _, hC⟩ := h
  injection ev with e1 e2 e3
  subst e1
  exact clone_c t A c w hC hl
def unseen (V S : List Int) : Nat := (V.filter (fun x => decide (x ∉ S))).length
theorem unseen_lt {V S : List Int} {x : Int} (hx : x ∈ V) (hS : x ∉ S) : unseen V (S ++ [x]) < unseen V S := by
  refine filter_lt (fun y hy => ?_) (v := x) (decide_eq_true hS) (by simp) hx
  have := of_decide_eq_true hy
  exact decide_eq_true (fun h => this (List.mem_append_left _ h))
theorem unseen_le {V S S' : List Int} (h : ∀ x ∈ S, x ∈ S') : unseen V S' ≤ unseen V S := by
  refine filter_le (fun y hy => ?_) V
  have := of_decide_eq_true hy
  exact decide_eq_true (fun h' => this (h y h'))
/-- What was seen on the way from S to S'. -/
structure DInv (V : List Int) (s : Binds) (v : Int) (S S' : List Int) : Prop where
  sub : ∀ x ∈ S, x ∈ S'
  nod : S'.Nodup
  inV : ∀ x ∈ S', x ∈ V
  not : v ∉ S'
  clo : ∀ x ∈ S', x ∉ S → ∀ u, getB s x = some u → ∀ y ∈ vars u, y ∈ S'
theorem DInv.none {V : List Int} {s : Binds} {v : Int} {S S' : List Int} (h : DInv V s v S S') {x : Int} (hx : x ∉ S') (hv : x ≠ v) (hV : x ∈ V) (hg : getB s x = none) : DInv V s v S (S' ++ [x]) where
  sub := fun y hy => List.mem_append_left _ (h.sub y hy)
  nod := by
    rw [List.nodup_append]
    exact ⟨h.nod, by simp, fun a ha b hb => by simp at hb; subst hb; rintro rfl; exact hx ha⟩
  inV := fun y hy => by
    rcases List.mem_append.1 hy with hy | hy
    · exact h.inV y hy
    · simp at hy; subst hy; exact hV
  not := fun hm => by
    rcases List.mem_append.1 hm with hm | hm
    · exact h.not hm
    · simp at hm; exact hv hm.symm
  clo := fun y hy hS u hu z hz => by
    rcases List.mem_append.1 hy with hy | hy
    · exact List.mem_append_left _ (h.clo y hy hS u hu z hz)
    · simp at hy; subst hy; rw [hg] at hu; cases hu
theorem DInv.start {V : List Int} {s : Binds} {v : Int} {S : List Int} (h1 : S.Nodup) (h2 : ∀ x ∈ S, x ∈ V) (h3 : v ∉ S) : DInv V s v S S := ⟨fun _ h => h, h1, h2, h3, fun x h h' => absurd h h'⟩
theorem DInv.some {V : List Int} {s : Binds} {v : Int} {S S' S'' : List Int} (h : DInv V s v S S') {x : Int} {u : Trm} (hg : getB s x = some u) (k : DInv V s v (S' ++ [x]) S'') (hu : ∀ y ∈ vars u, y ∈ S'') : DInv V s v S S'' where
  sub := fun y hy => k.sub y (List.mem_append_left _ (h.sub y hy))
  nod := k.nod
  inV := k.inV
  not := k.not
  clo := fun y hy hS u' hu' z hz => by
    by_cases h1 : y ∈ S'
    · exact k.sub z (List.mem_append_left _ (h.clo y h1 hS u' hu' z hz))
    · by_cases h2 : y = x
      · subst h2; rw [hg] at hu'; obtain rfl := Option.some.inj hu'; exact hu z hz
      · exact k.clo y hy (fun h => by rcases List.mem_append.1 h with h | h; exact h1 h; simp at h; exact h2 h) u' hu' z hz
theorem DInv.done {V : List Int} {s : Binds} {v : Int} {S' : List Int} {t : Trm} (h : DInv V s v [] S') (ht : ∀ x ∈ vars t, x ∈ S') : ¬ Rch s t v := by
  intro hr
  have : ∀ {t : Trm} {x : Int}, Rch s t x → (∀ y ∈ vars t, y ∈ S') → x ∈ S' := by
    intro t x hr
    induction hr with
    | here hx => exact fun hv => hv _ hx
    | on hx hg _ ih => exact fun hv => ih (h.clo _ (hv _ hx) (by simp) _ hg)
  exact h.not (this hr ht)
def HoldsPost (V : List Int) (s : Binds) (t : Trm) (v : Int) (b : Nat) (w : World) (S : List Int) (e : Ending) (w' : World) : Prop :=
  w.grownBy w' (some b) ∧ ∃ r : Bool, e = .returned (.bool r) ∧ (r = true → Rch s t v) ∧ (r = false → ∃ S', Seen w' b S' ∧ DInv V s v S S' ∧ ∀ x ∈ vars t, x ∈ S')
theorem HoldsPost.yes {V : List Int} {s : Binds} {t : Trm} {v : Int} {b : Nat} {w : World} {S : List Int} {w' : World} (hg : w.grownBy w' (some b)) (h : Rch s t v) : HoldsPost V s t v b w S (.returned (.bool true)) w' := ⟨hg, true, rfl, fun _ => h, fun h => by cases h⟩
theorem HoldsPost.no {V : List Int} {s : Binds} {t : Trm} {v : Int} {b : Nat} {w : World} {S S' : List Int} {w' : World} (hg : w.grownBy w' (some b)) (h1 : Seen w' b S') (h2 : DInv V s v S S') (h3 : ∀ x ∈ vars t, x ∈ S') : HoldsPost V s t v b w S (.returned (.bool false)) w' := ⟨hg, false, rfl, fun h => (by cases h), fun _ => ⟨S', h1, h2, h3⟩⟩
theorem holds_c (V : List Int) (s : Binds) (v : Int) (b : Nat) (A : Option Addr) (c : Nat) (hl : s.length ≤ 1000000000) (hnd : (s.map (·.1)).Nodup) (hV : VarsIn s V) (hVl : V.length ≤ 1000000) (hVr : ∀ x ∈ V, 0 ≤ x ∧ x ≤ 1000000000) (hsl : ∀ v u, getB s v = some u → u.length ≤ 1000000000 ∧ u ≠ []) (N : Nat) :
    ∀ (t : Trm) (tv : Value) (w : World) (S : List Int), Kd.bind.C 115 w A s → Kd.cell.S 47 w tv t → t.length ≤ 1000000000 → (∀ x ∈ vars t, x ∈ V) → Seen w b S → S.Nodup → (∀ x ∈ S, x ∈ V) → v ∉ S → unseen V S < N →
    Calls Tryz.prog 92 #[.slice A s.length c, tv, .int .i64 v, .map (some b)] w (HoldsPost V s t v b w S) := by
  induction N with
  | zero => intro t tv w S _ _ _ _ _ _ _ _ h; omega
  | succ N ih =>
    intro t tv w S h ht htl htV hS hSn hSV hv hN
    obtain ⟨B, cB, rfl, b1, b2, hC⟩ := ht
    have IH := Lib.hid ih
    have HF := Lib.hid (imFree_c t B cB w hC htl)
    have H := Lib.hid h
    have HTV := Lib.hid htV
    have HSn := Lib.hid hS
    have HD0 := Lib.hid (DInv.start (s := s) hSn hSV hv)
    have HVi := Lib.hid hV
    have HVr := Lib.hid hVr
    have HSl := Lib.hid hsl
    have HND := Lib.hid hnd
    have HN := Lib.hid hN
    have hq := nil_eq
    clear ih hC h htV hS hSn hSV hv hV hVr hsl hnd hN
    go_enter Tryz.func92, Tryz.ntmps92
    go_wp2_with (go_at_call 69; (with_reducible refine HF.out.mono ?_); rintro e w1 ⟨fv, rfl, hO, hb⟩; have HO := Lib.hid hO; have HB := Lib.hid hb; obtain ⟨FB, cF, rfl, f1, f2, -⟩ := Kd.O_read hO; clear hO hb)
    obtain ⟨F, hF⟩ : ∃ F, free t = F := ⟨_, rfl⟩
    have HFv := Lib.hid (show ∀ x, x ∈ F ↔ x ∈ vars t from fun x => by rw [← hF]; exact mem_free)
    have hFl : F.length ≤ 1000000000 := by rw [← hF]; exact Nat.le_trans (free_len t) htl
    rw [hF] at HO f1 ⊢
    clear hF HF
    have HS1 := Lib.hid (HSn.out.ext HB.out)
    go_loopw [15] (fun v15 wr => ∃ (k : Nat) (T : List Int), v15 = .int .i64 k ∧ k ≤ F.length ∧ Hid (Seen wr b T) ∧ Hid (DInv V s v S T) ∧ Hid (∀ x ∈ F.take k, x ∈ T) ∧ Hid (w1.grownBy wr (some b))) (fun v15 _ => F.length - (intOf v15).toNat)
    case atStart => exact ⟨0, S, rfl, Nat.zero_le _, HS1, HD0, Lib.hid (fun x hx => by simp at hx), Lib.hid (grown_of_below (Below.refl _ _) _)⟩
    case round =>
      obtain ⟨k, T, rfl, hk, HT, HD, HK, HG⟩ := hrel
      by_cases hlt : k < F.length
      · obtain ⟨x, hx⟩ : ∃ x, F[k]? = some x := ⟨_, List.getElem?_eq_getElem hlt⟩
        have HOr := Lib.hid (grown_O HS1.out HG.out HO.out)
        obtain ⟨A', c', ev, -, -, hCF⟩ := Kd.O_read HOr.out
        injection ev with e1 e2 e3
        obtain ⟨ad, had, a1⟩ := int_at hCF hx
        have had2 := e1.trans had
        clear e1 e2 e3 had hCF
        subst had2
        have hxt : x ∈ vars t := (HFv.out x).1 (List.mem_of_getElem? hx)
        have hxV := HTV.out x hxt
        have hxr := HVr.out x hxV
        have Hx1 := Lib.hid hxt
        have Hx2 := Lib.hid hxV
        have hTl : T.length ≤ 1000000 := Nat.le_trans (sub_len HD.out.nod HD.out.inV) hVl
        have HKn := Lib.hid (show ∀ T' : List Int, (∀ y ∈ T, y ∈ T') → x ∈ T' → ∀ y ∈ F.take (k + 1), y ∈ T' from fun T' h1 h2 y hy => by
          rw [List.take_succ_eq_append_getElem hlt, (List.getElem?_eq_some_iff.1 hx).2] at hy
          rcases List.mem_append.1 hy with hy | hy
          · exact h1 y (HK.out y hy)
          · simp at hy; rw [hy]; exact h2)
        clear hxt hxV hx
        by_cases hxv : x = v
        · have e1 : (x == v) = true := beq_iff_eq.2 hxv
          have HR := Lib.hid (show Rch s t v by rw [← hxv]; exact .here Hx1.out)
          clear hxv
          go_wp2
          go_ret
          exact .yes ((grown_of_below HB.out _).trans HG.out) HR.out
        · have e1 : (x == v) = false := beq_eq_false_iff_ne.2 hxv
          by_cases hxT : x ∈ T
          · have HK2 := Lib.hid (HKn.out T (fun _ h => h) hxT)
            have HdT := Lib.hid (decide_eq_true hxT)
            clear hxT hxv
            go_wp2_with (at_lookup; refine wp_seen_look rfl rfl rfl HT.out rfl rfl (by omega) (by omega) ?_; rw [HdT.out])
            exact ⟨⟨k + 1, T, by go_num, by omega, HT, HD, HK2, HG⟩, by simp [intOf]; omega⟩
          · have HdT := Lib.hid (decide_eq_false hxT)
            have HxT := Lib.hid hxT
            have Hxv := Lib.hid hxv
            clear hxT hxv
            cases hg : getB s x with
            | none =>
              have HGt := Lib.hid (fun W hb => getI_none s A c x W (Kd.C_ext (w' := W) hb H.out) hl HND.out hg)
              have HD2 := Lib.hid (HD.out.none HxT.out Hxv.out Hx2.out hg)
              have HGc := Lib.hid (fun W (hc : Kd.bind.C 115 W A s) => getI_none s A c x W hc hl HND.out hg)
              clear hg HGt
              go_wp2_with (first | (at_lookup; refine wp_seen_look rfl rfl rfl HT.out rfl rfl (by omega) (by omega) ?_; rw [HdT.out]) | (at_mapUpdate; refine wp_seen_put rfl rfl rfl HT.out rfl rfl rfl (by omega) (by omega) (by omega) ?_; intro w2 hs2 hg2; have HS2 := Lib.hid hs2; have HG2 := Lib.hid hg2; clear hs2 hg2) | (go_at_call 91; (with_reducible refine (HGc.out _ (grown_C HT.out HG2.out (grown_C HS1.out HG.out (Kd.C_ext HB.out H.out)))).mono ?_); rintro e w3 ⟨rfl, hb3⟩; have HB3 := Lib.hid hb3; clear hb3))
              exact ⟨⟨k + 1, T ++ [x], by go_num, by omega, Lib.hid (HS2.out.ext HB3.out), HD2, Lib.hid (HKn.out _ (fun y h => List.mem_append_left _ h) (by simp)), Lib.hid ((HG.out.trans HG2.out).trans (grown_of_below HB3.out _))⟩, by simp [intOf]; omega⟩
            | some u =>
              have HGc := Lib.hid (fun W (hc : Kd.bind.C 115 W A s) => getI_some s A c x u W hc hl HND.out hg)
              have hul := (HSl.out x u hg).1
              obtain ⟨uc, ur, rfl⟩ : ∃ uc ur, u = uc :: ur := by
                cases u with
                | nil => exact absurd rfl (HSl.out x _ hg).2
                | cons uc ur => exact ⟨uc, ur, rfl⟩
              have HIH := Lib.hid (fun tv W hc hs hS => IH.out (uc :: ur) tv W (T ++ [x]) hc hs hul (HVi.out _ _ hg) hS (by
                rw [List.nodup_append]
                exact ⟨HD.out.nod, by simp, fun a ha b' hb => by simp at hb; subst hb; rintro rfl; exact HxT.out ha⟩) (fun y hy => by
                rcases List.mem_append.1 hy with hy | hy
                · exact HD.out.inV y hy
                · simp at hy; subst hy; exact Hx2.out) (fun hm => by
                rcases List.mem_append.1 hm with hm | hm
                · exact HD.out.not hm
                · simp at hm; exact Hxv.out hm.symm) (by
                have h1 := unseen_lt Hx2.out HxT.out
                have h2 := unseen_le (V := V) HD.out.sub
                have h3 := HN.out
                omega))
              have HRy := Lib.hid (show Rch s (uc :: ur) v → Rch s t v from fun hr => .on Hx1.out hg hr)
              have HDs := Lib.hid (fun S'' => HD.out.some hg (S'' := S''))
              clear hg hul
              go_wp2_with (first | (at_lookup; refine wp_seen_look rfl rfl rfl HT.out rfl rfl (by omega) (by omega) ?_; rw [HdT.out]) | (at_mapUpdate; refine wp_seen_put rfl rfl rfl HT.out rfl rfl rfl (by omega) (by omega) (by omega) ?_; intro w2 hs2 hg2; have HS2 := Lib.hid hs2; have HG2 := Lib.hid hg2; clear hs2 hg2)
                                 | (go_at_call 91; (with_reducible refine (HGc.out _ (grown_C HT.out HG2.out (grown_C HS1.out HG.out (Kd.C_ext HB.out H.out)))).mono ?_); rintro e w3 ⟨rv, rfl, hs3, hb3⟩; have HB3 := Lib.hid hb3; have HS3 := Lib.hid hs3; obtain ⟨ua, nu, ku, rfl, hu1, hu2, hu3, hu4⟩ := S_open hs3; clear hb3 hs3)
                                 | (go_at_call 92; (with_reducible refine (HIH.out _ _ (Kd.C_ext HB3.out (grown_C HT.out HG2.out (grown_C HS1.out HG.out (Kd.C_ext HB.out H.out)))) HS3.out (HS2.out.ext HB3.out)).mono ?_); rintro e w4 ⟨hg4, r, rfl, hy4, hn4⟩; have HG4 := Lib.hid hg4; have HY4 := Lib.hid hy4; have HN4 := Lib.hid hn4; clear hg4 hy4 hn4))
              · have hr : r = true := by assumption
                go_ret
                exact .yes ((grown_of_below HB.out _).trans (((HG.out.trans HG2.out).trans (grown_of_below HB3.out _)).trans HG4.out)) (HRy.out (HY4.out hr))
              · have hr : r = false := by assumption
                obtain ⟨T2, k1, k2, k3⟩ := HN4.out hr
                exact ⟨⟨k + 1, T2, by go_num, by omega, Lib.hid k1, Lib.hid (HDs.out _ k2 k3), Lib.hid (HKn.out _ (fun y h => k2.sub y (List.mem_append_left _ h)) (k2.sub x (by simp))), Lib.hid (((HG.out.trans HG2.out).trans (grown_of_below HB3.out _)).trans HG4.out)⟩, by simp [intOf]; omega⟩
      · have HX := Lib.hid (show ∀ x ∈ vars t, x ∈ T from fun x hx => HK.out x (by rw [List.take_of_length_le (by omega)]; exact (HFv.out x).2 hx))
        go_wp2
        go_ret
        exact .no ((grown_of_below HB.out _).trans HG.out) HT.out HD.out HX.out
theorem grown_below {w w' : World} {b : Nat} (hg : w.grownBy w' (some b)) {B : Nat} (hB : B ≤ b) (hw : B ≤ w.heap.size) : Below B w w' := ⟨hg.os, hg.tape, hg.output, hg.size, fun i hi => hg.block i (by omega) (fun e => by have := Option.some.inj e; omega)⟩
theorem bindI_no (V : List Int) (s : Binds) (v : Int) (A : Option Addr) (c : Nat) (t : Trm) (tv : Value) (w : World) (hl : s.length ≤ 1000000000) (hnd : (s.map (·.1)).Nodup) (hV : VarsIn s V) (hVl : V.length ≤ 1000000) (hVr : ∀ x ∈ V, 0 ≤ x ∧ x ≤ 1000000000) (hsl : ∀ v u, getB s v = some u → u.length ≤ 1000000000 ∧ u ≠ [])
    (h : Kd.bind.C 115 w A s) (ht : Kd.cell.S 47 w tv t) (htl : t.length ≤ 1000000) (htV : ∀ x ∈ vars t, x ∈ V) (hR : Rch s t v) :
    Calls Tryz.prog 73 #[.slice A s.length c, .int .i64 v, tv] w fun e w' => e = .returned (.tuple #[.slice none 0 0, .bool false]) ∧ Below w.heap.size w w' := by
  have HH := Lib.hid (fun W hb hs => holds_c V s v w.heap.size A c hl hnd hV hVl hVr hsl (unseen V [] + 1) t tv W [] (Kd.C_ext (w' := W) hb h) (Kd.S_ext hb ht) (by omega) htV hs (by simp) (fun x hx => by simp at hx) (by simp) (by omega))
  have HR := Lib.hid hR
  have hmm := @run_makeMap Tryz.prog
  clear h ht htV hV hVr hsl hnd hR
  go_enter Tryz.func73, Tryz.ntmps73
  go_wp2_with (go_at_call 92; (with_reducible refine (HH.out _ ((Below.refl _ w).alloc (Nat.le_refl _) _) (Seen.made w)).mono ?_); rintro e w1 ⟨hg, r, rfl, hy, hn⟩; have HG := Lib.hid hg; have HN := Lib.hid hn; clear hg hy hn)
  · go_ret2
    exact ⟨rfl, ((Below.refl _ w).alloc (Nat.le_refl _) _).trans (grown_below HG.out (Nat.le_refl _) (by simp))⟩
  · have hr : r = false := by assumption
    obtain ⟨S', k1, k2, k3⟩ := HN.out hr
    exact absurd HR.out (k2.done k3)
theorem bindI_yes (V : List Int) (b : Nat) (s : Binds) (v : Int) (sv : Value) (t : Trm) (tv : Value) (w : World) (hl : s.length ≤ 1000000) (hnd : (s.map (·.1)).Nodup) (hV : VarsIn s V) (hVl : V.length ≤ 1000000) (hVr : ∀ x ∈ V, 0 ≤ x ∧ x ≤ 1000000000) (hsl : ∀ v u, getB s v = some u → u.length ≤ 1000000000 ∧ u ≠ [])
    (hs : Kd.bind.F 115 w b sv s) (ht : Kd.cell.S 47 w tv t) (htl : t.length ≤ 1000000) (htV : ∀ x ∈ vars t, x ∈ V) (hb : b ≤ w.heap.size) (hR : ¬ Rch s t v) :
    Calls Tryz.prog 73 #[sv, .int .i64 v, tv] w fun e w' => ∃ rv, e = .returned (.tuple #[rv, .bool true]) ∧ Kd.bind.O 115 w' b rv (s ++ [(v, t)]) ∧ Wrote b 115 w w' := by
  obtain ⟨A, c, rfl, c1, c2, h⟩ := Kd.F_read hs
  have HH := Lib.hid (fun W hb hs => holds_c V s v w.heap.size A c (by omega) hnd hV hVl hVr hsl (unseen V [] + 1) t tv W [] (Kd.C_ext (w' := W) hb h) (Kd.S_ext hb ht) (by omega) htV hs (by simp) (fun x hx => by simp at hx) (by simp) (by omega))
  have HR := Lib.hid hR
  have HS := Lib.hid hs
  have Hb := Lib.hid hb
  have HT := Lib.hid ht
  have hmm := @run_makeMap Tryz.prog
  clear h htV hV hVr hsl hnd hR hs hb
  obtain ⟨B, cB, rfl, b1, b2, -⟩ := ht
  have HCl := Lib.hid (fun W (hs : Kd.cell.S 47 W (.slice B t.length cB) t) => cloneS_c t B cB W hs (by omega))
  go_enter Tryz.func73, Tryz.ntmps73
  go_wp2_with (first | (go_at_call 92; (with_reducible refine (HH.out _ ((Below.refl _ w).alloc (Nat.le_refl _) _) (Seen.made w)).mono ?_); rintro e w1 ⟨hg, r, rfl, hy, hn⟩; have HB1 := Lib.hid (((Below.refl _ w).alloc (Nat.le_refl _) _).trans (grown_below hg (Nat.le_refl _) (by simp))); have HY := Lib.hid hy; clear hg hy hn)
                     | (go_at_call 70; (with_reducible refine (HCl.out _ (Kd.S_ext HB1.out HT.out)).mono ?_); rintro e w2 ⟨cv, rfl, ho, hb2⟩; have HB2 := Lib.hid (bel_trans HB1.out hb2); have HO2 := Lib.hid (Kd.F_ext (bel_trans HB1.out hb2) HS.out); obtain ⟨VB, cV, rfl, q1, q2, hVC⟩ := Kd.O_read ho; have HVC := Lib.hid hVC; clear ho hb2 hVC)
                     | (at_builtin; refine wp_app_F AppI.bindings rfl rfl (Kd.F_ext (bel_alloc (Below.refl _ _) _) HO2.out) rfl (Kd.S_lit Kd.bind _ (x := (v, t)) (cs := [.int .i64 v, .slice VB t.length cV]) ⟨[.int .i64 v], [.slice VB t.length cV], rfl, rfl, _, rfl, VB, cV, rfl, q1, q2, HVC.out⟩ rfl) rfl (by simp) ?c3 ?c4 ?_; (case c3 => simp; omega); (case c4 => simp; have h2 := HB2.out.size; have h3 := Hb.out; omega); intro v2 w3 ho3 hg3; have HG3 := Lib.hid hg3; have HO3 := Lib.hid ho3; clear hg3 ho3))
  · have hr : r = true := by assumption
    exact absurd (HY.out hr) HR.out
  · go_ret2
    refine ⟨_, rfl, HO3.out, ?_⟩
    have h2 := HB2.out.size
    have h3 := Hb.out
    exact (Wrote.of_below h3 (bel_alloc HB2.out _)).trans HG3.out
end Go.Proofs.YtjnangiggnmkoaaGreatDoor
