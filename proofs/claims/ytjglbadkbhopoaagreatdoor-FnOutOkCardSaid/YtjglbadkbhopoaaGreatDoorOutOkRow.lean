/- FnOutOk: an answer is one of its question, and one that is none has no term, for every code of draws: the row and its tied card. Condition: none beyond the row's own (the listed variables, tied to the program's text). -/
import Derived.Deep.RegionHeld3
import Derived.OrdersHeld
import Derived.Test.YtjglbadkbhopoaaGreatDoorW25
import Derived.ChangeOld
import Derived.SizedLaws
import Derived.ProofKit
import Derived.Test.YtjglbadkbhopoaaGreatDoorW01
import Derived.Test.YtjglbadkbhopoaaGreatDoorW24
import Derived.SevenTiedAt
import Derived.Test.YtjglbadkbhopoaaGreatDoorTie
import Derived.Test.YtjglbadkbhopoaaGreatDoorCards
namespace Go.Proofs.YtjglbadkbhopoaaGreatDoor
open Go.RowKit
set_option maxRecDepth 100000
set_option maxHeartbeats 8000000
set_option linter.unusedVariables false
theorem lawOk_c (w : World) (A : Option Addr) (n c : Nat) (bs : List Nat) (h : Bytes w A n c bs) (hT : Tab w) :
    Calls Tryz.prog 4 #[.slice A n c] w fun e w' => e = .returned (.bool true) ∧ Below w.heap.size w w' := by
  have HT0 := Lib.hid hT
  have HD1 := Lib.hid (drawOk_c w A n c bs h)
  clear h hT
  by_cases hbig : 1048576 < n
  · have e0 : decide ((1048576 : Int) < (n : Int)) = true := decide_eq_true (by omega)
    clear HD1
    go_enter Tryz.func4, Tryz.ntmps4
    go_wp2
    go_ret
    exact ⟨rfl, Below.refl _ _⟩
  have e0 : decide ((1048576 : Int) < (n : Int)) = false := decide_eq_false (by omega)
  go_enter Tryz.func4, Tryz.ntmps4
  go_upto_region 4 with (first | (go_at_call 12; (with_reducible refine HD1.out.mono ?_); rintro e w1 ⟨tv, ov, top, t, st, rfl, ht, hf, ho, hg, hb'⟩; have HT1 := Lib.hid ht; have HO1 := Lib.hid ho; have HF := Lib.hid hf; have HG := Lib.hid hg; obtain ⟨TA, tn, rfl, -, -, -⟩ := ht; obtain ⟨OA, on, rfl, -, -, -⟩ := ho; have HB1 := Lib.hid (bel_alloc hb' (.cells #[.int .i64 st, .slice OA t.length on] 25)); have HX1 := Lib.hid (Bx.new w1 25 #[.int .i64 st, .slice OA t.length on]); have HTa := Lib.hid (Kd.S_alloc (.cells #[.int .i64 st, .slice OA t.length on] 25) HT1.out); have HOa := Lib.hid (Kd.S_alloc (.cells #[.int .i64 st, .slice OA t.length on] 25) HO1.out); clear hf hg hb') | fail)
  generalize w1.alloc (.cells #[.int .i64 st, .slice OA t.length on] 25) = w4 at *
  clear HD1 HT1 HO1 e0 hbig
  have x0 := fun W (hb : Below w4.heap.size w4 W) => cell_keep hb (Bx.at' HX1.out 0 (.int .i64 st) rfl)
  have x1 := fun W (hb : Below w4.heap.size w4 W) => cell_keep hb (Bx.at' HX1.out 1 (.slice OA t.length on) rfl)
  have HX := Lib.hid x0
  have HX' := Lib.hid x1
  clear x0 x1
  have z0 := HX.out w4 (Below.refl _ _)
  have z1 := HX'.out w4 (Below.refl _ _)
  have HI := Lib.hid (fun W (hb : Below w4.heap.size w4 W) => outTxtI_c top _ st t _ W (Kd.S_ext hb HTa.out) (Kd.S_ext hb HOa.out) (fit_len HF.out) (fit_len HG.out) HF.out.2 HG.out.2 (HT0.out.ext (bel_trans HB1.out hb)))
  have HK := Lib.hid (fun W (hb : Below w4.heap.size w4 W) => outOkS_c top _ st t _ W (Kd.S_ext hb HTa.out) (Kd.S_ext hb HOa.out) (fit_len HF.out) (fit_len HG.out))
  have HJ := Lib.hid (fun W (hb : Below w4.heap.size w4 W) => outOkI_c top _ st t _ W (Kd.S_ext hb HTa.out) (Kd.S_ext hb HOa.out) (fit_len HF.out) (fit_len HG.out) HF.out.2 HG.out.2)
  obtain ⟨q, hq⟩ : ∃ q, outOk top st t = q := ⟨_, rfl⟩
  have HQ := Lib.hid hq
  rw [hq] at HK HJ
  clear hq
  cases q with
  | false =>
    go_wp2_with (first | (go_at_call 13; (with_reducible refine (HJ.out _ (Below.refl _ _)).mono ?_); rintro e w5 ⟨rfl, hb5⟩; have HB5 := Lib.hid hb5; have z2 := HX.out w5 hb5; have z3 := HX'.out w5 hb5; clear hb5) | (go_at_call 8; (with_reducible refine (HK.out _ HB5.out).mono ?_); rintro e w6 ⟨rfl, hb'⟩; have HB6 := Lib.hid (bel_trans HB5.out hb'); have z4 := HX.out w6 HB6.out; have z5 := HX'.out w6 HB6.out; clear hb') | (go_at_call 9; (with_reducible refine (caOk_c _).mono ?_); rintro e w8 ⟨rfl, hb'⟩; have HB8 := Lib.hid (bel_trans HB6.out hb'); clear hb') | fail)
    go_ret
    exact ⟨rfl, bel_trans HB1.out HB8.out⟩
  | true =>
    by_cases h2 : st = 2
    · subst h2
      obtain ⟨hcn, hsh, huni⟩ := outOk_uni HQ.out
      go_upto_region 11 with (first | (go_at_call 13; (with_reducible refine (HJ.out _ (Below.refl _ _)).mono ?_); rintro e w5 ⟨rfl, hb5⟩; have HB5 := Lib.hid hb5; have z2 := HX.out w5 hb5; have z3 := HX'.out w5 hb5; clear hb5) | (go_at_call 8; (with_reducible refine (HK.out _ HB5.out).mono ?_); rintro e w6 ⟨rfl, hb'⟩; have HB6 := Lib.hid (bel_trans HB5.out hb'); have z4 := HX.out w6 HB6.out; have z5 := HX'.out w6 HB6.out; clear hb') | fail)
      have htk := outOk_ans HQ.out
      have hqt : isQ top = true := by
        have h := HQ.out
        unfold outOk at h
        split at h
        · cases h
        · rename_i h1; simpa using h1
      have HOb := Lib.hid (Kd.S_ext HB6.out HOa.out)
      have HSh := Lib.hid (fun W (hb : Below w6.heap.size w6 W) => shiftI_c top (.slice TA top.length tn) (t.length : Int) W (Kd.S_ext (bel_trans HB6.out hb) HTa.out) (isQ_ok hqt).1 (by omega) (by have := (trmOk_iff.1 htk).2.1; omega) hsh)
      have HSU := Lib.hid (fun W A va (hb : Below w6.heap.size w6 W) (ha : T0 W va (shift top t.length)) => subUni_c (shift top t.length) t (.slice A 0 0) va (.slice OA t.length on) W (S_zero _ _ _ _ _ (Nat.zero_le _)) ha (Kd.S_ext hb HOb.out) hsh htk huni)
      have HCn := Lib.hid (fun W (hb : Below w6.heap.size w6 W) => canonI_c t (.slice OA t.length on) W (Kd.S_ext hb HOb.out) (fit_len HG.out))
      rw [hcn] at HCn
      have HCt := Lib.hid (fun W v (hb : Below w6.heap.size w6 W) (h : T0 W v t) => (show Calls _ _ _ _ fun e w' => e = .returned (.bool true) ∧ Below W.heap.size W w' from by
        have := caTermS_c t t v (.slice OA t.length on) W h (Kd.S_ext hb HOb.out) (fit_len HG.out) (fit_len HG.out)
        rwa [decide_eq_true rfl] at this))
      have hne := outTxt_ne HQ.out
      obtain ⟨S, hS⟩ : ∃ S, outTxt top 2 t = S := ⟨_, rfl⟩
      rw [hS] at HI hne
      have hs1 : (S.toList == (⟨#[]⟩ : ByteArray).toList) = false := beq_eq_false_iff_ne.2 (by rw [show (⟨#[]⟩ : ByteArray).toList = [] by rw [Lib.toList_data]]; exact hne)
      have hs2 : (S.toList == []) = false := beq_eq_false_iff_ne.2 hne
      have HIo := Lib.hid (fun W (hb : Below w6.heap.size w6 W) => HI.out W (bel_trans HB6.out hb))
      have hst : ∀ W1 W2, Below W1.heap.size W1 W2 → (W1.cell? ⟨w1.heap.size, 0, none⟩ = some (.int .i64 2) ∧ W1.cell? ⟨w1.heap.size, 1, none⟩ = some (.slice OA t.length on) ∧ Hid (Below w6.heap.size w6 W1)) → (W2.cell? ⟨w1.heap.size, 0, none⟩ = some (.int .i64 2) ∧ W2.cell? ⟨w1.heap.size, 1, none⟩ = some (.slice OA t.length on) ∧ Hid (Below w6.heap.size w6 W2)) := fun W1 W2 hb h => ⟨cell_keep hb h.1, cell_keep hb h.2.1, Lib.hid (bel_trans h.2.2.out hb)⟩
      have hS0 := hst w6 w6.drew (bel_drew (Below.refl _ _)) ⟨z4, z5, Lib.hid (Below.refl _ _)⟩
      clear hS hne hcn hsh huni htk hqt HI HJ HK z0 z1 z2 z3
      go_region_held3 (fun W => W.cell? ⟨w1.heap.size, 0, none⟩ = some (.int .i64 2) ∧ W.cell? ⟨w1.heap.size, 1, none⟩ = some (.slice OA t.length on) ∧ Hid (Below w6.heap.size w6 W)) (first | (with_reducible assumption) | (with_reducible exact hst _ _ (bel_alloc (Below.refl _ _) _) (by assumption))) (first | (go_at_call 15; (with_reducible refine (HSh.out _ (by first | exact hS0.2.2.out | exact bel_drew (bel_alloc (Below.refl _ _) _) | exact bel_alloc hS0.2.2.out _)).mono ?_); rintro e wa ⟨va, rfl, ha, hba⟩; have hSa := hst _ _ hba (by assumption); have HTA := Lib.hid ha; clear ha hba) | (go_at_call 14; (with_reducible refine (HSU.out _ _ _ (by first | exact hSa.2.2.out | exact bel_alloc hSa.2.2.out _) (by first | exact HTA.out | exact Kd.S_alloc _ HTA.out)).mono ?_); rintro e w7 ⟨v7, kk, rfl, hk, hb7⟩; have hS7 := hst _ _ hb7 (by first | exact hSa | exact hst _ _ (bel_alloc (Below.refl _ _) _) hSa); have HK7 := Lib.hid hk; clear hk hb7) | fail)
      all_goals
        clear hS0
        have hS8 := hst w7 w7.drew (bel_drew (Below.refl _ _)) hS7
        rcases HK7.out with rfl | rfl
        · go_upto_region 12 with (fail)
          have q0 := hS8.1
          have q1 := hS8.2.1
          refine wp_region_held_drew (S := (fun W => W.cell? ⟨w1.heap.size, 0, none⟩ = some (.int .i64 2) ∧ W.cell? ⟨w1.heap.size, 1, none⟩ = some (.slice OA t.length on) ∧ Hid (Below w6.heap.size w6 W))) (by kernel_rfl) hS8 (fun hHeld => ?_)
          refine wpAnyH_take (i := 0) (v := ?_) rfl (by kernel_rfl) (by kernel_rfl) (by kernel_rfl) (fun _ _ _ h => h) (Or.inl ⟨by rfl, ?_⟩) (by assumption) ?_
          rotate_left
          · (intro w hSw; (try dsimp only at hSw); (try simp only [List.getElem_toArray, List.getElem_cons_zero]); go_simp; try with_reducible rfl)
          try simp only [List.getElem_toArray, List.getElem_cons_zero, Act.put, List.setIfInBounds_toArray, List.set_cons_zero, List.set_cons_succ]
          refine wpAnyH_take (i := 1) (v := ?_) rfl (by kernel_rfl) (by kernel_rfl) (by kernel_rfl) (fun _ _ _ h => h) (Or.inl ⟨by rfl, ?_⟩) (by assumption) ?_
          rotate_left
          · (intro w hSw; (try dsimp only at hSw); (try simp only [List.getElem_toArray, List.getElem_cons_zero, List.getElem_cons_succ]); go_simp; try with_reducible rfl)
          try simp only [List.getElem_toArray, List.getElem_cons_zero, List.getElem_cons_succ, Act.put, List.setIfInBounds_toArray, List.set_cons_zero, List.set_cons_succ]
          refine wpAnyH_take (i := 2) (v := ?_) rfl (by kernel_rfl) (by kernel_rfl) (by kernel_rfl) (fun _ _ _ h => h) (Or.inl ⟨by rfl, ?_⟩) (by assumption) ?_
          rotate_left
          · (intro w hSw; (try dsimp only at hSw); (try simp only [List.getElem_toArray, List.getElem_cons_zero, List.getElem_cons_succ]); go_simp; try with_reducible rfl)
          try simp only [List.getElem_toArray, List.getElem_cons_zero, List.getElem_cons_succ, Act.put, List.setIfInBounds_toArray, List.set_cons_zero, List.set_cons_succ]
          refine wpAnyH_take (i := 3) rfl (by kernel_rfl) (by kernel_rfl) (by kernel_rfl) (fun _ _ _ h => h) (Or.inr ⟨by rfl, rfl⟩) (by assumption) ?_
          try simp only [List.getElem_toArray, List.getElem_cons_zero, List.getElem_cons_succ, Act.put, List.setIfInBounds_toArray, List.set_cons_zero, List.set_cons_succ]
          refine wpAnyH_take (i := 4) rfl (by kernel_rfl) (by kernel_rfl) (by kernel_rfl) (fun _ _ _ h => h) (Or.inr ⟨by rfl, rfl⟩) (by assumption) ?_
          try simp only [List.getElem_toArray, List.getElem_cons_zero, List.getElem_cons_succ, Act.put, List.setIfInBounds_toArray, List.set_cons_zero, List.set_cons_succ]
          refine wpAnyH_take (i := 5) (v := ?_) rfl (by kernel_rfl) (by kernel_rfl) (by kernel_rfl) (fun _ _ _ h => h) (Or.inl ⟨by rfl, ?_⟩) (by assumption) ?_
          rotate_left
          · (intro w hSw; (try dsimp only at hSw); (try simp only [List.getElem_toArray, List.getElem_cons_zero, List.getElem_cons_succ]); go_simp; try with_reducible rfl)
          try simp only [List.getElem_toArray, List.getElem_cons_zero, List.getElem_cons_succ, Act.put, List.setIfInBounds_toArray, List.set_cons_zero, List.set_cons_succ]
          refine wpAnyH_take (i := 6) (v := ?_) rfl (by kernel_rfl) (by kernel_rfl) (by kernel_rfl) (fun _ _ _ h => h) (Or.inl ⟨by rfl, ?_⟩) (by assumption) ?_
          rotate_left
          · (intro w hSw; (try dsimp only at hSw); (try simp only [List.getElem_toArray, List.getElem_cons_zero, List.getElem_cons_succ]); go_simp; try with_reducible rfl)
          try simp only [List.getElem_toArray, List.getElem_cons_zero, List.getElem_cons_succ, Act.put, List.setIfInBounds_toArray, List.set_cons_zero, List.set_cons_succ]
          refine wpAnyH_take (i := 7) (v := ?_) rfl (by kernel_rfl) (by kernel_rfl) (by kernel_rfl) (fun _ _ _ h => h) (Or.inl ⟨by rfl, ?_⟩) (by assumption) ?_
          rotate_left
          · (intro w hSw; (try dsimp only at hSw); (try simp only [List.getElem_toArray, List.getElem_cons_zero, List.getElem_cons_succ]); go_simp; try with_reducible rfl)
          try simp only [List.getElem_toArray, List.getElem_cons_zero, List.getElem_cons_succ, Act.put, List.setIfInBounds_toArray, List.set_cons_zero, List.set_cons_succ]
          refine wpAnyH_take (i := 8) (v := ?_) rfl (by kernel_rfl) (by kernel_rfl) (by kernel_rfl) (fun _ _ _ h => h) (Or.inl ⟨by rfl, ?_⟩) (by assumption) ?_
          rotate_left
          · (intro w hSw; (try dsimp only at hSw); (try simp only [List.getElem_toArray, List.getElem_cons_zero, List.getElem_cons_succ]); go_simp; try with_reducible rfl)
          try simp only [List.getElem_toArray, List.getElem_cons_zero, List.getElem_cons_succ, Act.put, List.setIfInBounds_toArray, List.set_cons_zero, List.set_cons_succ]
          refine wpAnyH_take (i := 10) (v := ?_) rfl (by kernel_rfl) (by kernel_rfl) (by kernel_rfl) (fun _ _ _ h => h) (Or.inl ⟨by rfl, ?_⟩) (by assumption) ?_
          rotate_left
          · (intro w hSw; (try dsimp only at hSw); (try simp only [List.getElem_toArray, List.getElem_cons_zero, List.getElem_cons_succ]); go_simp; try with_reducible rfl)
          try simp only [List.getElem_toArray, List.getElem_cons_zero, List.getElem_cons_succ, Act.put, List.setIfInBounds_toArray, List.set_cons_zero, List.set_cons_succ]
          refine wpAnyH_take (i := 11) (v := ?_) rfl (by kernel_rfl) (by kernel_rfl) (by kernel_rfl) (fun _ _ _ h => h) (Or.inl ⟨by rfl, ?_⟩) (by assumption) ?_
          rotate_left
          · (intro w hSw; (try dsimp only at hSw); (try simp only [List.getElem_toArray, List.getElem_cons_zero, List.getElem_cons_succ]); go_simp; try with_reducible rfl)
          try simp only [List.getElem_toArray, List.getElem_cons_zero, List.getElem_cons_succ, Act.put, List.setIfInBounds_toArray, List.set_cons_zero, List.set_cons_succ]
          refine wpAnyH_ready (rs := [9]) (by kernel_rfl) (by simp) ?_
          refine AllReadyH.cons rfl (fun K hK => ?_) AllReadyH.nil
          try simp only [List.getElem_toArray, List.getElem_cons_zero, List.getElem_cons_succ]
          go_simp
          (with_reducible refine (HCn.out _ hS8.2.2.out).mono ?_); rintro e wb ⟨vb, rfl, hb9, hbb⟩; have hSb := hst _ _ hbb hS8; have HVb := Lib.hid (Kd.O_read hb9); clear hb9 hbb
          refine hK.out _ _ hSb (fun hHeld => ?_)
          clear hK K
          try simp only [Act.put, List.setIfInBounds_toArray, List.set_cons_zero, List.set_cons_succ]
          refine wpAnyH_ready (rs := [12]) (by kernel_rfl) (by simp) ?_
          refine AllReadyH.cons rfl (fun K hK => ?_) AllReadyH.nil
          try simp only [List.getElem_toArray, List.getElem_cons_zero, List.getElem_cons_succ]
          go_simp
          (with_reducible refine (HCt.out _ _ hSb.2.2.out HVb.out).mono ?_); rintro e wc ⟨rfl, hbc⟩; have hSc := hst _ _ hbc hSb; clear hbc
          refine hK.out _ _ hSc (fun hHeld => ?_)
          clear hK K
          try simp only [Act.put, List.setIfInBounds_toArray, List.set_cons_zero, List.set_cons_succ]
          refine wpAnyH_take (i := 13) (v := ?_) rfl (by kernel_rfl) (by kernel_rfl) (by kernel_rfl) (fun _ _ _ h => h) (Or.inl ⟨by rfl, ?_⟩) (by assumption) ?_
          rotate_left
          · (intro w hSw; (try dsimp only at hSw); (try simp only [List.getElem_toArray, List.getElem_cons_zero, List.getElem_cons_succ]); go_simp; try with_reducible rfl)
          try simp only [List.getElem_toArray, List.getElem_cons_zero, List.getElem_cons_succ, Act.put, List.setIfInBounds_toArray, List.set_cons_zero, List.set_cons_succ]
          refine wpAnyH_take (i := 14) (v := ?_) rfl (by kernel_rfl) (by kernel_rfl) (by kernel_rfl) (fun _ _ _ h => h) (Or.inl ⟨by rfl, ?_⟩) (by assumption) ?_
          rotate_left
          · (intro w hSw; (try dsimp only at hSw); (try simp only [List.getElem_toArray, List.getElem_cons_zero, List.getElem_cons_succ]); go_simp; try with_reducible rfl)
          try simp only [List.getElem_toArray, List.getElem_cons_zero, List.getElem_cons_succ, Act.put, List.setIfInBounds_toArray, List.set_cons_zero, List.set_cons_succ]
          refine wpAnyH_take (i := 15) (v := ?_) rfl (by kernel_rfl) (by kernel_rfl) (by kernel_rfl) (fun _ _ _ h => h) (Or.inl ⟨by rfl, ?_⟩) (by assumption) ?_
          rotate_left
          · (intro w hSw; (try dsimp only at hSw); (try simp only [List.getElem_toArray, List.getElem_cons_zero, List.getElem_cons_succ]); go_simp; try with_reducible rfl)
          try simp only [List.getElem_toArray, List.getElem_cons_zero, List.getElem_cons_succ, Act.put, List.setIfInBounds_toArray, List.set_cons_zero, List.set_cons_succ]
          refine wpAnyH_take (i := 16) (v := ?_) rfl (by kernel_rfl) (by kernel_rfl) (by kernel_rfl) (fun _ _ _ h => h) (Or.inl ⟨by rfl, ?_⟩) (by assumption) ?_
          rotate_left
          · (intro w hSw; (try dsimp only at hSw); (try simp only [List.getElem_toArray, List.getElem_cons_zero, List.getElem_cons_succ]); go_simp; try with_reducible rfl)
          try simp only [List.getElem_toArray, List.getElem_cons_zero, List.getElem_cons_succ, Act.put, List.setIfInBounds_toArray, List.set_cons_zero, List.set_cons_succ]
          refine wpAnyH_ready (rs := [17]) (by kernel_rfl) (by simp) ?_
          refine AllReadyH.cons rfl (fun K hK => ?_) AllReadyH.nil
          try simp only [List.getElem_toArray, List.getElem_cons_zero, List.getElem_cons_succ]
          go_simp
          (with_reducible refine (HIo.out _ hSc.2.2.out).mono ?_); rintro e wd ⟨rfl, hbd⟩; have hSd := hst _ _ hbd hSc; clear hbd
          refine hK.out _ _ hSd (fun hHeld => ?_)
          clear hK K
          try simp only [Act.put, List.setIfInBounds_toArray, List.set_cons_zero, List.set_cons_succ]
          refine wpAnyH_take (i := 18) (v := ?_) rfl (by kernel_rfl) (by kernel_rfl) (by kernel_rfl) (fun _ _ _ h => h) (Or.inl ⟨by rfl, ?_⟩) (by assumption) ?_
          rotate_left
          · (intro w hSw; (try dsimp only at hSw); (try simp only [List.getElem_toArray, List.getElem_cons_zero, List.getElem_cons_succ]); go_simp; try with_reducible rfl)
          try simp only [List.getElem_toArray, List.getElem_cons_zero, List.getElem_cons_succ, Act.put, List.setIfInBounds_toArray, List.set_cons_zero, List.set_cons_succ]
          refine wpAnyH_take (i := 19) (v := ?_) rfl (by kernel_rfl) (by kernel_rfl) (by kernel_rfl) (fun _ _ _ h => h) (Or.inl ⟨by rfl, ?_⟩) (by assumption) ?_
          rotate_left
          · (intro w hSw; (try dsimp only at hSw); (try simp only [List.getElem_toArray, List.getElem_cons_zero, List.getElem_cons_succ]); go_simp; try with_reducible rfl)
          try simp only [List.getElem_toArray, List.getElem_cons_zero, List.getElem_cons_succ, Act.put, List.setIfInBounds_toArray, List.set_cons_zero, List.set_cons_succ]
          refine wpAnyH_take (i := 20) (v := ?_) rfl (by kernel_rfl) (by kernel_rfl) (by kernel_rfl) (fun _ _ _ h => h) (Or.inl ⟨by rfl, ?_⟩) (by assumption) ?_
          rotate_left
          · (intro w hSw; (try dsimp only at hSw); (try simp only [List.getElem_toArray, List.getElem_cons_zero, List.getElem_cons_succ]); go_simp; try with_reducible rfl)
          try simp only [List.getElem_toArray, List.getElem_cons_zero, List.getElem_cons_succ, Act.put, List.setIfInBounds_toArray, List.set_cons_zero, List.set_cons_succ]
          refine wpAnyH_done (by kernel_rfl) ?_ _
          have HBd := hSd.2.2
          clear hSd
          go_wp2
          go_ret
          exact ⟨rfl, bel_trans (bel_trans HB1.out HB6.out) HBd.out⟩
        · go_upto_region 12 with (fail)
          go_region_held3 (fun W => W.cell? ⟨w1.heap.size, 0, none⟩ = some (.int .i64 2) ∧ W.cell? ⟨w1.heap.size, 1, none⟩ = some (.slice OA t.length on) ∧ Hid (Below w6.heap.size w6 W)) (first | (with_reducible assumption) | (with_reducible exact hst _ _ (bel_alloc (Below.refl _ _) _) (by assumption))) (first | (go_at_call 17; (with_reducible refine (HCn.out _ hS8.2.2.out).mono ?_); rintro e wb ⟨vb, rfl, hb9, hbb⟩; have hSb := hst _ _ hbb hS8; have HVb := Lib.hid (Kd.O_read hb9); clear hb9 hbb) | (go_at_call 16; (with_reducible refine (HCt.out _ _ hSb.2.2.out HVb.out).mono ?_); rintro e wc ⟨rfl, hbc⟩; have hSc := hst _ _ hbc hSb; clear hbc) | (go_at_call 6; (with_reducible refine (HIo.out _ hSc.2.2.out).mono ?_); rintro e wd ⟨rfl, hbd⟩; have hSd := hst _ _ hbd hSc; clear hbd) | fail)
          all_goals
            have HBd := hSd.2.2
            clear hSd
            go_wp2
            go_ret
            exact ⟨rfl, bel_trans (bel_trans HB1.out HB6.out) HBd.out⟩
    · have f2 : (st != 2) = true := bne_iff_ne.2 h2
      have hnil := outOk_nil HQ.out h2
      have hst := outOk_st HQ.out
      have f3 : decide ((3 : Int) ≤ st) = true := decide_eq_true (by omega)
      have f5 : decide (st ≤ 5) = true := decide_eq_true (by omega)
      have f0 : ((t.length : Int) == 0) = true := beq_iff_eq.2 (by rw [hnil]; rfl)
      clear h2 hnil hst
      go_wp2_with (first | (go_at_call 13; (with_reducible refine (HJ.out _ (Below.refl _ _)).mono ?_); rintro e w5 ⟨rfl, hb5⟩; have HB5 := Lib.hid hb5; have z2 := HX.out w5 hb5; have z3 := HX'.out w5 hb5; clear hb5) | (go_at_call 8; (with_reducible refine (HK.out _ HB5.out).mono ?_); rintro e w6 ⟨rfl, hb'⟩; have HB6 := Lib.hid (bel_trans HB5.out hb'); have z4 := HX.out w6 HB6.out; have z5 := HX'.out w6 HB6.out; clear hb') | fail)
      go_ret
      exact ⟨rfl, bel_trans HB1.out HB6.out⟩
end Go.Proofs.YtjglbadkbhopoaaGreatDoor
namespace Go.Proofs.YtjglbadkbhopoaaGreatDoor
open Go.ChangeShapes Go.WideShapes Go.ChangeAt Go.RowKit
set_option linter.unusedVariables false
set_option maxRecDepth 100000
theorem laidOut : laidOutB Tryz.prog = true := by kernel_rfl
theorem bytes_of {H : Type} {enc : TypeId × Value → H} {W : World} {base : Nat} {a : Option Addr} {n c : Nat} {d : DataW H} {p : List MemPlace} {held : Bool}
    (h : ∃ fuel, DataW.trod enc Tryz.prog W base (fun _ => true) held fuel 22 (Value.slice a n c).cells.toList = some (d, p)) : ∃ bs, Bytes W a n c bs := by
  obtain ⟨fuel, hf⟩ := h
  rcases open_ints Tryz.underlying22 Tryz.underlying5 (by kernel_rfl) hf with ⟨hcs, _⟩ | ⟨x, l, cc, zs, hcs, _, hl, hm, hz, _, hcell, hwz⟩
  · simp [Value.cells] at hcs
    obtain ⟨rfl, rfl, rfl⟩ := hcs
    exact ⟨[], rfl, Nat.le_refl _, Nat.zero_le _, fun hne => absurd rfl hne, fun b hb => by cases hb⟩
  · simp [Value.cells] at hcs
    obtain ⟨rfl, rfl, rfl⟩ := hcs
    have hzl : zs.length = c := by simpa using hz
    have hw : ∀ z ∈ zs, 0 ≤ z ∧ z ≤ 255 := fun z hzm => by
      have h1 := hwz z hzm
      have e1 : IntKind.u8.min = 0 := rfl
      have e2 : IntKind.u8.max = 255 := rfl
      simp [Lit.wf, e1, e2] at h1
      omega
    refine ⟨(zs.take n).map Int.toNat, by rw [List.length_map, List.length_take]; omega, hl, hm, fun _ => ⟨_, rfl, fun i b hi => ?_⟩, fun b hb => ?_⟩
    · rw [List.getElem?_map, List.getElem?_take] at hi
      split at hi
      · have hi2 : i < zs.length := by omega
        rw [List.getElem?_eq_getElem hi2] at hi
        have hb : (zs[i]).toNat = b := by simpa using hi
        have h1 := hcell i hi2
        have hg : zs.getD i 0 = zs[i] := by rw [List.getD_eq_getElem?_getD, List.getElem?_eq_getElem hi2]; rfl
        rw [hg] at h1
        have h2 := hw _ (List.getElem_mem hi2)
        rw [h1, ← hb]
        congr 2
        omega
      · cases hi
    · obtain ⟨z, hz1, rfl⟩ := List.mem_map.1 hb
      have := hw z (List.mem_of_mem_take hz1)
      omega
end Go.Proofs.YtjglbadkbhopoaaGreatDoor
namespace Go.Proofs.YtjglbadkbhopoaaGreatDoor
open Go.ChangeShapes Go.WideShapes Go.ChangeAt Go.RowKit
open Go.ChangeMaps (open_string shut_string)
set_option linter.unusedVariables false
set_option maxRecDepth 100000
theorem ook_witness (os : Os) {H : Type} (enc : TypeId × Value → H) :
    (OpenSpec.ofChange Rows.fnOutOkSpec).preRow enc Tryz.prog Tryz.f4 Rows.fnOutOkRow.domain false laidAll ((laidWorld os).forCall (fun _ _ => 0) ⟨#[], #[.slice none 0 0], []⟩).memory #[.slice none 0 0] := by
  have hw : (DataW.whole enc Tryz.prog ((laidWorld os).forCall (fun _ _ => 0) ⟨#[], #[.slice none 0 0], []⟩).memory Tryz.f4.params.toList (OpenSpec.ofChange Rows.fnOutOkSpec).vars false #[Value.slice none 0 0].toList 8).map (fun x => (x.1, x.2.1)) =
      some ([.nil], []) := by kernel_rfl
  obtain ⟨⟨x1, x2, x3⟩, hx, hx1⟩ := Option.map_eq_some_iff.1 hw
  simp only [Prod.mk.injEq] at hx1
  obtain ⟨rfl, rfl⟩ := hx1
  exact OpenSpec.preRow_of_cond 8 hx (by kernel_rfl) (fun k hk => by cases hk) (by kernel_rfl) (door_met os _)
theorem ook_lifted (os : Os) (started : os.Started) (H : Type) (enc : TypeId × Value → H) (F : Stop.Interp) :
    ReturnsInHanded {} Tryz.checked os 4 .any ((OpenSpec.ofChange Rows.fnOutOkSpec).preRow enc Tryz.prog Tryz.f4 Rows.fnOutOkRow.domain false laidAll) (((OpenSpec.ofChange Rows.fnOutOkSpec).at F).post enc Tryz.prog Tryz.f4 false true false false) := by
  refine returnsInHanded_of_row (C := Tryz.checked) (s := OpenSpec.ofChange Rows.fnOutOkSpec) own started (by kernel_rfl) Tryz.func4
    (witness_row_atRef (enc := enc) (C := Tryz.checked) false (laidWorld os) #[.slice none 0 0] rfl (by kernel_rfl) (by kernel_rfl) (by kernel_rfl) (ook_witness os enc)) ?_
  intro W base args ds gs before hval0 hW _ _ _ hL hSh _
  have hval : ∀ (j : Nat) t v, Tryz.f4.params[j]? = some t → args[j]? = some v → Value.okWide Tryz.prog W .any base t v := hval0
  have hW' := hW
  obtain ⟨p, q, hA0, hV0, rfl, _, _⟩ := hW
  have hA : DataW.TrodAll enc Tryz.prog W 0 (fun _ => true) true Tryz.f4.params.toList args.toList ds p := hA0
  rw [Tryz.params4] at hA hval
  obtain ⟨v0, d0, rfl, rfl, h0⟩ := trodAll_one hA
  obtain ⟨rfl, rfl⟩ := trodVars_none hV0
  obtain ⟨a0, n0, c0, rfl⟩ := okWide_slice Tryz.underlying22 (hval 0 22 v0 rfl rfl)
  have k0 := h0
  have lt0 : ∀ x ∈ p, x.block < W.heap.size := by obtain ⟨m, hm⟩ := k0; exact DataW.trod_lt m _ _ _ hm
  obtain ⟨bs, hbs⟩ := bytes_of h0
  clear hA0 hV0 hval0
  refine (lawOk_c W a0 n0 c0 bs hbs (tab_of_laid hL)).mono ?_
  rintro e W' ⟨rfl, bel⟩
  exact ⟨_, rfl, _, _, _, [], _, [], hW', trodAll_mk1 (shut_bool Tryz.underlying4 _), trodAll_mk1 (Below.trod laidOut (by kernel_rfl) (of_decide_eq_true (by kernel_rfl)) k0 bel lt0), rfl, bel.frame _, fun h => by cases h⟩
theorem fnOutOk_holds : Rows.FnOutOkSaid :=
  OpenClaim.holds_of_cond 4 Tryz.f4 rfl rfl rfl rfl rfl rfl rfl ⟨rfl, rfl, rfl, rfl, rfl⟩ rfl rfl rfl rfl rfl (by kernel_rfl) Tryz.func4 (by kernel_rfl)
    (of_decide_eq_true (by kernel_rfl)) (by unfold Func.isWrapper; first | (rw [if_pos (by decide +kernel)]; kernel_rfl) | (rw [if_neg (by decide +kernel)]; exact ⟨rfl, rfl⟩))
    (fun os started H enc _ F0 => by rw [OpenClaim.pre_eq_preRow]; exact ook_lifted os started H enc F0)
theorem fnOutOk_card : Rows.FnOutOkCardSaid :=
  Claim7.holds_tied_plain_at .later [] [.data, .data, .data, .data, .pinned] true Rows.fnOutOkCard.stood.harness false
    fnOutOk_holds (fun _ h => by cases h) (by kernel_rfl) (fun _ h => by cases h) fnOutOk_row_tie rfl ⟨rfl, rfl⟩ (by kernel_rfl) rfl
    (fun f fn hf hfn => by
      obtain rfl : f = 4 := Option.some.inj ((show Tryz.prog.funcNamed "loop.example/catechist/laws.FnOutOk" = some 4 by kernel_rfl).symm.trans hf) |>.symm
      obtain rfl : fn = Tryz.f4 := (Option.some.inj (Tryz.func4.symm.trans hfn)).symm
      exact ⟨by kernel_rfl, fun j t ht => by
        rw [Tryz.params4] at ht
        have hm : t ∈ [22] := by simpa using Array.mem_of_getElem? ht
        have hall : ([22].all fun u => !Tryz.prog.wantsStandIn u) = true := by kernel_rfl
        exact (show Tryz.prog.wantsStandIn t = false by simpa using List.all_eq_true.1 hall t hm)⟩)
    (by kernel_rfl)
#print axioms fnOutOk_card
end Go.Proofs.YtjglbadkbhopoaaGreatDoor
