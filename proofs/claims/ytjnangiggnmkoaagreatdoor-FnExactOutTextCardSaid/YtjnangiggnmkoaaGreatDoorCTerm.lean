/- Contracts of the program's functions over places and terms. -/
import Derived.Test.YtjnangiggnmkoaaGreatDoorBase
import Derived.Test.YtjnangiggnmkoaaGreatDoorModel1
import Derived.Outline
import Derived.Deep.RegionWith
import Derived.Deep.DeepCutAuto
import Derived.Deep.CutBlock
namespace Go.Proofs.YtjnangiggnmkoaaGreatDoor
open Go.RowKit
set_option maxRecDepth 100000
set_option maxHeartbeats 1000000
set_option linter.unusedVariables false
/-- A place of a term: three cells. -/
def Kd.cell : Kd Cell where
  sz := 3
  E := []
  K := fun _ c cs => cs = [.int .i64 c.k, .int .i64 c.n, .string c.s]
  len := by rintro w x cs rfl; rfl
  one := by
    rintro w x cs rfl u hu
    simp only [List.mem_cons, List.mem_nil_iff, or_false] at hu
    rcases hu with rfl | rfl | rfl <;> rfl
  mov := fun _ h => h
theorem cell_at {e : Nat} {w : World} {A : Option Addr} {t : Trm} (h : Kd.cell.C e w A t) {i : Nat} {c : Cell} (hi : t[i]? = some c) :
    ∃ ad, A = some ad ∧ w.cell? (ad.add (i * 3)) = some (.int .i64 c.k) ∧ w.cell? ⟨(ad.add (i * 3)).block, (ad.add (i * 3)).off + 1, none⟩ = some (.int .i64 c.n) ∧ w.cell? ⟨(ad.add (i * 3)).block, (ad.add (i * 3)).off + 2, none⟩ = some (.string c.s) := by
  obtain ⟨ad, cs, _, _, ea, _, hk, hc⟩ := h i c hi
  obtain rfl : cs = [.int .i64 c.k, .int .i64 c.n, .string c.s] := hk
  refine ⟨ad, ea, ?_, ?_, ?_⟩
  · have := hc 0 _ rfl; rwa [Nat.add_zero] at this
  · have := hc 1 _ rfl; rw [← add_add'] at this; exact this
  · have := hc 2 _ rfl; rw [← add_add'] at this; exact this
theorem arity_c (c : Cell) (w : World) : Calls Tryz.prog 65 #[.agg #[.int .i64 c.k, .int .i64 c.n, .string c.s]] w fun e w' => e = .returned (.int .i64 (ar c)) ∧ Below w.heap.size w w' := by
  by_cases h : c.k = 3
  · have e1 : (c.k == 3) = true := beq_iff_eq.2 h
    have ha := Lib.hid (show ar c = c.n by unfold ar; rw [if_pos h])
    clear h
    go_enter Tryz.func65, Tryz.ntmps65
    go_wp2
    go_ret
    exact ⟨ret_int ha.out.symm, bel_alloc (Below.refl _ _) _⟩
  · have e1 : (c.k == 3) = false := beq_eq_false_iff_ne.2 h
    have ha := Lib.hid (show ar c = 0 by unfold ar; rw [if_neg h])
    clear h
    go_enter Tryz.func65, Tryz.ntmps65
    go_wp2
    go_ret
    exact ⟨ret_int ha.out.symm, bel_alloc (Below.refl _ _) _⟩
theorem skip_round {t : Trm} {i need : Nat} {c : Cell} (h : skip 1 t = (skip (need - i) (t.drop i)).map (i + ·)) (hlt : i < need) (hc : t[i]? = some c) (ha : 0 ≤ ar c) :
    skip 1 t = (skip ((need + (ar c).toNat) - (i + 1)) (t.drop (i + 1))).map (i + 1 + ·) := by
  have hl := (List.getElem?_eq_some_iff.1 hc).1
  rw [h, List.drop_eq_getElem_cons hl, (List.getElem?_eq_some_iff.1 hc).2]
  obtain ⟨m, hm⟩ : ∃ m, need - i = m + 1 := ⟨need - i - 1, by omega⟩
  rw [hm, skip, Option.map_map]
  have : need + (ar c).toNat - (i + 1) = m + (ar c).toNat := by omega
  rw [this]; congr 1; funext x; simp; omega
theorem skip_out {t : Trm} {i need : Nat} (h : skip 1 t = (skip (need - i) (t.drop i)).map (i + ·)) (hlt : i < need) (hi : i = t.length) : sizeOf' t = t.length + 1 := by
  obtain ⟨m, hm⟩ : ∃ m, need - i = m + 1 := ⟨need - i - 1, by omega⟩
  unfold sizeOf'; rw [h, hm, hi, List.drop_length]; simp [skip]
theorem skip_end {t : Trm} {i need : Nat} (h : skip 1 t = (skip (need - i) (t.drop i)).map (i + ·)) (hi : i = need) : sizeOf' t = need := by
  unfold sizeOf'; rw [h, hi]; simp [skip]
theorem size_c (t : Trm) (A : Option Addr) (c : Nat) (w : World) (h : Kd.cell.C 47 w A t) (ht : t.all cellOk = true) (hl : t.length ≤ 40) :
    Calls Tryz.prog 61 #[.slice A t.length c] w fun e w' => e = .returned (.int .i64 (sizeOf' t)) ∧ Below w.heap.size w w' := by
  have H := Lib.hid h
  have HT := Lib.hid ht
  clear h ht
  go_enter Tryz.func61, Tryz.ntmps61
  go_wp2
  go_loopw [3, 4] (fun v3 v4 wr => ∃ i need : Nat, v4 = .int .i64 i ∧ v3 = .int .i64 need ∧ i ≤ t.length ∧ i ≤ need ∧ need ≤ 3 * i + 1 ∧ Hid (skip 1 t = (skip (need - i) (t.drop i)).map (i + ·)) ∧ Hid (Below w.heap.size w wr)) (fun _ i _ => t.length + 1 - (intOf i).toNat)
  case atStart => exact ⟨0, 1, rfl, rfl, Nat.zero_le _, by omega, by omega, Lib.hid (by simp), Lib.hid (Below.refl _ _)⟩
  case round =>
    obtain ⟨i, need, rfl, rfl, h1, h2, h3, HS, HB⟩ := hrel
    by_cases hlt : i < need
    · by_cases hi : i = t.length
      · have hz := skip_out HS.out hlt hi
        have e1 : ((i : Int) == (t.length : Int)) = true := beq_iff_eq.2 (by omega)
        have HZ := Lib.hid hz
        clear hz
        go_wp2
        go_ret
        exact ⟨ret_int (by rw [HZ.out]; rfl), HB.out⟩
      · have e1 : ((i : Int) == (t.length : Int)) = false := beq_eq_false_iff_ne.2 (by omega)
        have hil : i < t.length := by omega
        obtain ⟨cc, hc⟩ : ∃ cc, t[i]? = some cc := ⟨_, List.getElem?_eq_getElem hil⟩
        obtain ⟨ad, rfl, a1, a2, a3⟩ := cell_at (Kd.C_ext HB.out H.out) hc
        have hr := ar_of_ok (List.all_eq_true.1 HT.out cc (List.mem_of_getElem? hc))
        have HN := Lib.hid (skip_round HS.out hlt hc hr.1)
        have HA := Lib.hid (fun W => arity_c cc W)
        obtain ⟨a, ha⟩ := Int.eq_ofNat_of_zero_le hr.1
        rw [ha] at HN hr HA
        clear hc hi ha
        go_wp2_with (go_at_call 65; refine (HA.out _).mono ?_; rintro e w' ⟨rfl, hb⟩)
        exact ⟨⟨i + 1, need + a, by go_num, by go_num, by omega, by omega, by omega, HN, Lib.hid (bel_trans HB.out hb)⟩, by simp [intOf]; omega⟩
    · have HZ := Lib.hid (skip_end HS.out (by omega))
      go_wp2
      go_ret
      exact ⟨ret_int (by rw [HZ.out]), HB.out⟩
end Go.Proofs.YtjnangiggnmkoaaGreatDoor
