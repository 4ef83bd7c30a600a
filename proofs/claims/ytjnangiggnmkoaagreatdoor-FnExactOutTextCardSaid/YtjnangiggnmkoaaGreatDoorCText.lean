/- What the functions over texts give: contracts, each over the program. -/
import Derived.Test.YtjnangiggnmkoaaGreatDoorBase
import Derived.Test.YtjnangiggnmkoaaGreatDoorModel2
import Derived.Outline
import Derived.Laws.BytesArg
namespace Go.Proofs.YtjnangiggnmkoaaGreatDoor
open Go.RowKit
set_option maxRecDepth 100000
set_option maxHeartbeats 1000000
set_option linter.unusedVariables false
theorem infoStr : (Tryz.prog.info? 9).map (fun i => (i.zero, i.size, i.bytes)) = some (some (.string ⟨#[]⟩), 1, 16) := by kernel_rfl
theorem size_B (l : Bs) : (B l).size = l.length := by rw [← L_length, L_B]
theorem byte_at (s : ByteArray) (k : Nat) (h : k < s.size) : (L s)[k]? = some s[k] := by
  have : k < s.data.toList.length := by rw [Array.length_toList]; exact h
  show s.data.toList[k]? = some s[k]
  rw [List.getElem?_eq_getElem this]; rfl
/-- The byte at a place, as a number. -/
def byt (s : ByteArray) (k : Nat) : Int := if h : k < s.size then (s[k].toNat : Int) else 0
theorem byt_at (s : ByteArray) (k : Nat) : ∀ h : k < s.size, ((s[k]'h).toNat : Int) = byt s k := fun h => by simp [byt, h]
theorem byt_range (s : ByteArray) (k : Nat) : 0 ≤ byt s k ∧ byt s k ≤ 255 := by
  unfold byt; split
  · rename_i h
    have := s[k].toNat_lt
    omega
  · omega
theorem byt_eq {s : ByteArray} {k : Nat} (h : k < s.size) {b : UInt8} : byt s k = (b.toNat : Int) ↔ s[k] = b := by
  rw [← byt_at s k h]
  constructor
  · intro e; exact UInt8.toNat_inj.1 (by omega)
  · rintro rfl; rfl
theorem drop_at (s : ByteArray) (k : Nat) (h : k < s.size) : (L s).drop k = s[k] :: (L s).drop (k + 1) := by
  have hb := byte_at s k h
  have hl := (List.getElem?_eq_some_iff.1 hb).1
  rw [List.drop_eq_getElem_cons hl, (List.getElem?_eq_some_iff.1 hb).2]
theorem one_at (s : ByteArray) (k : Nat) (h : k < s.size) : L (s.extract k (k + 1)) = [s[k]] := by
  have hd := drop_at s k h
  unfold L at hd ⊢
  rw [ByteArray.data_extract, Array.toList_extract, List.extract_eq_take_drop, hd]
  simp
theorem words_step32 {s : ByteArray} {i : Nat} {D : List ByteArray} {x : ByteArray} (h : D.map L ++ pre (L x) (splitSp ((L s).drop i)) = splitSp (L s)) (hi : i < s.size) (hc : s[i] = 32) :
    (D ++ [x]).map L ++ pre (L ByteArray.empty) (splitSp ((L s).drop (i + 1))) = splitSp (L s) := by
  rw [← h, drop_at s i hi, hc]
  show _ = _ ++ pre (L x) ([] :: splitSp _)
  have : pre (L ByteArray.empty) (splitSp (List.drop (i + 1) (L s))) = splitSp (List.drop (i + 1) (L s)) := pre_nil (splitSp_ne _)
  rw [this]
  simp [pre]
theorem words_step {s : ByteArray} {i : Nat} {D : List ByteArray} {x : ByteArray} (h : D.map L ++ pre (L x) (splitSp ((L s).drop i)) = splitSp (L s)) (hi : i < s.size) (hc : s[i] ≠ 32) :
    D.map L ++ pre (L (x ++ s.extract i (i + 1))) (splitSp ((L s).drop (i + 1))) = splitSp (L s) := by
  rw [← h, drop_at s i hi, L_append, one_at s i hi, ← pre_pre]
  congr 2
  rw [splitSp, if_neg hc]
theorem words_end {s : ByteArray} {i : Nat} {D : List ByteArray} {x : ByteArray} (h : D.map L ++ pre (L x) (splitSp ((L s).drop i)) = splitSp (L s)) (hi : i = s.size) : (D ++ [x]).map L = splitSp (L s) := by
  rw [← h, hi, List.drop_eq_nil_of_le (by rw [L_length]; exact Nat.le_refl _)]
  simp [splitSp, pre]
theorem words_c (s : ByteArray) (w : World) (hs : s.size ≤ 4294967296) :
    Calls Tryz.prog 109 #[.string s] w fun e w' => ∃ v D, e = .returned v ∧ Kd.str.S 9 w' v D ∧ D.map L = splitSp (L s) ∧ Below w.heap.size w w' := by
  go_enter Tryz.func109, Tryz.ntmps109
  go_wp2
  go_loopw [3, 4, 5] (fun v3 v4 v5 wr => ∃ (D : List ByteArray) (x : ByteArray) (i : Nat), v4 = .string x ∧ v5 = .int .i64 i ∧ i ≤ s.size ∧ D.length ≤ i ∧ x.size ≤ i ∧ Hid (Kd.str.O 9 wr w.heap.size v3 D) ∧ Hid (D.map L ++ pre (L x) (splitSp ((L s).drop i)) = splitSp (L s)) ∧ Hid (Below w.heap.size w wr)) (fun _ _ v5 _ => s.size - (intOf v5).toNat)
  case atStart => exact ⟨[], ⟨#[]⟩, 0, rfl, rfl, Nat.zero_le _, Nat.zero_le _, Nat.zero_le _, Lib.hid (Kd.O_empty Kd.str _ w (Nat.le_refl _)), Lib.hid (pre_nil (splitSp_ne _)), Lib.hid (bel_alloc (Below.refl _ _) _)⟩
  case round =>
    obtain ⟨D, x, i, rfl, rfl, h1, h2, h3, HO, HS, HB⟩ := hrel
    by_cases hlt : i < s.size
    · by_cases hc : byt s i = 32
      · have e1 : (byt s i == 32) = true := beq_iff_eq.2 hc
        have hx := byt_at s i
        have HN := Lib.hid (words_step32 HS.out hlt ((byt_eq hlt (b := 32)).1 hc))
        clear hc
        go_wp2_with (at_builtin; refine wp_append (d := Kd.str) _ rfl (.tmp 17) (.tmp 19) 46 rfl w.heap.size 9 _ 16 Tryz.underlying46 infoStr rfl (by decide) _ D rfl (Kd.O_alloc _ HO.out) _ [x] _ _ rfl rfl (Kd.C_lit Kd.str _ (x := x) (cs := [.string x]) rfl) ?c1 ?c2 ?c3 (fun q hq => by simp [Kd.str] at hq) ?_; (case c1 => simp [maxLen]; omega); (case c2 => simp; omega); (case c3 => simp; have := HB.out.size; omega); intro v' w' ho hg hat; have hb := Lib.hid (bel_grown (bel_alloc HB.out _) (Kd.O_alloc _ HO.out) hg); have ho' := Lib.hid ho; clear ho hg hat)
        exact ⟨⟨D ++ [x], ⟨#[]⟩, i + 1, by first | rfl | go_num, by go_num, by omega, by simp; omega, Nat.zero_le _, ho', HN, hb⟩, by simp [intOf]; omega⟩
      · have e1 : (byt s i == 32) = false := beq_eq_false_iff_ne.2 hc
        have hx := byt_at s i
        have HN := Lib.hid (words_step HS.out hlt (fun e => hc ((byt_eq hlt (b := 32)).2 e)))
        have hsz : (s.extract i (i + 1)).size = 1 := by rw [← L_length, one_at s i hlt]; rfl
        clear hc
        go_wp2
        exact ⟨⟨D, _, i + 1, rfl, by go_num, by omega, by omega, by rw [ByteArray.size_append]; omega, HO, HN, HB⟩, by simp [intOf]; omega⟩
    · go_wp2_with (at_builtin; refine wp_append (d := Kd.str) _ rfl (.tmp 28) (.tmp 30) 46 rfl w.heap.size 9 _ 16 Tryz.underlying46 infoStr rfl (by decide) _ D rfl (Kd.O_alloc _ HO.out) _ [x] _ _ rfl rfl (Kd.C_lit Kd.str _ (x := x) (cs := [.string x]) rfl) ?c1 ?c2 ?c3 (fun q hq => by simp [Kd.str] at hq) ?_; (case c1 => simp [maxLen]; omega); (case c2 => simp; omega); (case c3 => simp; have := HB.out.size; omega); intro v' w' ho hg hat; have hb := Lib.hid (bel_grown (bel_alloc HB.out _) (Kd.O_alloc _ HO.out) hg); have ho' := Lib.hid ho; clear ho hg hat)
      go_ret
      exact ⟨_, _, rfl, Kd.O_read ho'.out, words_end HS.out (by omega), hb.out⟩

theorem isDig_byt {s : ByteArray} {i : Nat} (h : i < s.size) : isDig s[i] = (decide (48 ≤ byt s i) && decide (byt s i ≤ 57)) := by
  rw [← byt_at s i h, isDig]
  congr 1 <;> exact decide_eq_decide.2 (by omega)
theorem digs_more {s : ByteArray} {i k0 : Nat} (h : i < s.size) (hd : isDig s[i] = true) (hi : k0 + (((L s).drop k0).takeWhile isDig).length = i + (((L s).drop i).takeWhile isDig).length) :
    k0 + (((L s).drop k0).takeWhile isDig).length = (i + 1) + (((L s).drop (i + 1)).takeWhile isDig).length := by
  rw [hi, drop_at s i h, List.takeWhile_cons, if_pos hd]; simp; omega
theorem digs_end {s : ByteArray} {i k0 : Nat} (hd : ∀ h : i < s.size, isDig s[i] = false) (hi : k0 + (((L s).drop k0).takeWhile isDig).length = i + (((L s).drop i).takeWhile isDig).length) :
    k0 + (((L s).drop k0).takeWhile isDig).length = i := by
  rw [hi]
  rcases Nat.lt_or_ge i s.size with h | h
  · rw [drop_at s i h, List.takeWhile_cons, if_neg (by rw [hd h]; simp)]; simp
  · rw [List.drop_eq_nil_of_le (by rw [L_length]; exact h)]; simp
theorem digits_c (s : ByteArray) (k0 : Nat) (w : World) (hs : s.size ≤ 4294967296) (hk : k0 ≤ s.size) :
    Calls Tryz.prog 115 #[.string s, .int .i64 k0] w fun e w' => e = .returned (.int .i64 ((k0 + (((L s).drop k0).takeWhile isDig).length : Nat) : Int)) ∧ w = w' := by
  go_enter Tryz.func115, Tryz.ntmps115
  go_wp2
  go_loop [5] (fun v5 => ∃ (i : Nat), v5 = .int .i64 i ∧ i ≤ s.size ∧ Hid (k0 + (((L s).drop k0).takeWhile isDig).length = i + (((L s).drop i).takeWhile isDig).length)) (fun v5 => s.size - (intOf v5).toNat)
  case atStart => exact ⟨k0, rfl, hk, Lib.hid rfl⟩
  case round =>
    obtain ⟨i, rfl, h1, HI⟩ := hrel
    have hx := byt_at s i
    by_cases hlt : i < s.size
    · by_cases h48 : 48 ≤ byt s i
      · by_cases h57 : byt s i ≤ 57
        · have HN := Lib.hid (digs_more hlt (by rw [isDig_byt hlt]; simp [h48, h57]) HI.out)
          go_wp2
          exact ⟨⟨i + 1, by go_num, by omega, HN⟩, by simp [intOf]; omega⟩
        · have HN := Lib.hid (digs_end (s := s) (i := i) (k0 := k0) (fun h => by rw [isDig_byt h]; simp; omega) HI.out)
          go_wp2
          go_ret
          exact ⟨ret_int (by have := HN.out; omega), rfl⟩
      · have HN := Lib.hid (digs_end (s := s) (i := i) (k0 := k0) (fun h => by rw [isDig_byt h]; simp; omega) HI.out)
        go_wp2
        go_ret
        exact ⟨ret_int (by have := HN.out; omega), rfl⟩
    · have HN := Lib.hid (digs_end (s := s) (i := i) (k0 := k0) (fun h => absurd h hlt) HI.out)
      go_wp2
      go_ret
      exact ⟨ret_int (by have := HN.out; omega), rfl⟩
theorem valF_lt : ∀ (l : Bs) (n : Nat), (∀ b ∈ l, b.toNat ≤ 57) → valF n l < (n + 1) * 10 ^ l.length
  | [], n, _ => by simp [valF]
  | b :: l, n, h => by
    have hb := h b List.mem_cons_self
    have ih := valF_lt l (n * 10 + (b.toNat - 48)) (fun c hc => h c (List.mem_cons_of_mem _ hc))
    show valF (n * 10 + (b.toNat - 48)) l < _
    refine Nat.lt_of_lt_of_le ih ?_
    rw [List.length_cons, Nat.pow_succ, Nat.mul_comm (10 ^ l.length) 10, ← Nat.mul_assoc]
    exact Nat.mul_le_mul_right _ (by omega)
theorem val_take_step {s : ByteArray} {i : Nat} (h : i < s.size) : val ((L s).take (i + 1)) = val ((L s).take i) * 10 + (s[i].toNat - 48) := by
  have hb := byte_at s i h
  have hl := (List.getElem?_eq_some_iff.1 hb).1
  rw [List.take_succ_eq_append_getElem hl, (List.getElem?_eq_some_iff.1 hb).2]
  unfold val; rw [valF_app]; rfl
theorem num_c (s : ByteArray) (w : World) (h1 : 1 ≤ s.size) (h2 : s.size ≤ 5) (h3 : (L s).all isDig = true) :
    Calls Tryz.prog 116 #[.string s] w fun e w' => e = .returned (.int .i64 (val (L s))) ∧ w = w' := by
  have H3 := Lib.hid h3
  clear h3
  have e0 : ((s.size : Int) == 0) = false := beq_eq_false_iff_ne.2 (by omega)
  have e1 : decide ((5 : Int) < s.size) = false := decide_eq_false (by omega)
  go_enter Tryz.func116, Tryz.ntmps116
  go_wp2
  go_loop [3, 4] (fun v3 v4 => ∃ (i : Nat), v4 = .int .i64 i ∧ i ≤ s.size ∧ v3 = .int .i64 (val ((L s).take i))) (fun _ v4 => s.size - (intOf v4).toNat)
  case atStart => exact ⟨0, rfl, Nat.zero_le _, rfl⟩
  case round =>
    obtain ⟨i, rfl, hi, rfl⟩ := hrel
    by_cases hlt : i < s.size
    · have hx := byt_at s i
      have hd := List.all_eq_true.1 H3.out s[i] (List.mem_of_getElem? (byte_at s i hlt))
      rw [isDig_byt hlt] at hd
      simp only [Bool.and_eq_true, decide_eq_true_eq] at hd
      obtain ⟨hd1, hd2⟩ := hd
      have hv := valF_lt ((L s).take i) 0 (fun b hb => by
        have := List.all_eq_true.1 H3.out b (List.mem_of_mem_take hb)
        simp [isDig] at this; omega)
      have hp : (10 : Nat) ^ ((L s).take i).length ≤ 10 ^ 5 := Nat.pow_le_pow_right (by omega) (by rw [List.length_take]; omega)
      have hs := val_take_step hlt
      have hb : (s[i].toNat : Int) = byt s i := byt_at s i hlt
      obtain ⟨V, hV⟩ : ∃ V, val ((L s).take i) = V := ⟨_, rfl⟩
      have hV2 : V < 100000 := by rw [← hV]; unfold val; omega
      have HS := Lib.hid (show (val ((L s).take (i + 1)) : Int) = V * 10 + (byt s i - 48) by rw [hs, hV]; omega)
      rw [hV]
      clear hv hp hs hb hV
      go_wp2
      exact ⟨⟨i + 1, by go_num, by omega, by rw [HS.out]⟩, by simp [intOf]; omega⟩
    · have HE := Lib.hid (show (L s).take i = L s from List.take_of_length_le (by rw [L_length]; omega))
      go_wp2
      go_ret
      exact ⟨ret_int (by rw [HE.out]), rfl⟩
/-- 'string([]byte{c})'. -/
theorem conv1 (W : World) (c : Int) : (convert 36 9 (.slice (some ⟨W.heap.size, 0, none⟩) 1 1)).run Tryz.prog (W.alloc (.cells #[.int .u8 c] 5)) = .ok (.string (B [UInt8.ofNat c.toNat])) (W.alloc (.cells #[.int .u8 c] 5)) :=
  run_convert_bytes_arg (P := Tryz.prog) _ 36 5 Tryz.underlying36 Tryz.underlying5 W.heap.size 0 1 1 [c] rfl (fun i hi => by
    obtain rfl : i = 0 := by omega
    rw [Nat.add_zero, cell_of_row (W.alloc (.cells #[.int .u8 c] 5)) W.heap.size 0 _ 5 (0, 0) (heap_alloc_new W _)]; rfl) 9 Tryz.underlying9
theorem plain_c (n : Nat) (w : World) (h : n ≤ 4611686018427387904) :
    Calls Tryz.prog 66 #[.int .i64 n] w fun e w' => e = .returned (.string (B (Lib.decDigits n))) ∧ Below w.heap.size w w' := by
  go_enter Tryz.func66, Tryz.ntmps66
  go_wp2
  go_loopw [0, 3] (fun v0 v2 wr => ∃ (m : Nat) (x : ByteArray), v0 = .int .i64 m ∧ v2 = .string x ∧ m ≤ 4611686018427387904 ∧ x.size + m ≤ 4611686018427387904 ∧ Hid (Lib.decDigits n = Lib.decDigits m ++ L x) ∧ Hid (Below w.heap.size w wr)) (fun v0 _ _ => (intOf v0).toNat)
  case atStart => exact ⟨n, ⟨#[]⟩, rfl, rfl, h, by simpa [ByteArray.size] using h, Lib.hid (by simp [L]), Lib.hid (Below.refl _ _)⟩
  case round =>
    obtain ⟨m, x, rfl, rfl, hm, hx, HD, HB⟩ := hrel
    have hs1 : ∀ c : UInt8, (B [c]).size = 1 := fun c => by rw [size_B]; rfl
    by_cases hlt : 9 < m
    · have hcv := conv1 wr (48 + (m : Int) % 10)
      have HN := Lib.hid (show Lib.decDigits n = Lib.decDigits (m / 10) ++ L (B [UInt8.ofNat (48 + (m : Int) % 10).toNat] ++ x) by
        rw [HD.out, L_append, L_B, ← List.append_assoc]
        congr 1
        rw [Lib.decDigits, dif_neg (by omega)]
        congr 3)
      obtain ⟨Z, hZ⟩ : ∃ Z, B [UInt8.ofNat (48 + (m : Int) % 10).toNat] = Z := ⟨_, rfl⟩
      have hz1 : Z.size = 1 := by rw [← hZ]; exact hs1 _
      rw [hZ] at hcv HN
      clear hs1 hZ
      go_wp2
      exact ⟨⟨m / 10, Z ++ x, by go_num, rfl, by omega, by rw [ByteArray.size_append]; omega, HN, Lib.hid (bel_alloc HB.out _)⟩, by simp [intOf]; omega⟩
    · have hcv := conv1 wr (48 + (m : Int))
      have HN := Lib.hid (show B (Lib.decDigits n) = B [UInt8.ofNat (48 + (m : Int)).toNat] ++ x by
        refine L_inj ?_
        rw [HD.out, L_B, L_append, L_B, Lib.decDigits, dif_pos (by omega)]
        congr 3)
      obtain ⟨Z, hZ⟩ : ∃ Z, B [UInt8.ofNat (48 + (m : Int)).toNat] = Z := ⟨_, rfl⟩
      have hz1 : Z.size = 1 := by rw [← hZ]; exact hs1 _
      rw [hZ] at hcv HN
      clear hs1 hZ
      go_wp2
      go_ret
      exact ⟨ret_str HN.out.symm, bel_alloc HB.out _⟩
end Go.Proofs.YtjnangiggnmkoaaGreatDoor
