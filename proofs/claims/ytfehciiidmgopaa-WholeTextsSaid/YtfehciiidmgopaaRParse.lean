/- Parse of the reference. -/
import Derived.Test.YtfehciiidmgopaaRText
namespace Go.Proofs.Ytfehciiidmgopaa
open Go.RowKit


/-- i bytes are read. -/
structure RParAt (w : World) (ds : List Nat) (i V : Nat) (A : Option Addr) (k c : Nat) (wr : World) : Prop where
  keep : Keeps NoB w wr
  bits : BitsIn wr (fun _ => True) A k c (digB V)
  len : k = lenB V
  val : V = says 0 ((ds.take i).map (· - 48))
  room : V < 10 ^ i
  good : ∀ j, j < i → digitC (ds.getD j 0) = true
theorem RParAt.start (w : World) (ds : List Nat) : RParAt w ds 0 0 none 0 0 w :=
  ⟨Keeps.refl _ _, BitsIn.nil _ _ _ _ (Nat.zero_le _), rfl, rfl, by decide, fun j hj => by omega⟩
theorem pow_ten (n : Nat) : (10 : Nat) ^ n ≤ 2 ^ (4 * n) := by
  rw [Nat.pow_mul]; exact Nat.pow_le_pow_left (by decide) _
theorem RParAt.short {w wr : World} {ds : List Nat} {i V k c : Nat} {A : Option Addr} (h : RParAt w ds i V A k c wr) (hi : i ≤ 400) : k ≤ 1600 := by
  rw [h.len]
  exact Nat.le_trans (lenB_le.2 (Nat.lt_of_lt_of_le h.room (pow_ten i))) (by omega)
theorem RParAt.next {w wr w' : World} {ds : List Nat} {i V D k c k' c' : Nat} {A A' : Option Addr} (h : RParAt w ds i V A k c wr) (hk : Keeps NoB wr w') (hi : i < ds.length) (hD : D = ds.getD i 0 - 48) (hd : D < 10) (hc : digitC (ds.getD i 0) = true)
    (hl : k' = lenB (10 * V + D)) (hb : BitsIn w' (fun _ => True) A' k' c' (digB (10 * V + D))) : RParAt w ds (i + 1) (10 * V + D) A' k' c' w' := by
  refine ⟨h.keep.trans' hk (fun _ _ h => h) (fun _ _ h => h), hb, hl, ?_, ?_, fun j hj => ?_⟩
  · have ht : ds.take (i + 1) = ds.take i ++ [ds.getD i 0] := by
      rw [List.take_add_one, List.getD_eq_getElem?_getD, List.getElem?_eq_getElem hi]; rfl
    rw [ht, List.map_append, List.map_singleton, says_snoc, ← h.val, hD]
  · have := h.room
    rw [Nat.pow_succ]; omega
  · by_cases hji : j = i
    · subst hji; exact hc
    · exact h.good j (by omega)
theorem lenB_ten (V : Nat) : lenB (2 * V) ≤ lenB V + 1 ∧ lenB (8 * V) ≤ lenB V + 3 ∧ lenB (10 * V) ≤ lenB V + 4 := by
  have h := lenB_le.1 (Nat.le_refl (lenB V))
  refine ⟨lenB_le.2 ?_, lenB_le.2 ?_, lenB_le.2 ?_⟩ <;> rw [Nat.pow_add] <;> omega
theorem minus_code {s : ByteArray} (h : 0 < s.size) : hasMinus s = decide ((codes s).getD 0 0 = 45) := by
  rw [hasMinus_eq]
  unfold codes
  cases hl : s.data.toList with
  | nil =>
    have h1 : s.size = s.data.toList.length := by rw [Array.length_toList]; rfl
    rw [hl] at h1; have h2 : s.size = 0 := h1; omega
  | cons a m =>
    simp only [List.head?_cons, List.map_cons, List.getD_cons_zero]
    by_cases ha : a = 45
    · subst ha; rfl
    · have h2 : ¬ a.toNat = 45 := fun e => ha (UInt8.toNat_inj.1 e)
      rw [decide_eq_false h2]
      simp [ha]
/-! the loop, behind the tests: the walk stands ahead of region 5, its string is d; neg is a literal -/
set_option maxHeartbeats 4000000 in
set_option maxRecDepth 100000 in
theorem rparse_any (s : ByteArray) (hs : s.size ≤ maxLen) (w : World) : Calls Try.prog 17 #[.string s] w (ParseP w (parseD (hasMinus s) (codes (cutS s)))) := by
  unfold maxLen at hs
  by_cases hs0 : s.size = 0
  · have hm : hasMinus s = false := by unfold hasMinus; rw [decide_eq_false (by omega)]; rfl
    have hcut : cutS s = s := by unfold cutS; rw [hm]; rfl
    rw [hm, hcut]
    have HP := hide (parse_bad (neg := false) (d := codes s) (.inl (List.eq_nil_of_length_eq_zero ((codes_len s).trans hs0))))
    have hl0 : ((s.size : Int) == 0) = true := by rw [hs0]; rfl
    have hl1 : decide ((0 : Int) < (s.size : Int)) = false := by rw [hs0]; rfl
    clear hm hcut
    go_enter Try.func17, Try.ntmps17
    go_wp2
    have HBz := hide (Blk.new w 26 #[.int .u8 0, .bool false, .slice none 0 0, .string { data := #[] }, .int .i64 0, .slice none 0 0, .slice none 0 0])
    have HKz := hide ((Keeps.refl NoB w).alloc (.cells #[.int .u8 0, .bool false, .slice none 0 0, .string { data := #[] }, .int .i64 0, .slice none 0 0, .slice none 0 0] 26))
    generalize w.alloc (.cells #[.int .u8 0, .bool false, .slice none 0 0, .string { data := #[] }, .int .i64 0, .slice none 0 0, .slice none 0 0] 26) = w7 at *
    have d0 : w7.cell? ⟨w.heap.size, 0, none⟩ = some (.int .u8 0) := HBz.out.cell 0
    have d1 : w7.cell? ⟨w.heap.size, 1, none⟩ = some (.bool false) := HBz.out.cell 1
    have d2 : w7.cell? ⟨w.heap.size, 2, none⟩ = some (.slice none 0 0) := HBz.out.cell 2
    have d3 : w7.cell? ⟨w.heap.size, 3, none⟩ = some (.string { data := #[] }) := HBz.out.cell 3
    have d4 : w7.cell? ⟨w.heap.size, 4, none⟩ = some (.int .i64 0) := HBz.out.cell 4
    have d5 : w7.cell? ⟨w.heap.size, 5, none⟩ = some (.slice none 0 0) := HBz.out.cell 5
    have d6 : w7.cell? ⟨w.heap.size, 6, none⟩ = some (.slice none 0 0) := HBz.out.cell 6
    refine bodyPost_ret (v := .tuple #[.agg #[.int .u8 0, .bool false, .slice none 0 0, .string { data := #[] }, .int .i64 0, .slice none 0 0, .slice none 0 0], .bool false]) (by simp [results, Try.results17, go_sem, d0, d1, d2, d3, d4, d5, d6]) rfl ?_
    rw [HP.out]
    exact ⟨rfl, HKz.out⟩
  · have hsp : 0 < s.size := by omega
    have hsi : (0 : Int) < (s.size : Int) := by omega
    have hm := minus_code hsp
    have hg0 := codes_get s 0 hsp
    obtain ⟨cs, hcs⟩ : ∃ cs, (codes s).getD 0 0 = cs := ⟨_, rfl⟩
    rw [hcs] at hm hg0
    clear hs0
    by_cases h45 : cs = 45
    · subst h45
      rw [decide_eq_true rfl] at hm
      obtain ⟨d, hd⟩ : ∃ d, s.extract 1 s.size = d := ⟨_, rfl⟩
      have hcut : cutS s = d := by unfold cutS; rw [hm]; exact hd
      have hs1 : (1 : Int) ≤ (s.size : Int) := by omega
      have hs2 : 1 ≤ s.size := hsp
      rw [hm, hcut]
      have HD := hide hd
      clear hm hcut hd
      go_enter Try.func17, Try.ntmps17
      go_upto_region 5 with fail
      rw [HD.out]
      clear HD hs1 hs2 hsp hsi hg0 hcs
      have hdl := codes_len d
      by_cases h0 : d.size = 0
      · have HP := hide (parse_bad (neg := true) (d := codes d) (.inl (List.eq_nil_of_length_eq_zero (hdl.trans h0))))
        have hl0 : ((d.size : Int) == 0) = true := by rw [h0]; rfl
        clear hdl
        go_wp2
        have HBz := hide (Blk.new w 26 #[.int .u8 0, .bool false, .slice none 0 0, .string { data := #[] }, .int .i64 0, .slice none 0 0, .slice none 0 0])
        have HKz := hide ((Keeps.refl NoB w).alloc (.cells #[.int .u8 0, .bool false, .slice none 0 0, .string { data := #[] }, .int .i64 0, .slice none 0 0, .slice none 0 0] 26))
        generalize w.alloc (.cells #[.int .u8 0, .bool false, .slice none 0 0, .string { data := #[] }, .int .i64 0, .slice none 0 0, .slice none 0 0] 26) = w7 at *
        have d0 : w7.cell? ⟨w.heap.size, 0, none⟩ = some (.int .u8 0) := HBz.out.cell 0
        have d1 : w7.cell? ⟨w.heap.size, 1, none⟩ = some (.bool false) := HBz.out.cell 1
        have d2 : w7.cell? ⟨w.heap.size, 2, none⟩ = some (.slice none 0 0) := HBz.out.cell 2
        have d3 : w7.cell? ⟨w.heap.size, 3, none⟩ = some (.string { data := #[] }) := HBz.out.cell 3
        have d4 : w7.cell? ⟨w.heap.size, 4, none⟩ = some (.int .i64 0) := HBz.out.cell 4
        have d5 : w7.cell? ⟨w.heap.size, 5, none⟩ = some (.slice none 0 0) := HBz.out.cell 5
        have d6 : w7.cell? ⟨w.heap.size, 6, none⟩ = some (.slice none 0 0) := HBz.out.cell 6
        refine bodyPost_ret (v := .tuple #[.agg #[.int .u8 0, .bool false, .slice none 0 0, .string { data := #[] }, .int .i64 0, .slice none 0 0, .slice none 0 0], .bool false]) (by simp [results, Try.results17, go_sem, d0, d1, d2, d3, d4, d5, d6]) rfl ?_
        rw [HP.out]
        exact ⟨rfl, HKz.out⟩
      · have hnd : d.size ≠ 0 := h0
        have hl0 : ((d.size : Int) == 0) = false := beq_eq_false_iff_ne.2 (by omega)
        clear h0
        by_cases h4 : d.size ≤ 400
        · have hl4 : decide ((400 : Int) < (d.size : Int)) = false := by simp; omega
          have hdp : 0 < d.size := by omega
          have hdi : (0 : Int) < (d.size : Int) := by omega
          have hd0 := codes_get d 0 hdp
          obtain ⟨c0, hc0⟩ : ∃ c0, (codes d).getD 0 0 = c0 := ⟨_, rfl⟩
          rw [hc0] at hd0
          by_cases h48 : c0 = 48
          · subst h48
            have HP := hide (parse_bad (neg := true) (d := codes d) (.inr (.inr (.inl ⟨hc0, .inl rfl⟩))))
            clear hdl h4 hc0
            by_cases h1 : 1 < d.size
            · have hl1 : decide ((1 : Int) < (d.size : Int)) = true := by simp; omega
              clear h1
              go_wp2
              have HBz := hide (Blk.new w 26 #[.int .u8 0, .bool false, .slice none 0 0, .string { data := #[] }, .int .i64 0, .slice none 0 0, .slice none 0 0])
              have HKz := hide ((Keeps.refl NoB w).alloc (.cells #[.int .u8 0, .bool false, .slice none 0 0, .string { data := #[] }, .int .i64 0, .slice none 0 0, .slice none 0 0] 26))
              generalize w.alloc (.cells #[.int .u8 0, .bool false, .slice none 0 0, .string { data := #[] }, .int .i64 0, .slice none 0 0, .slice none 0 0] 26) = w7 at *
              have d0 : w7.cell? ⟨w.heap.size, 0, none⟩ = some (.int .u8 0) := HBz.out.cell 0
              have d1 : w7.cell? ⟨w.heap.size, 1, none⟩ = some (.bool false) := HBz.out.cell 1
              have d2 : w7.cell? ⟨w.heap.size, 2, none⟩ = some (.slice none 0 0) := HBz.out.cell 2
              have d3 : w7.cell? ⟨w.heap.size, 3, none⟩ = some (.string { data := #[] }) := HBz.out.cell 3
              have d4 : w7.cell? ⟨w.heap.size, 4, none⟩ = some (.int .i64 0) := HBz.out.cell 4
              have d5 : w7.cell? ⟨w.heap.size, 5, none⟩ = some (.slice none 0 0) := HBz.out.cell 5
              have d6 : w7.cell? ⟨w.heap.size, 6, none⟩ = some (.slice none 0 0) := HBz.out.cell 6
              refine bodyPost_ret (v := .tuple #[.agg #[.int .u8 0, .bool false, .slice none 0 0, .string { data := #[] }, .int .i64 0, .slice none 0 0, .slice none 0 0], .bool false]) (by simp [results, Try.results17, go_sem, d0, d1, d2, d3, d4, d5, d6]) rfl ?_
              rw [HP.out]
              exact ⟨rfl, HKz.out⟩
            · have hl1 : decide ((1 : Int) < (d.size : Int)) = false := by simp; omega
              clear h1
              go_wp2
              have HBz := hide (Blk.new w 26 #[.int .u8 0, .bool false, .slice none 0 0, .string { data := #[] }, .int .i64 0, .slice none 0 0, .slice none 0 0])
              have HKz := hide ((Keeps.refl NoB w).alloc (.cells #[.int .u8 0, .bool false, .slice none 0 0, .string { data := #[] }, .int .i64 0, .slice none 0 0, .slice none 0 0] 26))
              generalize w.alloc (.cells #[.int .u8 0, .bool false, .slice none 0 0, .string { data := #[] }, .int .i64 0, .slice none 0 0, .slice none 0 0] 26) = w7 at *
              have d0 : w7.cell? ⟨w.heap.size, 0, none⟩ = some (.int .u8 0) := HBz.out.cell 0
              have d1 : w7.cell? ⟨w.heap.size, 1, none⟩ = some (.bool false) := HBz.out.cell 1
              have d2 : w7.cell? ⟨w.heap.size, 2, none⟩ = some (.slice none 0 0) := HBz.out.cell 2
              have d3 : w7.cell? ⟨w.heap.size, 3, none⟩ = some (.string { data := #[] }) := HBz.out.cell 3
              have d4 : w7.cell? ⟨w.heap.size, 4, none⟩ = some (.int .i64 0) := HBz.out.cell 4
              have d5 : w7.cell? ⟨w.heap.size, 5, none⟩ = some (.slice none 0 0) := HBz.out.cell 5
              have d6 : w7.cell? ⟨w.heap.size, 6, none⟩ = some (.slice none 0 0) := HBz.out.cell 6
              refine bodyPost_ret (v := .tuple #[.agg #[.int .u8 0, .bool false, .slice none 0 0, .string { data := #[] }, .int .i64 0, .slice none 0 0, .slice none 0 0], .bool false]) (by simp [results, Try.results17, go_sem, d0, d1, d2, d3, d4, d5, d6]) rfl ?_
              rw [HP.out]
              exact ⟨rfl, HKz.out⟩
          · have hb3 : (c0 == 48) = false := by simp; exact h48
            have hb4 : ((c0 : Int) == 48) = false := by simp; omega
            have HG := hide (fun ha => parse_good (neg := true) (d := codes d) (fun e => by rw [e] at hdl; have h2 : (0 : Nat) = d.size := hdl; omega) (by omega) (fun h => h48 (hc0.symm.trans h.1)) ha)
            have HB1 := hide (Blk.new w 26 #[.int .u8 0, .bool false, .slice none 0 0, .string { data := #[] }, .int .i64 0, .slice none 0 0, .slice none 0 0])
            have HK1 := hide ((Keeps.refl NoB w).alloc (.cells #[.int .u8 0, .bool false, .slice none 0 0, .string { data := #[] }, .int .i64 0, .slice none 0 0, .slice none 0 0] 26))
            generalize w.alloc (.cells #[.int .u8 0, .bool false, .slice none 0 0, .string { data := #[] }, .int .i64 0, .slice none 0 0, .slice none 0 0] 26) = w1 at *
            clear hc0 h48
            obtain ⟨i0, hi0, hz0, hz1, hz2⟩ := info_parts Try.info4
            clear hnd hl4
            have H0 := hide (RParAt.start w1 (codes d))
            go_wp2
            go_loopw [6, 7] (fun lv iv wr => ∃ (i V : Nat) (A : Option Addr) (k c : Nat), lv = .slice A k c ∧ iv = .int .i64 (i : Int) ∧ i ≤ d.size ∧ Hid (RParAt w1 (codes d) i V A k c wr)) (fun _ iv _ => d.size - (intOf iv).toNat)
            case atStart => exact ⟨0, 0, none, 0, 0, rfl, rfl, Nat.zero_le _, H0⟩
            case round =>
              obtain ⟨i, V, A, k, c, rfl, rfl, hi, HM⟩ := hrel
              have HBr := hide (HB1.out.keep HM.out.keep id)
              have HKr := hide (HK1.out.trans' HM.out.keep (fun _ _ h => h) (fun _ _ h => h))
              by_cases hlt : i < d.size
              · obtain ⟨C, hC⟩ : ∃ C, (codes d).getD i 0 = C := ⟨_, rfl⟩
                have hgi := codes_get d i hlt
                have hgi0 : (0 : Int) ≤ (i : Int) := by omega
                have hgi1 : (i : Int) < (d.size : Int) := by omega
                have hC2 : C < 256 := by
                  rw [← hC, List.getD_eq_getElem?_getD, List.getElem?_eq_getElem (by omega)]
                  exact codes_lt d _ (List.getElem_mem _)
                rw [hC] at hgi
                by_cases hgood : 48 ≤ C ∧ C ≤ 57
                · have hdig : digitC C = true := by unfold digitC; rw [decide_eq_true hgood.1, decide_eq_true hgood.2]; rfl
                  obtain ⟨D, hD⟩ : ∃ D, D = C - 48 := ⟨_, rfl⟩
                  have hD1 : (C : Int) - 48 = (D : Int) := by omega
                  have hD2 : D < 10 := by omega
                  have c1 : decide (C < 48) = false := decide_eq_false (by omega)
                  have c2 : decide ((C : Int) < 48) = false := by simp; omega
                  have c3 : decide (57 < C) = false := decide_eq_false (by omega)
                  have c4 : decide ((57 : Int) < (C : Int)) = false := by simp; omega
                  have hk16 := HM.out.short (by omega)
                  have HDC := hide (show D = (codes d).getD i 0 - 48 from by rw [hC]; exact hD)
                  have HDG := hide (show digitC ((codes d).getD i 0) = true from by rw [hC]; exact hdig)
                  have HXS := hide HM.out.bits
                  have HIL := hide (show i < (codes d).length from by omega)
                  clear hgood hdig hC hD HBr HKr
                  obtain ⟨F, hrr⟩ := (HXS.out.keep ((Keeps.refl NoB wr).alloc (.cells #[.bool false] 4))).reads
                  have HRR := hide hrr
                  clear hrr
                  go_upto_region 14 with (at_builtin; go_must (refine wpList_append_reads _ rfl (.tmp 62) (.tmp 63) 48 rfl wr.heap.size 4 i0 _ 1 1 Try.underlying48 hi0 hz0 hz1 hz2 rfl (by omega) (.slice (some ⟨wr.heap.size, 0, none⟩) 1 1) 1 [.bool false] rfl ?z1 _ F A k c (bools (digB V)) rfl HRR.out (bools_ones _) ?z3 ?z4 ?z5 ?_))
                  case z1 => exact ⟨by simp, .inr ⟨wr.heap.size, 1, #[.bool false], rfl, Nat.le_refl _, heap_alloc_new wr _, Nat.le_refl _, by unfold maxLen; omega, rfl, rfl⟩⟩
                  case z3 => unfold maxLen; omega
                  case z4 => omega
                  case z5 => simp
                  intro v' w2 hown hg hbl
                  obtain ⟨Aw2, cw2, hv, hs⟩ := Slab.of_own hown
                  subst hv
                  have HKw2 := hide (((Keeps.refl NoB wr).alloc (.cells #[.bool false] 4)).grown hg (fun k h hk => by simp [Value.ownBlock] at h; omega) : Keeps NoB wr w2)
                  have HBw2 := hide ((BitsIn.of_slab (l := false :: digB V) hs).more (B' := fun _ => True) (fun k _ hr => trivial))
                  clear hown hg hbl hs HRR
                  have HXS2 := hide (HXS.out.keep HKw2.out)
                  obtain ⟨F, hrr⟩ := (HXS2.out.keep ((Keeps.refl NoB w2).alloc (.cells #[.bool false, .bool false, .bool false] 4))).reads
                  have HRR := hide hrr
                  clear hrr
                  go_upto_region 15 with (at_builtin; go_must (refine wpList_append_reads _ rfl (.tmp 65) (.tmp 66) 48 rfl w2.heap.size 4 i0 _ 1 1 Try.underlying48 hi0 hz0 hz1 hz2 rfl (by omega) (.slice (some ⟨w2.heap.size, 0, none⟩) 3 3) 3 [.bool false, .bool false, .bool false] rfl ?z1 _ F A k c (bools (digB V)) rfl HRR.out (bools_ones _) ?z3 ?z4 ?z5 ?_))
                  case z1 => exact ⟨by simp, .inr ⟨w2.heap.size, 3, #[.bool false, .bool false, .bool false], rfl, Nat.le_refl _, heap_alloc_new w2 _, Nat.le_refl _, by unfold maxLen; omega, rfl, rfl⟩⟩
                  case z3 => unfold maxLen; omega
                  case z4 => omega
                  case z5 => simp
                  intro v' w3 hown hg hbl
                  obtain ⟨Aw3, cw3, hv, hs⟩ := Slab.of_own hown
                  subst hv
                  have HKw3 := hide (((Keeps.refl NoB w2).alloc (.cells #[.bool false, .bool false, .bool false] 4)).grown hg (fun k h hk => by simp [Value.ownBlock] at h; omega) : Keeps NoB w2 w3)
                  have HBw3 := hide ((BitsIn.of_slab (l := false :: false :: false :: digB V) hs).more (B' := fun _ => True) (fun k _ hr => trivial))
                  clear hown hg hbl hs HRR
                  have HBW2 := hide (HBw2.out.keep HKw3.out)
                  go_wp2_with first | (go_at_call 21; refine (rof_any (D : Int) (by omega) (by omega) w3).mono ?_; rintro e w4 ⟨ng, AD, nD, cD, rfl, hi4, hk4⟩; have hka := hk4.alloc (.cells #[.int .u8 1, .bool ng, .slice AD nD cD, .string { data := #[] }, .int .i64 0, .slice none 0 0, .slice none 0 0] 26); have HI4 := hide (hi4.keep ((Keeps.refl NoB w4).alloc (.cells #[.int .u8 1, .bool ng, .slice AD nD cD, .string { data := #[] }, .int .i64 0, .slice none 0 0, .slice none 0 0] 26))); have HN4 := hide (Blk.new w4 26 #[.int .u8 1, .bool ng, .slice AD nD cD, .string { data := #[] }, .int .i64 0, .slice none 0 0, .slice none 0 0]); have HT4 := hide (HBW2.out.keep hka); have HE4 := hide (HBw3.out.keep hka); have HK4 := hide ((HKw2.out.trans' HKw3.out (fun _ _ h => h) (fun _ _ h => h)).trans' hka (fun _ _ h => h) (fun _ _ h => h)); clear hi4 hk4 hka HBW2 HBw2 HBw3 HXS HXS2 HKw2 HKw3) | fail
                  obtain ⟨w5, hw5⟩ : ∃ w5, w4.alloc (.cells #[.int .u8 1, .bool ng, .slice AD nD cD, .string { data := #[] }, .int .i64 0, .slice none 0 0, .slice none 0 0] 26) = w5 := ⟨_, rfl⟩
                  rw [hw5] at HI4 HN4 HT4 HE4 HK4 ⊢
                  clear hw5
                  refine order_begin (fun W => Keeps NoB w5.drew W) (fun _ => true) (by kernel_rfl) 7 rfl ?_
                  have BN := hide HN4.out.drew
                  have BI := hide (HI4.out.keep (Keeps.refl NoB w5).drew); have BT := hide (HT4.out.keep (Keeps.refl NoB w5).drew); have BE := hide (HE4.out.keep (Keeps.refl NoB w5).drew)
                  have HKD := hide HK4.out.drew
                  generalize w5.drew = W0 at *
                  have HS : Keeps NoB W0 W0 := Keeps.refl _ _
                  refine order_pure (i := 0) rfl (by kernel_rfl) (fun _ _ _ h => h) (.inl ⟨rfl, fun _ => by go_simp; rfl⟩) ?_
                  try simp only [Act.put, List.setIfInBounds_toArray, List.set_cons_succ, List.set_cons_zero]
                  refine order_pure (i := 1) rfl (by kernel_rfl) (fun _ _ _ h => h) (.inl ⟨rfl, fun _ => by go_simp; rfl⟩) ?_
                  try simp only [Act.put, List.setIfInBounds_toArray, List.set_cons_succ, List.set_cons_zero]
                  refine order_held (i := 3) rfl (by kernel_rfl) (fun _ _ _ h => h) (.inl ⟨rfl, fun W hW => by
                    have q0 : W.cell? ⟨w4.heap.size, 0, none⟩ = some (.int .u8 1) := hW.cell id (BN.out.cell 0)
                    have q1 : W.cell? ⟨w4.heap.size, 1, none⟩ = some (.bool ng) := hW.cell id (BN.out.cell 1)
                    have q2 : W.cell? ⟨w4.heap.size, 2, none⟩ = some (.slice AD nD cD) := hW.cell id (BN.out.cell 2)
                    have q3 : W.cell? ⟨w4.heap.size, 3, none⟩ = some (.string { data := #[] }) := hW.cell id (BN.out.cell 3)
                    have q4 : W.cell? ⟨w4.heap.size, 4, none⟩ = some (.int .i64 0) := hW.cell id (BN.out.cell 4)
                    have q5 : W.cell? ⟨w4.heap.size, 5, none⟩ = some (.slice none 0 0) := hW.cell id (BN.out.cell 5)
                    have q6 : W.cell? ⟨w4.heap.size, 6, none⟩ = some (.slice none 0 0) := hW.cell id (BN.out.cell 6)
                    go_simp; rfl⟩) HS ?_
                  try simp only [Act.put, List.setIfInBounds_toArray, List.set_cons_succ, List.set_cons_zero]
                  clear HS
                  have HS1 := hide (bsum_any Aw2 Aw3 (1 + k) cw2 (3 + k) cw3 (max (1 + k) (3 + k)) _ _ W0 _ _ BT.out BE.out rfl (by omega))
                  rw [show natB (false :: digB V) + natB (false :: false :: false :: digB V) = 10 * V from by simp only [natB_cons, natB_dig]; simp; omega] at HS1
                  refine order_one (i := 2) rfl (by kernel_rfl) (fun K hK => ?_)
                  go_simp
                  refine HS1.out.mono ?_
                  rintro e V1 ⟨A1, n1, c1, rfl, hn1, hb1, hk1⟩
                  refine hK _ _ (fun _ hS => hS.trans' hk1 (fun _ _ => id) (fun _ _ => id)) ?_
                  clear hK
                  have HN1 := hide hn1; have HB1' := hide hb1; have HK1' := hide hk1
                  clear hn1 hb1 hk1
                  try simp only [Act.put, List.setIfInBounds_toArray, List.set_cons_succ, List.set_cons_zero]
                  refine order_one (i := 4) rfl (by kernel_rfl) (fun K hK => ?_)
                  go_simp
                  refine (bits_any _ _ _ _ _ _ _ _ _ V1 _ (BI.out.keep HK1'.out)).mono ?_
                  rintro e V2 ⟨A2, n2, c2, rfl, hn2, hb2, hk2⟩
                  refine hK _ _ (fun _ hS => hS.trans' hk2 (fun _ _ => id) (fun _ _ => id)) ?_
                  clear hK
                  have HN2 := hide hn2; have HB2' := hide hb2; have HK2' := hide hk2
                  clear hn2 hb2 hk2
                  try simp only [Act.put, List.setIfInBounds_toArray, List.set_cons_succ, List.set_cons_zero]
                  have hn1 : n1 ≤ 2000 := by rw [HN1.out]; have h1 := (lenB_ten V).2.2; have h2 := HM.out.len; omega
                  have hn2 : n2 ≤ 2000 := by rw [HN2.out]; exact Nat.le_trans (lenB_le (k := 10).2 (by simp; omega)) (by omega)
                  have HS2 := hide (bsum_any A1 A2 n1 c1 n2 c2 (max n1 n2) _ _ V2 _ _ (HB1'.out.keep HK2'.out) HB2'.out rfl (by omega))
                  rw [natB_dig, natB_dig, Int.natAbs_natCast] at HS2
                  clear hn1 hn2
                  refine order_one (i := 5) rfl (by kernel_rfl) (fun K hK => ?_)
                  go_simp
                  refine HS2.out.mono ?_
                  rintro e V3 ⟨A3, n3, c3, rfl, hn3, hb3, hk3⟩
                  refine hK _ _ (fun _ hS => hS.trans' hk3 (fun _ _ => id) (fun _ _ => id)) ?_
                  clear hK
                  have HST := hide (HM.out.next (((HKD.out.trans' HK1'.out (fun _ _ h => h) (fun _ _ h => h)).trans' HK2'.out (fun _ _ h => h) (fun _ _ h => h)).trans' hk3 (fun _ _ h => h) (fun _ _ h => h)) HIL.out HDC.out hD2 HDG.out hn3 (hb3.more (B' := fun _ => True) (fun _ _ _ => trivial)))
                  clear hn3 hb3 hk3
                  try simp only [Act.put, List.setIfInBounds_toArray, List.set_cons_succ, List.set_cons_zero]
                  refine order_pure (i := 6) rfl (by kernel_rfl) (fun _ _ _ h => h) (.inl ⟨rfl, fun _ => by go_simp; rfl⟩) ?_
                  try simp only [Act.put, List.setIfInBounds_toArray, List.set_cons_succ, List.set_cons_zero]
                  refine order_done (by kernel_rfl) ?_
                  go_wp2
                  go_roundw
                  case rel => exact ⟨i + 1, 10 * V + D, A3, n3, c3, rfl, rfl, by omega, HST⟩
                  case measure => simp [intOf]; omega
                · have hbad : digitC C = false := by
                    unfold digitC
                    by_cases h48 : 48 ≤ C
                    · rw [decide_eq_false (p := C ≤ 57) (fun h => hgood ⟨h48, h⟩), Bool.and_false]
                    · rw [decide_eq_false h48, Bool.false_and]
                  have HP := hide (parse_nodigit (neg := true) (d := codes d) (i := i) (by omega) (hC ▸ hbad))
                  have hgs : w.heap.size ≤ w.heap.size := Nat.le_refl _
                  have z0 : wr.cell? ⟨w.heap.size, 0, none⟩ = some (.int .u8 0) := HBr.out.cell 0; have z1 : wr.cell? ⟨w.heap.size, 1, none⟩ = some (.bool false) := HBr.out.cell 1; have z2 : wr.cell? ⟨w.heap.size, 2, none⟩ = some (.slice none 0 0) := HBr.out.cell 2; have z3 : wr.cell? ⟨w.heap.size, 3, none⟩ = some (.string { data := #[] }) := HBr.out.cell 3; have z4 : wr.cell? ⟨w.heap.size, 4, none⟩ = some (.int .i64 0) := HBr.out.cell 4; have z5 : wr.cell? ⟨w.heap.size, 5, none⟩ = some (.slice none 0 0) := HBr.out.cell 5; have z6 : wr.cell? ⟨w.heap.size, 6, none⟩ = some (.slice none 0 0) := HBr.out.cell 6
                  have f0 : wr.frozen? ⟨w.heap.size, 0, none⟩ = false := HBr.out.free 0; have f1 : wr.frozen? ⟨w.heap.size, 1, none⟩ = false := HBr.out.free 1; have f2 : wr.frozen? ⟨w.heap.size, 2, none⟩ = false := HBr.out.free 2; have f3 : wr.frozen? ⟨w.heap.size, 3, none⟩ = false := HBr.out.free 3; have f4 : wr.frozen? ⟨w.heap.size, 4, none⟩ = false := HBr.out.free 4; have f5 : wr.frozen? ⟨w.heap.size, 5, none⟩ = false := HBr.out.free 5; have f6 : wr.frozen? ⟨w.heap.size, 6, none⟩ = false := HBr.out.free 6
                  by_cases h48 : C < 48
                  · have c1 : decide (C < 48) = true := decide_eq_true h48
                    have c2 : decide ((C : Int) < 48) = true := by simp; omega
                    clear hgood hbad hC h48
                    go_wp2
                    have HBf := hide (HBr.out.put7 (.int .u8 0) (.bool false) (.slice none 0 0) (.string { data := #[] }) (.int .i64 0) (.slice none 0 0) (.slice none 0 0))
                    have HKf := hide (HKr.out.set7 (g := w.heap.size) (by omega) (.int .u8 0) (.bool false) (.slice none 0 0) (.string { data := #[] }) (.int .i64 0) (.slice none 0 0) (.slice none 0 0))
                    clear z0 z1 z2 z3 z4 z5 z6 f0 f1 f2 f3 f4 f5 f6 HBr HKr
                    generalize (((((((wr.setCell ⟨w.heap.size, 0, none⟩ (.int .u8 0)).setCell ⟨w.heap.size, 1, none⟩ (.bool false)).setCell ⟨w.heap.size, 2, none⟩ (.slice none 0 0)).setCell ⟨w.heap.size, 3, none⟩ (.string { data := #[] })).setCell ⟨w.heap.size, 4, none⟩ (.int .i64 0)).setCell ⟨w.heap.size, 5, none⟩ (.slice none 0 0)).setCell ⟨w.heap.size, 6, none⟩ (.slice none 0 0)) = wf at *
                    have d0 : wf.cell? ⟨w.heap.size, 0, none⟩ = some (.int .u8 0) := HBf.out.cell 0
                    have d1 : wf.cell? ⟨w.heap.size, 1, none⟩ = some (.bool false) := HBf.out.cell 1
                    have d2 : wf.cell? ⟨w.heap.size, 2, none⟩ = some (.slice none 0 0) := HBf.out.cell 2
                    have d3 : wf.cell? ⟨w.heap.size, 3, none⟩ = some (.string { data := #[] }) := HBf.out.cell 3
                    have d4 : wf.cell? ⟨w.heap.size, 4, none⟩ = some (.int .i64 0) := HBf.out.cell 4
                    have d5 : wf.cell? ⟨w.heap.size, 5, none⟩ = some (.slice none 0 0) := HBf.out.cell 5
                    have d6 : wf.cell? ⟨w.heap.size, 6, none⟩ = some (.slice none 0 0) := HBf.out.cell 6
                    refine bodyPost_ret (v := .tuple #[.agg #[.int .u8 0, .bool false, .slice none 0 0, .string { data := #[] }, .int .i64 0, .slice none 0 0, .slice none 0 0], .bool false]) (by simp [results, Try.results17, go_sem, d0, d1, d2, d3, d4, d5, d6]) rfl ?_
                    rw [HP.out]
                    exact ⟨rfl, HKf.out⟩
                  · have c1 : decide (C < 48) = false := decide_eq_false h48
                    have c2 : decide ((C : Int) < 48) = false := by simp; omega
                    have c3 : decide (57 < C) = true := decide_eq_true (by omega)
                    have c4 : decide ((57 : Int) < (C : Int)) = true := by simp; omega
                    clear hgood hbad hC h48
                    go_wp2
                    have HBf := hide (HBr.out.put7 (.int .u8 0) (.bool false) (.slice none 0 0) (.string { data := #[] }) (.int .i64 0) (.slice none 0 0) (.slice none 0 0))
                    have HKf := hide (HKr.out.set7 (g := w.heap.size) (by omega) (.int .u8 0) (.bool false) (.slice none 0 0) (.string { data := #[] }) (.int .i64 0) (.slice none 0 0) (.slice none 0 0))
                    clear z0 z1 z2 z3 z4 z5 z6 f0 f1 f2 f3 f4 f5 f6 HBr HKr
                    generalize (((((((wr.setCell ⟨w.heap.size, 0, none⟩ (.int .u8 0)).setCell ⟨w.heap.size, 1, none⟩ (.bool false)).setCell ⟨w.heap.size, 2, none⟩ (.slice none 0 0)).setCell ⟨w.heap.size, 3, none⟩ (.string { data := #[] })).setCell ⟨w.heap.size, 4, none⟩ (.int .i64 0)).setCell ⟨w.heap.size, 5, none⟩ (.slice none 0 0)).setCell ⟨w.heap.size, 6, none⟩ (.slice none 0 0)) = wf at *
                    have d0 : wf.cell? ⟨w.heap.size, 0, none⟩ = some (.int .u8 0) := HBf.out.cell 0
                    have d1 : wf.cell? ⟨w.heap.size, 1, none⟩ = some (.bool false) := HBf.out.cell 1
                    have d2 : wf.cell? ⟨w.heap.size, 2, none⟩ = some (.slice none 0 0) := HBf.out.cell 2
                    have d3 : wf.cell? ⟨w.heap.size, 3, none⟩ = some (.string { data := #[] }) := HBf.out.cell 3
                    have d4 : wf.cell? ⟨w.heap.size, 4, none⟩ = some (.int .i64 0) := HBf.out.cell 4
                    have d5 : wf.cell? ⟨w.heap.size, 5, none⟩ = some (.slice none 0 0) := HBf.out.cell 5
                    have d6 : wf.cell? ⟨w.heap.size, 6, none⟩ = some (.slice none 0 0) := HBf.out.cell 6
                    refine bodyPost_ret (v := .tuple #[.agg #[.int .u8 0, .bool false, .slice none 0 0, .string { data := #[] }, .int .i64 0, .slice none 0 0, .slice none 0 0], .bool false]) (by simp [results, Try.results17, go_sem, d0, d1, d2, d3, d4, d5, d6]) rfl ?_
                    rw [HP.out]
                    exact ⟨rfl, HKf.out⟩
              · obtain rfl : i = d.size := by omega
                have HV := hide (show V = says 0 ((codes d).map (· - 48)) from by
                  rw [HM.out.val, List.take_of_length_le (by omega)])
                have HP := hide (HG.out (all_digits (fun j hj => HM.out.good j (by omega))))
                have hk16 := HM.out.short (by omega)
                have HMD := hide (rmade_any A k c true _ wr _ HM.out.bits (by omega))
                have hgs : w.heap.size < wr.heap.size := HBr.out.lt
                rw [natB_dig, HV.out] at HMD
                clear HM HG
                go_wp2_with (go_at_call 38; refine HMD.out.mono ?_; rintro e w5 ⟨kd, ng, A, n, c, ok, rfl, hr, hk⟩; have HB5 := hide (HBr.out.keep hk id); have HA5 := hide hr; have HK6 := hide (HKr.out.trans' hk (fun _ _ => id) (fun _ _ => id)); clear hr hk; have z0 : w5.cell? ⟨w.heap.size, 0, none⟩ = some (.int .u8 0) := HB5.out.cell 0; have z1 : w5.cell? ⟨w.heap.size, 1, none⟩ = some (.bool false) := HB5.out.cell 1; have z2 : w5.cell? ⟨w.heap.size, 2, none⟩ = some (.slice none 0 0) := HB5.out.cell 2; have z3 : w5.cell? ⟨w.heap.size, 3, none⟩ = some (.string { data := #[] }) := HB5.out.cell 3; have z4 : w5.cell? ⟨w.heap.size, 4, none⟩ = some (.int .i64 0) := HB5.out.cell 4; have z5 : w5.cell? ⟨w.heap.size, 5, none⟩ = some (.slice none 0 0) := HB5.out.cell 5; have z6 : w5.cell? ⟨w.heap.size, 6, none⟩ = some (.slice none 0 0) := HB5.out.cell 6; have f0 : w5.frozen? ⟨w.heap.size, 0, none⟩ = false := HB5.out.free 0; have f1 : w5.frozen? ⟨w.heap.size, 1, none⟩ = false := HB5.out.free 1; have f2 : w5.frozen? ⟨w.heap.size, 2, none⟩ = false := HB5.out.free 2; have f3 : w5.frozen? ⟨w.heap.size, 3, none⟩ = false := HB5.out.free 3; have f4 : w5.frozen? ⟨w.heap.size, 4, none⟩ = false := HB5.out.free 4; have f5 : w5.frozen? ⟨w.heap.size, 5, none⟩ = false := HB5.out.free 5; have f6 : w5.frozen? ⟨w.heap.size, 6, none⟩ = false := HB5.out.free 6)
                rw [HP.out]
                have HBf := hide (HB5.out.put7 (.int .u8 kd) (.bool ng) (.slice A n c) (.string { data := #[] }) (.int .i64 0) (.slice none 0 0) (.slice none 0 0))
                have HKf := hide (HK6.out.set7 (g := w.heap.size) (by omega) (.int .u8 kd) (.bool ng) (.slice A n c) (.string { data := #[] }) (.int .i64 0) (.slice none 0 0) (.slice none 0 0))
                have HAf := hide ((HA5.out.far (Keeps.set7' (g := w.heap.size) (.int .u8 kd) (.bool ng) (.slice A n c) (.string { data := #[] }) (.int .i64 0) (.slice none 0 0) (.slice none 0 0)) (fun k hk e => by first | omega | (simp at hk; omega))).more (B' := fun k => w.heap.size ≤ k) (fun k _ hk => by first | omega | (simp at hk; omega)))
                clear z0 z1 z2 z3 z4 z5 z6 f0 f1 f2 f3 f4 f5 f6 HB5 HK6 HA5
                generalize (((((((w5.setCell ⟨w.heap.size, 0, none⟩ (.int .u8 kd)).setCell ⟨w.heap.size, 1, none⟩ (.bool ng)).setCell ⟨w.heap.size, 2, none⟩ (.slice A n c)).setCell ⟨w.heap.size, 3, none⟩ (.string { data := #[] })).setCell ⟨w.heap.size, 4, none⟩ (.int .i64 0)).setCell ⟨w.heap.size, 5, none⟩ (.slice none 0 0)).setCell ⟨w.heap.size, 6, none⟩ (.slice none 0 0)) = wf at *
                have d0 : wf.cell? ⟨w.heap.size, 0, none⟩ = some (.int .u8 kd) := HBf.out.cell 0
                have d1 : wf.cell? ⟨w.heap.size, 1, none⟩ = some (.bool ng) := HBf.out.cell 1
                have d2 : wf.cell? ⟨w.heap.size, 2, none⟩ = some (.slice A n c) := HBf.out.cell 2
                have d3 : wf.cell? ⟨w.heap.size, 3, none⟩ = some (.string { data := #[] }) := HBf.out.cell 3
                have d4 : wf.cell? ⟨w.heap.size, 4, none⟩ = some (.int .i64 0) := HBf.out.cell 4
                have d5 : wf.cell? ⟨w.heap.size, 5, none⟩ = some (.slice none 0 0) := HBf.out.cell 5
                have d6 : wf.cell? ⟨w.heap.size, 6, none⟩ = some (.slice none 0 0) := HBf.out.cell 6
                refine bodyPost_ret (v := .tuple #[.agg #[.int .u8 kd, .bool ng, .slice A n c, .string { data := #[] }, .int .i64 0, .slice none 0 0, .slice none 0 0], .bool ok]) (by simp [results, Try.results17, go_sem, d0, d1, d2, d3, d4, d5, d6]) rfl ?_
                exact ⟨kd, ng, A, n, c, ok, rfl, HAf.out, HKf.out⟩
        · have hl4 : decide ((400 : Int) < (d.size : Int)) = true := by simp; omega
          have HP := hide (parse_bad (neg := true) (d := codes d) (.inr (.inl (by omega))))
          clear hdl h4
          go_wp2
          have HBz := hide (Blk.new w 26 #[.int .u8 0, .bool false, .slice none 0 0, .string { data := #[] }, .int .i64 0, .slice none 0 0, .slice none 0 0])
          have HKz := hide ((Keeps.refl NoB w).alloc (.cells #[.int .u8 0, .bool false, .slice none 0 0, .string { data := #[] }, .int .i64 0, .slice none 0 0, .slice none 0 0] 26))
          generalize w.alloc (.cells #[.int .u8 0, .bool false, .slice none 0 0, .string { data := #[] }, .int .i64 0, .slice none 0 0, .slice none 0 0] 26) = w7 at *
          have d0 : w7.cell? ⟨w.heap.size, 0, none⟩ = some (.int .u8 0) := HBz.out.cell 0
          have d1 : w7.cell? ⟨w.heap.size, 1, none⟩ = some (.bool false) := HBz.out.cell 1
          have d2 : w7.cell? ⟨w.heap.size, 2, none⟩ = some (.slice none 0 0) := HBz.out.cell 2
          have d3 : w7.cell? ⟨w.heap.size, 3, none⟩ = some (.string { data := #[] }) := HBz.out.cell 3
          have d4 : w7.cell? ⟨w.heap.size, 4, none⟩ = some (.int .i64 0) := HBz.out.cell 4
          have d5 : w7.cell? ⟨w.heap.size, 5, none⟩ = some (.slice none 0 0) := HBz.out.cell 5
          have d6 : w7.cell? ⟨w.heap.size, 6, none⟩ = some (.slice none 0 0) := HBz.out.cell 6
          refine bodyPost_ret (v := .tuple #[.agg #[.int .u8 0, .bool false, .slice none 0 0, .string { data := #[] }, .int .i64 0, .slice none 0 0, .slice none 0 0], .bool false]) (by simp [results, Try.results17, go_sem, d0, d1, d2, d3, d4, d5, d6]) rfl ?_
          rw [HP.out]
          exact ⟨rfl, HKz.out⟩
    · have h5 : (cs == 45) = false := by simp; exact h45
      have h6 : ((cs : Int) == 45) = false := by simp; omega
      rw [decide_eq_false h45] at hm
      have hcut : cutS s = s := by unfold cutS; rw [hm]; rfl
      rw [hm, hcut]
      clear hm hcut h45
      go_enter Try.func17, Try.ntmps17
      go_upto_region 5 with fail
      clear h5 h6 hsp hsi hg0 hcs
      generalize s = d at *
      have hdl := codes_len d
      by_cases h0 : d.size = 0
      · have HP := hide (parse_bad (neg := false) (d := codes d) (.inl (List.eq_nil_of_length_eq_zero (hdl.trans h0))))
        have hl0 : ((d.size : Int) == 0) = true := by rw [h0]; rfl
        clear hdl
        go_wp2
        have HBz := hide (Blk.new w 26 #[.int .u8 0, .bool false, .slice none 0 0, .string { data := #[] }, .int .i64 0, .slice none 0 0, .slice none 0 0])
        have HKz := hide ((Keeps.refl NoB w).alloc (.cells #[.int .u8 0, .bool false, .slice none 0 0, .string { data := #[] }, .int .i64 0, .slice none 0 0, .slice none 0 0] 26))
        generalize w.alloc (.cells #[.int .u8 0, .bool false, .slice none 0 0, .string { data := #[] }, .int .i64 0, .slice none 0 0, .slice none 0 0] 26) = w7 at *
        have d0 : w7.cell? ⟨w.heap.size, 0, none⟩ = some (.int .u8 0) := HBz.out.cell 0
        have d1 : w7.cell? ⟨w.heap.size, 1, none⟩ = some (.bool false) := HBz.out.cell 1
        have d2 : w7.cell? ⟨w.heap.size, 2, none⟩ = some (.slice none 0 0) := HBz.out.cell 2
        have d3 : w7.cell? ⟨w.heap.size, 3, none⟩ = some (.string { data := #[] }) := HBz.out.cell 3
        have d4 : w7.cell? ⟨w.heap.size, 4, none⟩ = some (.int .i64 0) := HBz.out.cell 4
        have d5 : w7.cell? ⟨w.heap.size, 5, none⟩ = some (.slice none 0 0) := HBz.out.cell 5
        have d6 : w7.cell? ⟨w.heap.size, 6, none⟩ = some (.slice none 0 0) := HBz.out.cell 6
        refine bodyPost_ret (v := .tuple #[.agg #[.int .u8 0, .bool false, .slice none 0 0, .string { data := #[] }, .int .i64 0, .slice none 0 0, .slice none 0 0], .bool false]) (by simp [results, Try.results17, go_sem, d0, d1, d2, d3, d4, d5, d6]) rfl ?_
        rw [HP.out]
        exact ⟨rfl, HKz.out⟩
      · have hnd : d.size ≠ 0 := h0
        have hl0 : ((d.size : Int) == 0) = false := beq_eq_false_iff_ne.2 (by omega)
        clear h0
        by_cases h4 : d.size ≤ 400
        · have hl4 : decide ((400 : Int) < (d.size : Int)) = false := by simp; omega
          have hdp : 0 < d.size := by omega
          have hdi : (0 : Int) < (d.size : Int) := by omega
          have hd0 := codes_get d 0 hdp
          obtain ⟨c0, hc0⟩ : ∃ c0, (codes d).getD 0 0 = c0 := ⟨_, rfl⟩
          rw [hc0] at hd0
          by_cases h48 : c0 = 48
          · subst h48
            by_cases h1 : 1 < d.size
            · have HP := hide (parse_bad (neg := false) (d := codes d) (.inr (.inr (.inl ⟨hc0, .inr (by omega)⟩))))
              have hl1 : decide ((1 : Int) < (d.size : Int)) = true := by simp; omega
              clear h1 hdl hc0
              go_wp2
              have HBz := hide (Blk.new w 26 #[.int .u8 0, .bool false, .slice none 0 0, .string { data := #[] }, .int .i64 0, .slice none 0 0, .slice none 0 0])
              have HKz := hide ((Keeps.refl NoB w).alloc (.cells #[.int .u8 0, .bool false, .slice none 0 0, .string { data := #[] }, .int .i64 0, .slice none 0 0, .slice none 0 0] 26))
              generalize w.alloc (.cells #[.int .u8 0, .bool false, .slice none 0 0, .string { data := #[] }, .int .i64 0, .slice none 0 0, .slice none 0 0] 26) = w7 at *
              have d0 : w7.cell? ⟨w.heap.size, 0, none⟩ = some (.int .u8 0) := HBz.out.cell 0
              have d1 : w7.cell? ⟨w.heap.size, 1, none⟩ = some (.bool false) := HBz.out.cell 1
              have d2 : w7.cell? ⟨w.heap.size, 2, none⟩ = some (.slice none 0 0) := HBz.out.cell 2
              have d3 : w7.cell? ⟨w.heap.size, 3, none⟩ = some (.string { data := #[] }) := HBz.out.cell 3
              have d4 : w7.cell? ⟨w.heap.size, 4, none⟩ = some (.int .i64 0) := HBz.out.cell 4
              have d5 : w7.cell? ⟨w.heap.size, 5, none⟩ = some (.slice none 0 0) := HBz.out.cell 5
              have d6 : w7.cell? ⟨w.heap.size, 6, none⟩ = some (.slice none 0 0) := HBz.out.cell 6
              refine bodyPost_ret (v := .tuple #[.agg #[.int .u8 0, .bool false, .slice none 0 0, .string { data := #[] }, .int .i64 0, .slice none 0 0, .slice none 0 0], .bool false]) (by simp [results, Try.results17, go_sem, d0, d1, d2, d3, d4, d5, d6]) rfl ?_
              rw [HP.out]
              exact ⟨rfl, HKz.out⟩
            · have hl1 : decide ((1 : Int) < (d.size : Int)) = false := by simp; omega
              have HG := hide (fun ha => parse_good (neg := false) (d := codes d) (fun e => by rw [e] at hdl; have h2 : (0 : Nat) = d.size := hdl; omega) (by omega) (fun h => by rcases h.2 with h | h; cases h; omega) ha)
              have HB1 := hide (Blk.new w 26 #[.int .u8 0, .bool false, .slice none 0 0, .string { data := #[] }, .int .i64 0, .slice none 0 0, .slice none 0 0])
              have HK1 := hide ((Keeps.refl NoB w).alloc (.cells #[.int .u8 0, .bool false, .slice none 0 0, .string { data := #[] }, .int .i64 0, .slice none 0 0, .slice none 0 0] 26))
              generalize w.alloc (.cells #[.int .u8 0, .bool false, .slice none 0 0, .string { data := #[] }, .int .i64 0, .slice none 0 0, .slice none 0 0] 26) = w1 at *
              clear hc0 h1
              obtain ⟨i0, hi0, hz0, hz1, hz2⟩ := info_parts Try.info4
              clear hnd hl4
              have H0 := hide (RParAt.start w1 (codes d))
              go_wp2
              go_loopw [6, 7] (fun lv iv wr => ∃ (i V : Nat) (A : Option Addr) (k c : Nat), lv = .slice A k c ∧ iv = .int .i64 (i : Int) ∧ i ≤ d.size ∧ Hid (RParAt w1 (codes d) i V A k c wr)) (fun _ iv _ => d.size - (intOf iv).toNat)
              case atStart => exact ⟨0, 0, none, 0, 0, rfl, rfl, Nat.zero_le _, H0⟩
              case round =>
                obtain ⟨i, V, A, k, c, rfl, rfl, hi, HM⟩ := hrel
                have HBr := hide (HB1.out.keep HM.out.keep id)
                have HKr := hide (HK1.out.trans' HM.out.keep (fun _ _ h => h) (fun _ _ h => h))
                by_cases hlt : i < d.size
                · obtain ⟨C, hC⟩ : ∃ C, (codes d).getD i 0 = C := ⟨_, rfl⟩
                  have hgi := codes_get d i hlt
                  have hgi0 : (0 : Int) ≤ (i : Int) := by omega
                  have hgi1 : (i : Int) < (d.size : Int) := by omega
                  have hC2 : C < 256 := by
                    rw [← hC, List.getD_eq_getElem?_getD, List.getElem?_eq_getElem (by omega)]
                    exact codes_lt d _ (List.getElem_mem _)
                  rw [hC] at hgi
                  by_cases hgood : 48 ≤ C ∧ C ≤ 57
                  · have hdig : digitC C = true := by unfold digitC; rw [decide_eq_true hgood.1, decide_eq_true hgood.2]; rfl
                    obtain ⟨D, hD⟩ : ∃ D, D = C - 48 := ⟨_, rfl⟩
                    have hD1 : (C : Int) - 48 = (D : Int) := by omega
                    have hD2 : D < 10 := by omega
                    have c1 : decide (C < 48) = false := decide_eq_false (by omega)
                    have c2 : decide ((C : Int) < 48) = false := by simp; omega
                    have c3 : decide (57 < C) = false := decide_eq_false (by omega)
                    have c4 : decide ((57 : Int) < (C : Int)) = false := by simp; omega
                    have hk16 := HM.out.short (by omega)
                    have HDC := hide (show D = (codes d).getD i 0 - 48 from by rw [hC]; exact hD)
                    have HDG := hide (show digitC ((codes d).getD i 0) = true from by rw [hC]; exact hdig)
                    have HXS := hide HM.out.bits
                    have HIL := hide (show i < (codes d).length from by omega)
                    clear hgood hdig hC hD HBr HKr
                    obtain ⟨F, hrr⟩ := (HXS.out.keep ((Keeps.refl NoB wr).alloc (.cells #[.bool false] 4))).reads
                    have HRR := hide hrr
                    clear hrr
                    go_upto_region 14 with (at_builtin; go_must (refine wpList_append_reads _ rfl (.tmp 62) (.tmp 63) 48 rfl wr.heap.size 4 i0 _ 1 1 Try.underlying48 hi0 hz0 hz1 hz2 rfl (by omega) (.slice (some ⟨wr.heap.size, 0, none⟩) 1 1) 1 [.bool false] rfl ?z1 _ F A k c (bools (digB V)) rfl HRR.out (bools_ones _) ?z3 ?z4 ?z5 ?_))
                    case z1 => exact ⟨by simp, .inr ⟨wr.heap.size, 1, #[.bool false], rfl, Nat.le_refl _, heap_alloc_new wr _, Nat.le_refl _, by unfold maxLen; omega, rfl, rfl⟩⟩
                    case z3 => unfold maxLen; omega
                    case z4 => omega
                    case z5 => simp
                    intro v' w2 hown hg hbl
                    obtain ⟨Aw2, cw2, hv, hs⟩ := Slab.of_own hown
                    subst hv
                    have HKw2 := hide (((Keeps.refl NoB wr).alloc (.cells #[.bool false] 4)).grown hg (fun k h hk => by simp [Value.ownBlock] at h; omega) : Keeps NoB wr w2)
                    have HBw2 := hide ((BitsIn.of_slab (l := false :: digB V) hs).more (B' := fun _ => True) (fun k _ hr => trivial))
                    clear hown hg hbl hs HRR
                    have HXS2 := hide (HXS.out.keep HKw2.out)
                    obtain ⟨F, hrr⟩ := (HXS2.out.keep ((Keeps.refl NoB w2).alloc (.cells #[.bool false, .bool false, .bool false] 4))).reads
                    have HRR := hide hrr
                    clear hrr
                    go_upto_region 15 with (at_builtin; go_must (refine wpList_append_reads _ rfl (.tmp 65) (.tmp 66) 48 rfl w2.heap.size 4 i0 _ 1 1 Try.underlying48 hi0 hz0 hz1 hz2 rfl (by omega) (.slice (some ⟨w2.heap.size, 0, none⟩) 3 3) 3 [.bool false, .bool false, .bool false] rfl ?z1 _ F A k c (bools (digB V)) rfl HRR.out (bools_ones _) ?z3 ?z4 ?z5 ?_))
                    case z1 => exact ⟨by simp, .inr ⟨w2.heap.size, 3, #[.bool false, .bool false, .bool false], rfl, Nat.le_refl _, heap_alloc_new w2 _, Nat.le_refl _, by unfold maxLen; omega, rfl, rfl⟩⟩
                    case z3 => unfold maxLen; omega
                    case z4 => omega
                    case z5 => simp
                    intro v' w3 hown hg hbl
                    obtain ⟨Aw3, cw3, hv, hs⟩ := Slab.of_own hown
                    subst hv
                    have HKw3 := hide (((Keeps.refl NoB w2).alloc (.cells #[.bool false, .bool false, .bool false] 4)).grown hg (fun k h hk => by simp [Value.ownBlock] at h; omega) : Keeps NoB w2 w3)
                    have HBw3 := hide ((BitsIn.of_slab (l := false :: false :: false :: digB V) hs).more (B' := fun _ => True) (fun k _ hr => trivial))
                    clear hown hg hbl hs HRR
                    have HBW2 := hide (HBw2.out.keep HKw3.out)
                    go_wp2_with first | (go_at_call 21; refine (rof_any (D : Int) (by omega) (by omega) w3).mono ?_; rintro e w4 ⟨ng, AD, nD, cD, rfl, hi4, hk4⟩; have hka := hk4.alloc (.cells #[.int .u8 1, .bool ng, .slice AD nD cD, .string { data := #[] }, .int .i64 0, .slice none 0 0, .slice none 0 0] 26); have HI4 := hide (hi4.keep ((Keeps.refl NoB w4).alloc (.cells #[.int .u8 1, .bool ng, .slice AD nD cD, .string { data := #[] }, .int .i64 0, .slice none 0 0, .slice none 0 0] 26))); have HN4 := hide (Blk.new w4 26 #[.int .u8 1, .bool ng, .slice AD nD cD, .string { data := #[] }, .int .i64 0, .slice none 0 0, .slice none 0 0]); have HT4 := hide (HBW2.out.keep hka); have HE4 := hide (HBw3.out.keep hka); have HK4 := hide ((HKw2.out.trans' HKw3.out (fun _ _ h => h) (fun _ _ h => h)).trans' hka (fun _ _ h => h) (fun _ _ h => h)); clear hi4 hk4 hka HBW2 HBw2 HBw3 HXS HXS2 HKw2 HKw3) | fail
                    obtain ⟨w5, hw5⟩ : ∃ w5, w4.alloc (.cells #[.int .u8 1, .bool ng, .slice AD nD cD, .string { data := #[] }, .int .i64 0, .slice none 0 0, .slice none 0 0] 26) = w5 := ⟨_, rfl⟩
                    rw [hw5] at HI4 HN4 HT4 HE4 HK4 ⊢
                    clear hw5
                    refine order_begin (fun W => Keeps NoB w5.drew W) (fun _ => true) (by kernel_rfl) 7 rfl ?_
                    have BN := hide HN4.out.drew
                    have BI := hide (HI4.out.keep (Keeps.refl NoB w5).drew); have BT := hide (HT4.out.keep (Keeps.refl NoB w5).drew); have BE := hide (HE4.out.keep (Keeps.refl NoB w5).drew)
                    have HKD := hide HK4.out.drew
                    generalize w5.drew = W0 at *
                    have HS : Keeps NoB W0 W0 := Keeps.refl _ _
                    refine order_pure (i := 0) rfl (by kernel_rfl) (fun _ _ _ h => h) (.inl ⟨rfl, fun _ => by go_simp; rfl⟩) ?_
                    try simp only [Act.put, List.setIfInBounds_toArray, List.set_cons_succ, List.set_cons_zero]
                    refine order_pure (i := 1) rfl (by kernel_rfl) (fun _ _ _ h => h) (.inl ⟨rfl, fun _ => by go_simp; rfl⟩) ?_
                    try simp only [Act.put, List.setIfInBounds_toArray, List.set_cons_succ, List.set_cons_zero]
                    refine order_held (i := 3) rfl (by kernel_rfl) (fun _ _ _ h => h) (.inl ⟨rfl, fun W hW => by
                      have q0 : W.cell? ⟨w4.heap.size, 0, none⟩ = some (.int .u8 1) := hW.cell id (BN.out.cell 0)
                      have q1 : W.cell? ⟨w4.heap.size, 1, none⟩ = some (.bool ng) := hW.cell id (BN.out.cell 1)
                      have q2 : W.cell? ⟨w4.heap.size, 2, none⟩ = some (.slice AD nD cD) := hW.cell id (BN.out.cell 2)
                      have q3 : W.cell? ⟨w4.heap.size, 3, none⟩ = some (.string { data := #[] }) := hW.cell id (BN.out.cell 3)
                      have q4 : W.cell? ⟨w4.heap.size, 4, none⟩ = some (.int .i64 0) := hW.cell id (BN.out.cell 4)
                      have q5 : W.cell? ⟨w4.heap.size, 5, none⟩ = some (.slice none 0 0) := hW.cell id (BN.out.cell 5)
                      have q6 : W.cell? ⟨w4.heap.size, 6, none⟩ = some (.slice none 0 0) := hW.cell id (BN.out.cell 6)
                      go_simp; rfl⟩) HS ?_
                    try simp only [Act.put, List.setIfInBounds_toArray, List.set_cons_succ, List.set_cons_zero]
                    clear HS
                    have HS1 := hide (bsum_any Aw2 Aw3 (1 + k) cw2 (3 + k) cw3 (max (1 + k) (3 + k)) _ _ W0 _ _ BT.out BE.out rfl (by omega))
                    rw [show natB (false :: digB V) + natB (false :: false :: false :: digB V) = 10 * V from by simp only [natB_cons, natB_dig]; simp; omega] at HS1
                    refine order_one (i := 2) rfl (by kernel_rfl) (fun K hK => ?_)
                    go_simp
                    refine HS1.out.mono ?_
                    rintro e V1 ⟨A1, n1, c1, rfl, hn1, hb1, hk1⟩
                    refine hK _ _ (fun _ hS => hS.trans' hk1 (fun _ _ => id) (fun _ _ => id)) ?_
                    clear hK
                    have HN1 := hide hn1; have HB1' := hide hb1; have HK1' := hide hk1
                    clear hn1 hb1 hk1
                    try simp only [Act.put, List.setIfInBounds_toArray, List.set_cons_succ, List.set_cons_zero]
                    refine order_one (i := 4) rfl (by kernel_rfl) (fun K hK => ?_)
                    go_simp
                    refine (bits_any _ _ _ _ _ _ _ _ _ V1 _ (BI.out.keep HK1'.out)).mono ?_
                    rintro e V2 ⟨A2, n2, c2, rfl, hn2, hb2, hk2⟩
                    refine hK _ _ (fun _ hS => hS.trans' hk2 (fun _ _ => id) (fun _ _ => id)) ?_
                    clear hK
                    have HN2 := hide hn2; have HB2' := hide hb2; have HK2' := hide hk2
                    clear hn2 hb2 hk2
                    try simp only [Act.put, List.setIfInBounds_toArray, List.set_cons_succ, List.set_cons_zero]
                    have hn1 : n1 ≤ 2000 := by rw [HN1.out]; have h1 := (lenB_ten V).2.2; have h2 := HM.out.len; omega
                    have hn2 : n2 ≤ 2000 := by rw [HN2.out]; exact Nat.le_trans (lenB_le (k := 10).2 (by simp; omega)) (by omega)
                    have HS2 := hide (bsum_any A1 A2 n1 c1 n2 c2 (max n1 n2) _ _ V2 _ _ (HB1'.out.keep HK2'.out) HB2'.out rfl (by omega))
                    rw [natB_dig, natB_dig, Int.natAbs_natCast] at HS2
                    clear hn1 hn2
                    refine order_one (i := 5) rfl (by kernel_rfl) (fun K hK => ?_)
                    go_simp
                    refine HS2.out.mono ?_
                    rintro e V3 ⟨A3, n3, c3, rfl, hn3, hb3, hk3⟩
                    refine hK _ _ (fun _ hS => hS.trans' hk3 (fun _ _ => id) (fun _ _ => id)) ?_
                    clear hK
                    have HST := hide (HM.out.next (((HKD.out.trans' HK1'.out (fun _ _ h => h) (fun _ _ h => h)).trans' HK2'.out (fun _ _ h => h) (fun _ _ h => h)).trans' hk3 (fun _ _ h => h) (fun _ _ h => h)) HIL.out HDC.out hD2 HDG.out hn3 (hb3.more (B' := fun _ => True) (fun _ _ _ => trivial)))
                    clear hn3 hb3 hk3
                    try simp only [Act.put, List.setIfInBounds_toArray, List.set_cons_succ, List.set_cons_zero]
                    refine order_pure (i := 6) rfl (by kernel_rfl) (fun _ _ _ h => h) (.inl ⟨rfl, fun _ => by go_simp; rfl⟩) ?_
                    try simp only [Act.put, List.setIfInBounds_toArray, List.set_cons_succ, List.set_cons_zero]
                    refine order_done (by kernel_rfl) ?_
                    go_wp2
                    go_roundw
                    case rel => exact ⟨i + 1, 10 * V + D, A3, n3, c3, rfl, rfl, by omega, HST⟩
                    case measure => simp [intOf]; omega
                  · have hbad : digitC C = false := by
                      unfold digitC
                      by_cases h48 : 48 ≤ C
                      · rw [decide_eq_false (p := C ≤ 57) (fun h => hgood ⟨h48, h⟩), Bool.and_false]
                      · rw [decide_eq_false h48, Bool.false_and]
                    have HP := hide (parse_nodigit (neg := false) (d := codes d) (i := i) (by omega) (hC ▸ hbad))
                    have hgs : w.heap.size ≤ w.heap.size := Nat.le_refl _
                    have z0 : wr.cell? ⟨w.heap.size, 0, none⟩ = some (.int .u8 0) := HBr.out.cell 0; have z1 : wr.cell? ⟨w.heap.size, 1, none⟩ = some (.bool false) := HBr.out.cell 1; have z2 : wr.cell? ⟨w.heap.size, 2, none⟩ = some (.slice none 0 0) := HBr.out.cell 2; have z3 : wr.cell? ⟨w.heap.size, 3, none⟩ = some (.string { data := #[] }) := HBr.out.cell 3; have z4 : wr.cell? ⟨w.heap.size, 4, none⟩ = some (.int .i64 0) := HBr.out.cell 4; have z5 : wr.cell? ⟨w.heap.size, 5, none⟩ = some (.slice none 0 0) := HBr.out.cell 5; have z6 : wr.cell? ⟨w.heap.size, 6, none⟩ = some (.slice none 0 0) := HBr.out.cell 6
                    have f0 : wr.frozen? ⟨w.heap.size, 0, none⟩ = false := HBr.out.free 0; have f1 : wr.frozen? ⟨w.heap.size, 1, none⟩ = false := HBr.out.free 1; have f2 : wr.frozen? ⟨w.heap.size, 2, none⟩ = false := HBr.out.free 2; have f3 : wr.frozen? ⟨w.heap.size, 3, none⟩ = false := HBr.out.free 3; have f4 : wr.frozen? ⟨w.heap.size, 4, none⟩ = false := HBr.out.free 4; have f5 : wr.frozen? ⟨w.heap.size, 5, none⟩ = false := HBr.out.free 5; have f6 : wr.frozen? ⟨w.heap.size, 6, none⟩ = false := HBr.out.free 6
                    by_cases h48 : C < 48
                    · have c1 : decide (C < 48) = true := decide_eq_true h48
                      have c2 : decide ((C : Int) < 48) = true := by simp; omega
                      clear hgood hbad hC h48
                      go_wp2
                      have HBf := hide (HBr.out.put7 (.int .u8 0) (.bool false) (.slice none 0 0) (.string { data := #[] }) (.int .i64 0) (.slice none 0 0) (.slice none 0 0))
                      have HKf := hide (HKr.out.set7 (g := w.heap.size) (by omega) (.int .u8 0) (.bool false) (.slice none 0 0) (.string { data := #[] }) (.int .i64 0) (.slice none 0 0) (.slice none 0 0))
                      clear z0 z1 z2 z3 z4 z5 z6 f0 f1 f2 f3 f4 f5 f6 HBr HKr
                      generalize (((((((wr.setCell ⟨w.heap.size, 0, none⟩ (.int .u8 0)).setCell ⟨w.heap.size, 1, none⟩ (.bool false)).setCell ⟨w.heap.size, 2, none⟩ (.slice none 0 0)).setCell ⟨w.heap.size, 3, none⟩ (.string { data := #[] })).setCell ⟨w.heap.size, 4, none⟩ (.int .i64 0)).setCell ⟨w.heap.size, 5, none⟩ (.slice none 0 0)).setCell ⟨w.heap.size, 6, none⟩ (.slice none 0 0)) = wf at *
                      have d0 : wf.cell? ⟨w.heap.size, 0, none⟩ = some (.int .u8 0) := HBf.out.cell 0
                      have d1 : wf.cell? ⟨w.heap.size, 1, none⟩ = some (.bool false) := HBf.out.cell 1
                      have d2 : wf.cell? ⟨w.heap.size, 2, none⟩ = some (.slice none 0 0) := HBf.out.cell 2
                      have d3 : wf.cell? ⟨w.heap.size, 3, none⟩ = some (.string { data := #[] }) := HBf.out.cell 3
                      have d4 : wf.cell? ⟨w.heap.size, 4, none⟩ = some (.int .i64 0) := HBf.out.cell 4
                      have d5 : wf.cell? ⟨w.heap.size, 5, none⟩ = some (.slice none 0 0) := HBf.out.cell 5
                      have d6 : wf.cell? ⟨w.heap.size, 6, none⟩ = some (.slice none 0 0) := HBf.out.cell 6
                      refine bodyPost_ret (v := .tuple #[.agg #[.int .u8 0, .bool false, .slice none 0 0, .string { data := #[] }, .int .i64 0, .slice none 0 0, .slice none 0 0], .bool false]) (by simp [results, Try.results17, go_sem, d0, d1, d2, d3, d4, d5, d6]) rfl ?_
                      rw [HP.out]
                      exact ⟨rfl, HKf.out⟩
                    · have c1 : decide (C < 48) = false := decide_eq_false h48
                      have c2 : decide ((C : Int) < 48) = false := by simp; omega
                      have c3 : decide (57 < C) = true := decide_eq_true (by omega)
                      have c4 : decide ((57 : Int) < (C : Int)) = true := by simp; omega
                      clear hgood hbad hC h48
                      go_wp2
                      have HBf := hide (HBr.out.put7 (.int .u8 0) (.bool false) (.slice none 0 0) (.string { data := #[] }) (.int .i64 0) (.slice none 0 0) (.slice none 0 0))
                      have HKf := hide (HKr.out.set7 (g := w.heap.size) (by omega) (.int .u8 0) (.bool false) (.slice none 0 0) (.string { data := #[] }) (.int .i64 0) (.slice none 0 0) (.slice none 0 0))
                      clear z0 z1 z2 z3 z4 z5 z6 f0 f1 f2 f3 f4 f5 f6 HBr HKr
                      generalize (((((((wr.setCell ⟨w.heap.size, 0, none⟩ (.int .u8 0)).setCell ⟨w.heap.size, 1, none⟩ (.bool false)).setCell ⟨w.heap.size, 2, none⟩ (.slice none 0 0)).setCell ⟨w.heap.size, 3, none⟩ (.string { data := #[] })).setCell ⟨w.heap.size, 4, none⟩ (.int .i64 0)).setCell ⟨w.heap.size, 5, none⟩ (.slice none 0 0)).setCell ⟨w.heap.size, 6, none⟩ (.slice none 0 0)) = wf at *
                      have d0 : wf.cell? ⟨w.heap.size, 0, none⟩ = some (.int .u8 0) := HBf.out.cell 0
                      have d1 : wf.cell? ⟨w.heap.size, 1, none⟩ = some (.bool false) := HBf.out.cell 1
                      have d2 : wf.cell? ⟨w.heap.size, 2, none⟩ = some (.slice none 0 0) := HBf.out.cell 2
                      have d3 : wf.cell? ⟨w.heap.size, 3, none⟩ = some (.string { data := #[] }) := HBf.out.cell 3
                      have d4 : wf.cell? ⟨w.heap.size, 4, none⟩ = some (.int .i64 0) := HBf.out.cell 4
                      have d5 : wf.cell? ⟨w.heap.size, 5, none⟩ = some (.slice none 0 0) := HBf.out.cell 5
                      have d6 : wf.cell? ⟨w.heap.size, 6, none⟩ = some (.slice none 0 0) := HBf.out.cell 6
                      refine bodyPost_ret (v := .tuple #[.agg #[.int .u8 0, .bool false, .slice none 0 0, .string { data := #[] }, .int .i64 0, .slice none 0 0, .slice none 0 0], .bool false]) (by simp [results, Try.results17, go_sem, d0, d1, d2, d3, d4, d5, d6]) rfl ?_
                      rw [HP.out]
                      exact ⟨rfl, HKf.out⟩
                · obtain rfl : i = d.size := by omega
                  have HV := hide (show V = says 0 ((codes d).map (· - 48)) from by
                    rw [HM.out.val, List.take_of_length_le (by omega)])
                  have HP := hide (HG.out (all_digits (fun j hj => HM.out.good j (by omega))))
                  have hk16 := HM.out.short (by omega)
                  have HMD := hide (rmade_any A k c false _ wr _ HM.out.bits (by omega))
                  have hgs : w.heap.size < wr.heap.size := HBr.out.lt
                  rw [natB_dig, HV.out] at HMD
                  clear HM HG
                  go_wp2_with (go_at_call 38; refine HMD.out.mono ?_; rintro e w5 ⟨kd, ng, A, n, c, ok, rfl, hr, hk⟩; have HB5 := hide (HBr.out.keep hk id); have HA5 := hide hr; have HK6 := hide (HKr.out.trans' hk (fun _ _ => id) (fun _ _ => id)); clear hr hk; have z0 : w5.cell? ⟨w.heap.size, 0, none⟩ = some (.int .u8 0) := HB5.out.cell 0; have z1 : w5.cell? ⟨w.heap.size, 1, none⟩ = some (.bool false) := HB5.out.cell 1; have z2 : w5.cell? ⟨w.heap.size, 2, none⟩ = some (.slice none 0 0) := HB5.out.cell 2; have z3 : w5.cell? ⟨w.heap.size, 3, none⟩ = some (.string { data := #[] }) := HB5.out.cell 3; have z4 : w5.cell? ⟨w.heap.size, 4, none⟩ = some (.int .i64 0) := HB5.out.cell 4; have z5 : w5.cell? ⟨w.heap.size, 5, none⟩ = some (.slice none 0 0) := HB5.out.cell 5; have z6 : w5.cell? ⟨w.heap.size, 6, none⟩ = some (.slice none 0 0) := HB5.out.cell 6; have f0 : w5.frozen? ⟨w.heap.size, 0, none⟩ = false := HB5.out.free 0; have f1 : w5.frozen? ⟨w.heap.size, 1, none⟩ = false := HB5.out.free 1; have f2 : w5.frozen? ⟨w.heap.size, 2, none⟩ = false := HB5.out.free 2; have f3 : w5.frozen? ⟨w.heap.size, 3, none⟩ = false := HB5.out.free 3; have f4 : w5.frozen? ⟨w.heap.size, 4, none⟩ = false := HB5.out.free 4; have f5 : w5.frozen? ⟨w.heap.size, 5, none⟩ = false := HB5.out.free 5; have f6 : w5.frozen? ⟨w.heap.size, 6, none⟩ = false := HB5.out.free 6)
                  rw [HP.out]
                  have HBf := hide (HB5.out.put7 (.int .u8 kd) (.bool ng) (.slice A n c) (.string { data := #[] }) (.int .i64 0) (.slice none 0 0) (.slice none 0 0))
                  have HKf := hide (HK6.out.set7 (g := w.heap.size) (by omega) (.int .u8 kd) (.bool ng) (.slice A n c) (.string { data := #[] }) (.int .i64 0) (.slice none 0 0) (.slice none 0 0))
                  have HAf := hide ((HA5.out.far (Keeps.set7' (g := w.heap.size) (.int .u8 kd) (.bool ng) (.slice A n c) (.string { data := #[] }) (.int .i64 0) (.slice none 0 0) (.slice none 0 0)) (fun k hk e => by first | omega | (simp at hk; omega))).more (B' := fun k => w.heap.size ≤ k) (fun k _ hk => by first | omega | (simp at hk; omega)))
                  clear z0 z1 z2 z3 z4 z5 z6 f0 f1 f2 f3 f4 f5 f6 HB5 HK6 HA5
                  generalize (((((((w5.setCell ⟨w.heap.size, 0, none⟩ (.int .u8 kd)).setCell ⟨w.heap.size, 1, none⟩ (.bool ng)).setCell ⟨w.heap.size, 2, none⟩ (.slice A n c)).setCell ⟨w.heap.size, 3, none⟩ (.string { data := #[] })).setCell ⟨w.heap.size, 4, none⟩ (.int .i64 0)).setCell ⟨w.heap.size, 5, none⟩ (.slice none 0 0)).setCell ⟨w.heap.size, 6, none⟩ (.slice none 0 0)) = wf at *
                  have d0 : wf.cell? ⟨w.heap.size, 0, none⟩ = some (.int .u8 kd) := HBf.out.cell 0
                  have d1 : wf.cell? ⟨w.heap.size, 1, none⟩ = some (.bool ng) := HBf.out.cell 1
                  have d2 : wf.cell? ⟨w.heap.size, 2, none⟩ = some (.slice A n c) := HBf.out.cell 2
                  have d3 : wf.cell? ⟨w.heap.size, 3, none⟩ = some (.string { data := #[] }) := HBf.out.cell 3
                  have d4 : wf.cell? ⟨w.heap.size, 4, none⟩ = some (.int .i64 0) := HBf.out.cell 4
                  have d5 : wf.cell? ⟨w.heap.size, 5, none⟩ = some (.slice none 0 0) := HBf.out.cell 5
                  have d6 : wf.cell? ⟨w.heap.size, 6, none⟩ = some (.slice none 0 0) := HBf.out.cell 6
                  refine bodyPost_ret (v := .tuple #[.agg #[.int .u8 kd, .bool ng, .slice A n c, .string { data := #[] }, .int .i64 0, .slice none 0 0, .slice none 0 0], .bool ok]) (by simp [results, Try.results17, go_sem, d0, d1, d2, d3, d4, d5, d6]) rfl ?_
                  exact ⟨kd, ng, A, n, c, ok, rfl, HAf.out, HKf.out⟩
          · have hb3 : (c0 == 48) = false := by simp; exact h48
            have hb4 : ((c0 : Int) == 48) = false := by simp; omega
            have HG := hide (fun ha => parse_good (neg := false) (d := codes d) (fun e => by rw [e] at hdl; have h2 : (0 : Nat) = d.size := hdl; omega) (by omega) (fun h => h48 (hc0.symm.trans h.1)) ha)
            have HB1 := hide (Blk.new w 26 #[.int .u8 0, .bool false, .slice none 0 0, .string { data := #[] }, .int .i64 0, .slice none 0 0, .slice none 0 0])
            have HK1 := hide ((Keeps.refl NoB w).alloc (.cells #[.int .u8 0, .bool false, .slice none 0 0, .string { data := #[] }, .int .i64 0, .slice none 0 0, .slice none 0 0] 26))
            generalize w.alloc (.cells #[.int .u8 0, .bool false, .slice none 0 0, .string { data := #[] }, .int .i64 0, .slice none 0 0, .slice none 0 0] 26) = w1 at *
            clear hc0 h48
            obtain ⟨i0, hi0, hz0, hz1, hz2⟩ := info_parts Try.info4
            clear hnd hl4
            have H0 := hide (RParAt.start w1 (codes d))
            go_wp2
            go_loopw [6, 7] (fun lv iv wr => ∃ (i V : Nat) (A : Option Addr) (k c : Nat), lv = .slice A k c ∧ iv = .int .i64 (i : Int) ∧ i ≤ d.size ∧ Hid (RParAt w1 (codes d) i V A k c wr)) (fun _ iv _ => d.size - (intOf iv).toNat)
            case atStart => exact ⟨0, 0, none, 0, 0, rfl, rfl, Nat.zero_le _, H0⟩
            case round =>
              obtain ⟨i, V, A, k, c, rfl, rfl, hi, HM⟩ := hrel
              have HBr := hide (HB1.out.keep HM.out.keep id)
              have HKr := hide (HK1.out.trans' HM.out.keep (fun _ _ h => h) (fun _ _ h => h))
              by_cases hlt : i < d.size
              · obtain ⟨C, hC⟩ : ∃ C, (codes d).getD i 0 = C := ⟨_, rfl⟩
                have hgi := codes_get d i hlt
                have hgi0 : (0 : Int) ≤ (i : Int) := by omega
                have hgi1 : (i : Int) < (d.size : Int) := by omega
                have hC2 : C < 256 := by
                  rw [← hC, List.getD_eq_getElem?_getD, List.getElem?_eq_getElem (by omega)]
                  exact codes_lt d _ (List.getElem_mem _)
                rw [hC] at hgi
                by_cases hgood : 48 ≤ C ∧ C ≤ 57
                · have hdig : digitC C = true := by unfold digitC; rw [decide_eq_true hgood.1, decide_eq_true hgood.2]; rfl
                  obtain ⟨D, hD⟩ : ∃ D, D = C - 48 := ⟨_, rfl⟩
                  have hD1 : (C : Int) - 48 = (D : Int) := by omega
                  have hD2 : D < 10 := by omega
                  have c1 : decide (C < 48) = false := decide_eq_false (by omega)
                  have c2 : decide ((C : Int) < 48) = false := by simp; omega
                  have c3 : decide (57 < C) = false := decide_eq_false (by omega)
                  have c4 : decide ((57 : Int) < (C : Int)) = false := by simp; omega
                  have hk16 := HM.out.short (by omega)
                  have HDC := hide (show D = (codes d).getD i 0 - 48 from by rw [hC]; exact hD)
                  have HDG := hide (show digitC ((codes d).getD i 0) = true from by rw [hC]; exact hdig)
                  have HXS := hide HM.out.bits
                  have HIL := hide (show i < (codes d).length from by omega)
                  clear hgood hdig hC hD HBr HKr
                  obtain ⟨F, hrr⟩ := (HXS.out.keep ((Keeps.refl NoB wr).alloc (.cells #[.bool false] 4))).reads
                  have HRR := hide hrr
                  clear hrr
                  go_upto_region 14 with (at_builtin; go_must (refine wpList_append_reads _ rfl (.tmp 62) (.tmp 63) 48 rfl wr.heap.size 4 i0 _ 1 1 Try.underlying48 hi0 hz0 hz1 hz2 rfl (by omega) (.slice (some ⟨wr.heap.size, 0, none⟩) 1 1) 1 [.bool false] rfl ?z1 _ F A k c (bools (digB V)) rfl HRR.out (bools_ones _) ?z3 ?z4 ?z5 ?_))
                  case z1 => exact ⟨by simp, .inr ⟨wr.heap.size, 1, #[.bool false], rfl, Nat.le_refl _, heap_alloc_new wr _, Nat.le_refl _, by unfold maxLen; omega, rfl, rfl⟩⟩
                  case z3 => unfold maxLen; omega
                  case z4 => omega
                  case z5 => simp
                  intro v' w2 hown hg hbl
                  obtain ⟨Aw2, cw2, hv, hs⟩ := Slab.of_own hown
                  subst hv
                  have HKw2 := hide (((Keeps.refl NoB wr).alloc (.cells #[.bool false] 4)).grown hg (fun k h hk => by simp [Value.ownBlock] at h; omega) : Keeps NoB wr w2)
                  have HBw2 := hide ((BitsIn.of_slab (l := false :: digB V) hs).more (B' := fun _ => True) (fun k _ hr => trivial))
                  clear hown hg hbl hs HRR
                  have HXS2 := hide (HXS.out.keep HKw2.out)
                  obtain ⟨F, hrr⟩ := (HXS2.out.keep ((Keeps.refl NoB w2).alloc (.cells #[.bool false, .bool false, .bool false] 4))).reads
                  have HRR := hide hrr
                  clear hrr
                  go_upto_region 15 with (at_builtin; go_must (refine wpList_append_reads _ rfl (.tmp 65) (.tmp 66) 48 rfl w2.heap.size 4 i0 _ 1 1 Try.underlying48 hi0 hz0 hz1 hz2 rfl (by omega) (.slice (some ⟨w2.heap.size, 0, none⟩) 3 3) 3 [.bool false, .bool false, .bool false] rfl ?z1 _ F A k c (bools (digB V)) rfl HRR.out (bools_ones _) ?z3 ?z4 ?z5 ?_))
                  case z1 => exact ⟨by simp, .inr ⟨w2.heap.size, 3, #[.bool false, .bool false, .bool false], rfl, Nat.le_refl _, heap_alloc_new w2 _, Nat.le_refl _, by unfold maxLen; omega, rfl, rfl⟩⟩
                  case z3 => unfold maxLen; omega
                  case z4 => omega
                  case z5 => simp
                  intro v' w3 hown hg hbl
                  obtain ⟨Aw3, cw3, hv, hs⟩ := Slab.of_own hown
                  subst hv
                  have HKw3 := hide (((Keeps.refl NoB w2).alloc (.cells #[.bool false, .bool false, .bool false] 4)).grown hg (fun k h hk => by simp [Value.ownBlock] at h; omega) : Keeps NoB w2 w3)
                  have HBw3 := hide ((BitsIn.of_slab (l := false :: false :: false :: digB V) hs).more (B' := fun _ => True) (fun k _ hr => trivial))
                  clear hown hg hbl hs HRR
                  have HBW2 := hide (HBw2.out.keep HKw3.out)
                  go_wp2_with first | (go_at_call 21; refine (rof_any (D : Int) (by omega) (by omega) w3).mono ?_; rintro e w4 ⟨ng, AD, nD, cD, rfl, hi4, hk4⟩; have hka := hk4.alloc (.cells #[.int .u8 1, .bool ng, .slice AD nD cD, .string { data := #[] }, .int .i64 0, .slice none 0 0, .slice none 0 0] 26); have HI4 := hide (hi4.keep ((Keeps.refl NoB w4).alloc (.cells #[.int .u8 1, .bool ng, .slice AD nD cD, .string { data := #[] }, .int .i64 0, .slice none 0 0, .slice none 0 0] 26))); have HN4 := hide (Blk.new w4 26 #[.int .u8 1, .bool ng, .slice AD nD cD, .string { data := #[] }, .int .i64 0, .slice none 0 0, .slice none 0 0]); have HT4 := hide (HBW2.out.keep hka); have HE4 := hide (HBw3.out.keep hka); have HK4 := hide ((HKw2.out.trans' HKw3.out (fun _ _ h => h) (fun _ _ h => h)).trans' hka (fun _ _ h => h) (fun _ _ h => h)); clear hi4 hk4 hka HBW2 HBw2 HBw3 HXS HXS2 HKw2 HKw3) | fail
                  obtain ⟨w5, hw5⟩ : ∃ w5, w4.alloc (.cells #[.int .u8 1, .bool ng, .slice AD nD cD, .string { data := #[] }, .int .i64 0, .slice none 0 0, .slice none 0 0] 26) = w5 := ⟨_, rfl⟩
                  rw [hw5] at HI4 HN4 HT4 HE4 HK4 ⊢
                  clear hw5
                  refine order_begin (fun W => Keeps NoB w5.drew W) (fun _ => true) (by kernel_rfl) 7 rfl ?_
                  have BN := hide HN4.out.drew
                  have BI := hide (HI4.out.keep (Keeps.refl NoB w5).drew); have BT := hide (HT4.out.keep (Keeps.refl NoB w5).drew); have BE := hide (HE4.out.keep (Keeps.refl NoB w5).drew)
                  have HKD := hide HK4.out.drew
                  generalize w5.drew = W0 at *
                  have HS : Keeps NoB W0 W0 := Keeps.refl _ _
                  refine order_pure (i := 0) rfl (by kernel_rfl) (fun _ _ _ h => h) (.inl ⟨rfl, fun _ => by go_simp; rfl⟩) ?_
                  try simp only [Act.put, List.setIfInBounds_toArray, List.set_cons_succ, List.set_cons_zero]
                  refine order_pure (i := 1) rfl (by kernel_rfl) (fun _ _ _ h => h) (.inl ⟨rfl, fun _ => by go_simp; rfl⟩) ?_
                  try simp only [Act.put, List.setIfInBounds_toArray, List.set_cons_succ, List.set_cons_zero]
                  refine order_held (i := 3) rfl (by kernel_rfl) (fun _ _ _ h => h) (.inl ⟨rfl, fun W hW => by
                    have q0 : W.cell? ⟨w4.heap.size, 0, none⟩ = some (.int .u8 1) := hW.cell id (BN.out.cell 0)
                    have q1 : W.cell? ⟨w4.heap.size, 1, none⟩ = some (.bool ng) := hW.cell id (BN.out.cell 1)
                    have q2 : W.cell? ⟨w4.heap.size, 2, none⟩ = some (.slice AD nD cD) := hW.cell id (BN.out.cell 2)
                    have q3 : W.cell? ⟨w4.heap.size, 3, none⟩ = some (.string { data := #[] }) := hW.cell id (BN.out.cell 3)
                    have q4 : W.cell? ⟨w4.heap.size, 4, none⟩ = some (.int .i64 0) := hW.cell id (BN.out.cell 4)
                    have q5 : W.cell? ⟨w4.heap.size, 5, none⟩ = some (.slice none 0 0) := hW.cell id (BN.out.cell 5)
                    have q6 : W.cell? ⟨w4.heap.size, 6, none⟩ = some (.slice none 0 0) := hW.cell id (BN.out.cell 6)
                    go_simp; rfl⟩) HS ?_
                  try simp only [Act.put, List.setIfInBounds_toArray, List.set_cons_succ, List.set_cons_zero]
                  clear HS
                  have HS1 := hide (bsum_any Aw2 Aw3 (1 + k) cw2 (3 + k) cw3 (max (1 + k) (3 + k)) _ _ W0 _ _ BT.out BE.out rfl (by omega))
                  rw [show natB (false :: digB V) + natB (false :: false :: false :: digB V) = 10 * V from by simp only [natB_cons, natB_dig]; simp; omega] at HS1
                  refine order_one (i := 2) rfl (by kernel_rfl) (fun K hK => ?_)
                  go_simp
                  refine HS1.out.mono ?_
                  rintro e V1 ⟨A1, n1, c1, rfl, hn1, hb1, hk1⟩
                  refine hK _ _ (fun _ hS => hS.trans' hk1 (fun _ _ => id) (fun _ _ => id)) ?_
                  clear hK
                  have HN1 := hide hn1; have HB1' := hide hb1; have HK1' := hide hk1
                  clear hn1 hb1 hk1
                  try simp only [Act.put, List.setIfInBounds_toArray, List.set_cons_succ, List.set_cons_zero]
                  refine order_one (i := 4) rfl (by kernel_rfl) (fun K hK => ?_)
                  go_simp
                  refine (bits_any _ _ _ _ _ _ _ _ _ V1 _ (BI.out.keep HK1'.out)).mono ?_
                  rintro e V2 ⟨A2, n2, c2, rfl, hn2, hb2, hk2⟩
                  refine hK _ _ (fun _ hS => hS.trans' hk2 (fun _ _ => id) (fun _ _ => id)) ?_
                  clear hK
                  have HN2 := hide hn2; have HB2' := hide hb2; have HK2' := hide hk2
                  clear hn2 hb2 hk2
                  try simp only [Act.put, List.setIfInBounds_toArray, List.set_cons_succ, List.set_cons_zero]
                  have hn1 : n1 ≤ 2000 := by rw [HN1.out]; have h1 := (lenB_ten V).2.2; have h2 := HM.out.len; omega
                  have hn2 : n2 ≤ 2000 := by rw [HN2.out]; exact Nat.le_trans (lenB_le (k := 10).2 (by simp; omega)) (by omega)
                  have HS2 := hide (bsum_any A1 A2 n1 c1 n2 c2 (max n1 n2) _ _ V2 _ _ (HB1'.out.keep HK2'.out) HB2'.out rfl (by omega))
                  rw [natB_dig, natB_dig, Int.natAbs_natCast] at HS2
                  clear hn1 hn2
                  refine order_one (i := 5) rfl (by kernel_rfl) (fun K hK => ?_)
                  go_simp
                  refine HS2.out.mono ?_
                  rintro e V3 ⟨A3, n3, c3, rfl, hn3, hb3, hk3⟩
                  refine hK _ _ (fun _ hS => hS.trans' hk3 (fun _ _ => id) (fun _ _ => id)) ?_
                  clear hK
                  have HST := hide (HM.out.next (((HKD.out.trans' HK1'.out (fun _ _ h => h) (fun _ _ h => h)).trans' HK2'.out (fun _ _ h => h) (fun _ _ h => h)).trans' hk3 (fun _ _ h => h) (fun _ _ h => h)) HIL.out HDC.out hD2 HDG.out hn3 (hb3.more (B' := fun _ => True) (fun _ _ _ => trivial)))
                  clear hn3 hb3 hk3
                  try simp only [Act.put, List.setIfInBounds_toArray, List.set_cons_succ, List.set_cons_zero]
                  refine order_pure (i := 6) rfl (by kernel_rfl) (fun _ _ _ h => h) (.inl ⟨rfl, fun _ => by go_simp; rfl⟩) ?_
                  try simp only [Act.put, List.setIfInBounds_toArray, List.set_cons_succ, List.set_cons_zero]
                  refine order_done (by kernel_rfl) ?_
                  go_wp2
                  go_roundw
                  case rel => exact ⟨i + 1, 10 * V + D, A3, n3, c3, rfl, rfl, by omega, HST⟩
                  case measure => simp [intOf]; omega
                · have hbad : digitC C = false := by
                    unfold digitC
                    by_cases h48 : 48 ≤ C
                    · rw [decide_eq_false (p := C ≤ 57) (fun h => hgood ⟨h48, h⟩), Bool.and_false]
                    · rw [decide_eq_false h48, Bool.false_and]
                  have HP := hide (parse_nodigit (neg := false) (d := codes d) (i := i) (by omega) (hC ▸ hbad))
                  have hgs : w.heap.size ≤ w.heap.size := Nat.le_refl _
                  have z0 : wr.cell? ⟨w.heap.size, 0, none⟩ = some (.int .u8 0) := HBr.out.cell 0; have z1 : wr.cell? ⟨w.heap.size, 1, none⟩ = some (.bool false) := HBr.out.cell 1; have z2 : wr.cell? ⟨w.heap.size, 2, none⟩ = some (.slice none 0 0) := HBr.out.cell 2; have z3 : wr.cell? ⟨w.heap.size, 3, none⟩ = some (.string { data := #[] }) := HBr.out.cell 3; have z4 : wr.cell? ⟨w.heap.size, 4, none⟩ = some (.int .i64 0) := HBr.out.cell 4; have z5 : wr.cell? ⟨w.heap.size, 5, none⟩ = some (.slice none 0 0) := HBr.out.cell 5; have z6 : wr.cell? ⟨w.heap.size, 6, none⟩ = some (.slice none 0 0) := HBr.out.cell 6
                  have f0 : wr.frozen? ⟨w.heap.size, 0, none⟩ = false := HBr.out.free 0; have f1 : wr.frozen? ⟨w.heap.size, 1, none⟩ = false := HBr.out.free 1; have f2 : wr.frozen? ⟨w.heap.size, 2, none⟩ = false := HBr.out.free 2; have f3 : wr.frozen? ⟨w.heap.size, 3, none⟩ = false := HBr.out.free 3; have f4 : wr.frozen? ⟨w.heap.size, 4, none⟩ = false := HBr.out.free 4; have f5 : wr.frozen? ⟨w.heap.size, 5, none⟩ = false := HBr.out.free 5; have f6 : wr.frozen? ⟨w.heap.size, 6, none⟩ = false := HBr.out.free 6
                  by_cases h48 : C < 48
                  · have c1 : decide (C < 48) = true := decide_eq_true h48
                    have c2 : decide ((C : Int) < 48) = true := by simp; omega
                    clear hgood hbad hC h48
                    go_wp2
                    have HBf := hide (HBr.out.put7 (.int .u8 0) (.bool false) (.slice none 0 0) (.string { data := #[] }) (.int .i64 0) (.slice none 0 0) (.slice none 0 0))
                    have HKf := hide (HKr.out.set7 (g := w.heap.size) (by omega) (.int .u8 0) (.bool false) (.slice none 0 0) (.string { data := #[] }) (.int .i64 0) (.slice none 0 0) (.slice none 0 0))
                    clear z0 z1 z2 z3 z4 z5 z6 f0 f1 f2 f3 f4 f5 f6 HBr HKr
                    generalize (((((((wr.setCell ⟨w.heap.size, 0, none⟩ (.int .u8 0)).setCell ⟨w.heap.size, 1, none⟩ (.bool false)).setCell ⟨w.heap.size, 2, none⟩ (.slice none 0 0)).setCell ⟨w.heap.size, 3, none⟩ (.string { data := #[] })).setCell ⟨w.heap.size, 4, none⟩ (.int .i64 0)).setCell ⟨w.heap.size, 5, none⟩ (.slice none 0 0)).setCell ⟨w.heap.size, 6, none⟩ (.slice none 0 0)) = wf at *
                    have d0 : wf.cell? ⟨w.heap.size, 0, none⟩ = some (.int .u8 0) := HBf.out.cell 0
                    have d1 : wf.cell? ⟨w.heap.size, 1, none⟩ = some (.bool false) := HBf.out.cell 1
                    have d2 : wf.cell? ⟨w.heap.size, 2, none⟩ = some (.slice none 0 0) := HBf.out.cell 2
                    have d3 : wf.cell? ⟨w.heap.size, 3, none⟩ = some (.string { data := #[] }) := HBf.out.cell 3
                    have d4 : wf.cell? ⟨w.heap.size, 4, none⟩ = some (.int .i64 0) := HBf.out.cell 4
                    have d5 : wf.cell? ⟨w.heap.size, 5, none⟩ = some (.slice none 0 0) := HBf.out.cell 5
                    have d6 : wf.cell? ⟨w.heap.size, 6, none⟩ = some (.slice none 0 0) := HBf.out.cell 6
                    refine bodyPost_ret (v := .tuple #[.agg #[.int .u8 0, .bool false, .slice none 0 0, .string { data := #[] }, .int .i64 0, .slice none 0 0, .slice none 0 0], .bool false]) (by simp [results, Try.results17, go_sem, d0, d1, d2, d3, d4, d5, d6]) rfl ?_
                    rw [HP.out]
                    exact ⟨rfl, HKf.out⟩
                  · have c1 : decide (C < 48) = false := decide_eq_false h48
                    have c2 : decide ((C : Int) < 48) = false := by simp; omega
                    have c3 : decide (57 < C) = true := decide_eq_true (by omega)
                    have c4 : decide ((57 : Int) < (C : Int)) = true := by simp; omega
                    clear hgood hbad hC h48
                    go_wp2
                    have HBf := hide (HBr.out.put7 (.int .u8 0) (.bool false) (.slice none 0 0) (.string { data := #[] }) (.int .i64 0) (.slice none 0 0) (.slice none 0 0))
                    have HKf := hide (HKr.out.set7 (g := w.heap.size) (by omega) (.int .u8 0) (.bool false) (.slice none 0 0) (.string { data := #[] }) (.int .i64 0) (.slice none 0 0) (.slice none 0 0))
                    clear z0 z1 z2 z3 z4 z5 z6 f0 f1 f2 f3 f4 f5 f6 HBr HKr
                    generalize (((((((wr.setCell ⟨w.heap.size, 0, none⟩ (.int .u8 0)).setCell ⟨w.heap.size, 1, none⟩ (.bool false)).setCell ⟨w.heap.size, 2, none⟩ (.slice none 0 0)).setCell ⟨w.heap.size, 3, none⟩ (.string { data := #[] })).setCell ⟨w.heap.size, 4, none⟩ (.int .i64 0)).setCell ⟨w.heap.size, 5, none⟩ (.slice none 0 0)).setCell ⟨w.heap.size, 6, none⟩ (.slice none 0 0)) = wf at *
                    have d0 : wf.cell? ⟨w.heap.size, 0, none⟩ = some (.int .u8 0) := HBf.out.cell 0
                    have d1 : wf.cell? ⟨w.heap.size, 1, none⟩ = some (.bool false) := HBf.out.cell 1
                    have d2 : wf.cell? ⟨w.heap.size, 2, none⟩ = some (.slice none 0 0) := HBf.out.cell 2
                    have d3 : wf.cell? ⟨w.heap.size, 3, none⟩ = some (.string { data := #[] }) := HBf.out.cell 3
                    have d4 : wf.cell? ⟨w.heap.size, 4, none⟩ = some (.int .i64 0) := HBf.out.cell 4
                    have d5 : wf.cell? ⟨w.heap.size, 5, none⟩ = some (.slice none 0 0) := HBf.out.cell 5
                    have d6 : wf.cell? ⟨w.heap.size, 6, none⟩ = some (.slice none 0 0) := HBf.out.cell 6
                    refine bodyPost_ret (v := .tuple #[.agg #[.int .u8 0, .bool false, .slice none 0 0, .string { data := #[] }, .int .i64 0, .slice none 0 0, .slice none 0 0], .bool false]) (by simp [results, Try.results17, go_sem, d0, d1, d2, d3, d4, d5, d6]) rfl ?_
                    rw [HP.out]
                    exact ⟨rfl, HKf.out⟩
              · obtain rfl : i = d.size := by omega
                have HV := hide (show V = says 0 ((codes d).map (· - 48)) from by
                  rw [HM.out.val, List.take_of_length_le (by omega)])
                have HP := hide (HG.out (all_digits (fun j hj => HM.out.good j (by omega))))
                have hk16 := HM.out.short (by omega)
                have HMD := hide (rmade_any A k c false _ wr _ HM.out.bits (by omega))
                have hgs : w.heap.size < wr.heap.size := HBr.out.lt
                rw [natB_dig, HV.out] at HMD
                clear HM HG
                go_wp2_with (go_at_call 38; refine HMD.out.mono ?_; rintro e w5 ⟨kd, ng, A, n, c, ok, rfl, hr, hk⟩; have HB5 := hide (HBr.out.keep hk id); have HA5 := hide hr; have HK6 := hide (HKr.out.trans' hk (fun _ _ => id) (fun _ _ => id)); clear hr hk; have z0 : w5.cell? ⟨w.heap.size, 0, none⟩ = some (.int .u8 0) := HB5.out.cell 0; have z1 : w5.cell? ⟨w.heap.size, 1, none⟩ = some (.bool false) := HB5.out.cell 1; have z2 : w5.cell? ⟨w.heap.size, 2, none⟩ = some (.slice none 0 0) := HB5.out.cell 2; have z3 : w5.cell? ⟨w.heap.size, 3, none⟩ = some (.string { data := #[] }) := HB5.out.cell 3; have z4 : w5.cell? ⟨w.heap.size, 4, none⟩ = some (.int .i64 0) := HB5.out.cell 4; have z5 : w5.cell? ⟨w.heap.size, 5, none⟩ = some (.slice none 0 0) := HB5.out.cell 5; have z6 : w5.cell? ⟨w.heap.size, 6, none⟩ = some (.slice none 0 0) := HB5.out.cell 6; have f0 : w5.frozen? ⟨w.heap.size, 0, none⟩ = false := HB5.out.free 0; have f1 : w5.frozen? ⟨w.heap.size, 1, none⟩ = false := HB5.out.free 1; have f2 : w5.frozen? ⟨w.heap.size, 2, none⟩ = false := HB5.out.free 2; have f3 : w5.frozen? ⟨w.heap.size, 3, none⟩ = false := HB5.out.free 3; have f4 : w5.frozen? ⟨w.heap.size, 4, none⟩ = false := HB5.out.free 4; have f5 : w5.frozen? ⟨w.heap.size, 5, none⟩ = false := HB5.out.free 5; have f6 : w5.frozen? ⟨w.heap.size, 6, none⟩ = false := HB5.out.free 6)
                rw [HP.out]
                have HBf := hide (HB5.out.put7 (.int .u8 kd) (.bool ng) (.slice A n c) (.string { data := #[] }) (.int .i64 0) (.slice none 0 0) (.slice none 0 0))
                have HKf := hide (HK6.out.set7 (g := w.heap.size) (by omega) (.int .u8 kd) (.bool ng) (.slice A n c) (.string { data := #[] }) (.int .i64 0) (.slice none 0 0) (.slice none 0 0))
                have HAf := hide ((HA5.out.far (Keeps.set7' (g := w.heap.size) (.int .u8 kd) (.bool ng) (.slice A n c) (.string { data := #[] }) (.int .i64 0) (.slice none 0 0) (.slice none 0 0)) (fun k hk e => by first | omega | (simp at hk; omega))).more (B' := fun k => w.heap.size ≤ k) (fun k _ hk => by first | omega | (simp at hk; omega)))
                clear z0 z1 z2 z3 z4 z5 z6 f0 f1 f2 f3 f4 f5 f6 HB5 HK6 HA5
                generalize (((((((w5.setCell ⟨w.heap.size, 0, none⟩ (.int .u8 kd)).setCell ⟨w.heap.size, 1, none⟩ (.bool ng)).setCell ⟨w.heap.size, 2, none⟩ (.slice A n c)).setCell ⟨w.heap.size, 3, none⟩ (.string { data := #[] })).setCell ⟨w.heap.size, 4, none⟩ (.int .i64 0)).setCell ⟨w.heap.size, 5, none⟩ (.slice none 0 0)).setCell ⟨w.heap.size, 6, none⟩ (.slice none 0 0)) = wf at *
                have d0 : wf.cell? ⟨w.heap.size, 0, none⟩ = some (.int .u8 kd) := HBf.out.cell 0
                have d1 : wf.cell? ⟨w.heap.size, 1, none⟩ = some (.bool ng) := HBf.out.cell 1
                have d2 : wf.cell? ⟨w.heap.size, 2, none⟩ = some (.slice A n c) := HBf.out.cell 2
                have d3 : wf.cell? ⟨w.heap.size, 3, none⟩ = some (.string { data := #[] }) := HBf.out.cell 3
                have d4 : wf.cell? ⟨w.heap.size, 4, none⟩ = some (.int .i64 0) := HBf.out.cell 4
                have d5 : wf.cell? ⟨w.heap.size, 5, none⟩ = some (.slice none 0 0) := HBf.out.cell 5
                have d6 : wf.cell? ⟨w.heap.size, 6, none⟩ = some (.slice none 0 0) := HBf.out.cell 6
                refine bodyPost_ret (v := .tuple #[.agg #[.int .u8 kd, .bool ng, .slice A n c, .string { data := #[] }, .int .i64 0, .slice none 0 0, .slice none 0 0], .bool ok]) (by simp [results, Try.results17, go_sem, d0, d1, d2, d3, d4, d5, d6]) rfl ?_
                exact ⟨kd, ng, A, n, c, ok, rfl, HAf.out, HKf.out⟩
        · have hl4 : decide ((400 : Int) < (d.size : Int)) = true := by simp; omega
          have HP := hide (parse_bad (neg := false) (d := codes d) (.inr (.inl (by omega))))
          clear hdl h4
          go_wp2
          have HBz := hide (Blk.new w 26 #[.int .u8 0, .bool false, .slice none 0 0, .string { data := #[] }, .int .i64 0, .slice none 0 0, .slice none 0 0])
          have HKz := hide ((Keeps.refl NoB w).alloc (.cells #[.int .u8 0, .bool false, .slice none 0 0, .string { data := #[] }, .int .i64 0, .slice none 0 0, .slice none 0 0] 26))
          generalize w.alloc (.cells #[.int .u8 0, .bool false, .slice none 0 0, .string { data := #[] }, .int .i64 0, .slice none 0 0, .slice none 0 0] 26) = w7 at *
          have d0 : w7.cell? ⟨w.heap.size, 0, none⟩ = some (.int .u8 0) := HBz.out.cell 0
          have d1 : w7.cell? ⟨w.heap.size, 1, none⟩ = some (.bool false) := HBz.out.cell 1
          have d2 : w7.cell? ⟨w.heap.size, 2, none⟩ = some (.slice none 0 0) := HBz.out.cell 2
          have d3 : w7.cell? ⟨w.heap.size, 3, none⟩ = some (.string { data := #[] }) := HBz.out.cell 3
          have d4 : w7.cell? ⟨w.heap.size, 4, none⟩ = some (.int .i64 0) := HBz.out.cell 4
          have d5 : w7.cell? ⟨w.heap.size, 5, none⟩ = some (.slice none 0 0) := HBz.out.cell 5
          have d6 : w7.cell? ⟨w.heap.size, 6, none⟩ = some (.slice none 0 0) := HBz.out.cell 6
          refine bodyPost_ret (v := .tuple #[.agg #[.int .u8 0, .bool false, .slice none 0 0, .string { data := #[] }, .int .i64 0, .slice none 0 0, .slice none 0 0], .bool false]) (by simp [results, Try.results17, go_sem, d0, d1, d2, d3, d4, d5, d6]) rfl ?_
          rw [HP.out]
          exact ⟨rfl, HKz.out⟩
end Go.Proofs.Ytfehciiidmgopaa
