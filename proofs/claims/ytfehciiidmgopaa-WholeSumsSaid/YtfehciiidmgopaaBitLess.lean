/- less, below of rows of bits. -/
import Derived.Test.YtfehciiidmgopaaBitSum
namespace Go.Proofs.Ytfehciiidmgopaa
open Go.RowKit

theorem less_end {a b n z : Nat} {c : Bool} (h : z + b % 2 ^ n = a % 2 ^ n + 2 ^ n * c.toNat) (ha : a < 2 ^ n) (hz : z < 2 ^ n) (hb : b ≤ a) : z = a - b := by
  rw [Nat.mod_eq_of_lt ha, Nat.mod_eq_of_lt (by omega)] at h
  cases c with
  | false => rw [show false.toNat = 0 from rfl, Nat.mul_zero] at h; omega
  | true => rw [show true.toNat = 1 from rfl, Nat.mul_one] at h; omega
set_option maxHeartbeats 2000000 in
set_option maxRecDepth 100000 in
theorem bless_any (A A' : Option Addr) (n c n' c' : Nat) (la lb : List Bool) (w : World) (B B' : Nat → Prop) (h : BitsIn w B A n c la) (h' : BitsIn w B' A' n' c' lb) (hn : n ≤ 100000) (hn' : n' ≤ 100000) (hle : natB lb ≤ natB la) :
    Calls Try.prog 55 #[.slice A n c, .slice A' n' c'] w (BitP w (natB la - natB lb)) := by
  have hl := h.len
  have HA := hide h; have HA' := hide h'; have HLE := hide hle; have HL := hide hl
  obtain ⟨i0, hi0, hz0, hz1, hz2⟩ := info_parts Try.info4
  have HLT := hide (show natB la < 2 ^ n from hl ▸ natB_lt la)
  clear h h' hl hle
  go_enter Try.func55, Try.ntmps55
  go_wp2
  go_loopw [5, 6, 7] (fun ov cv iv wr => ∃ (A : Option Addr) (k c : Nat) (l : List Bool) (cy : Bool), ov = .slice A k c ∧ cv = .bool cy ∧ iv = .int .i64 (k : Int) ∧ k ≤ n ∧ Hid (OutB w A k c l wr) ∧ Hid (natB l + natB lb % 2 ^ k = natB la % 2 ^ k + 2 ^ k * cy.toNat)) (fun _ _ iv _ => n - (intOf iv).toNat)
  case atStart => exact ⟨none, 0, 0, [], false, rfl, rfl, rfl, Nat.zero_le _, hide (OutB.none w), hide (by simp [natB, Nat.mod_one])⟩
  case round =>
    obtain ⟨AO, k, cO, l, cy, rfl, rfl, rfl, hk, HO, HV⟩ := hrel
    by_cases hlt : k < n
    · have hk0 : (k : Int) < (n : Int) := by omega
      have hk1 : (0 : Int) ≤ (k : Int) := by omega
      obtain ⟨bb, ob, rfl, hbb, hcb⟩ := (HA.out.keep HO.out.keep).at (by omega)
      have q := hcb k hlt
      have HL2 := hide (fun w2 (hk : Keeps NoB wr w2) => bit_any A' n' c' k lb w2 _ ((HA'.out.keep HO.out.keep).keep hk) (by omega) (by omega))
      have HST := hide (less_step HO.out.len HV.out)
      rw [natB_test, natB_test] at HST
      obtain ⟨X, hX⟩ : ∃ X, la.getD k false = X := ⟨_, rfl⟩
      obtain ⟨Y, hY⟩ : ∃ Y, lb.getD k false = Y := ⟨_, rfl⟩
      rw [hX] at q HST
      rw [hY] at HL2 HST
      clear hX hY hcb hbb
      go_wp2_with fail
      refine order_begin (fun W => Keeps NoB wr.drew W) (fun _ => true) (by kernel_rfl) 9 rfl ?_
      have q1 : wr.drew.cell? ⟨bb, ob + k, none⟩ = some (.bool X) := q
      have HKD := hide (Keeps.refl NoB wr).drew
      clear q
      generalize wr.drew = W0 at *
      have HS : Keeps NoB W0 W0 := Keeps.refl _ _
      refine order_pure (i := 0) rfl (by kernel_rfl) (fun _ _ _ h => h) (.inl ⟨rfl, fun _ => by go_simp; rfl⟩) ?_
      try simp only [Act.put, List.setIfInBounds_toArray, List.set_cons_succ, List.set_cons_zero]
      refine order_pure (i := 1) rfl (by kernel_rfl) (fun _ _ _ h => h) (.inl ⟨rfl, fun _ => by go_simp; rfl⟩) ?_
      try simp only [Act.put, List.setIfInBounds_toArray, List.set_cons_succ, List.set_cons_zero]
      refine order_pure (i := 2) rfl (by kernel_rfl) (fun _ _ _ h => h) (.inl ⟨rfl, fun _ => by go_simp; rfl⟩) ?_
      try simp only [Act.put, List.setIfInBounds_toArray, List.set_cons_succ, List.set_cons_zero]
      refine order_pure (i := 4) rfl (by kernel_rfl) (fun _ _ _ h => h) (.inl ⟨rfl, fun _ => by go_simp; rfl⟩) ?_
      try simp only [Act.put, List.setIfInBounds_toArray, List.set_cons_succ, List.set_cons_zero]
      refine order_pure (i := 5) rfl (by kernel_rfl) (fun _ _ _ h => h) (.inl ⟨rfl, fun _ => by go_simp; rfl⟩) ?_
      try simp only [Act.put, List.setIfInBounds_toArray, List.set_cons_succ, List.set_cons_zero]
      refine order_held (i := 3) rfl (by kernel_rfl) (fun _ _ _ h => h) (.inl ⟨rfl, fun W hW => by
        have q0 : W.cell? ⟨bb, ob + k, none⟩ = some (.bool X) := hW.cell id q1
        go_simp; rfl⟩) HS ?_
      try simp only [Act.put, List.setIfInBounds_toArray, List.set_cons_succ, List.set_cons_zero]
      refine order_one (i := 6) rfl (by kernel_rfl) (fun K hK => ?_)
      go_simp
      refine (HL2.out W0 HKD.out).mono ?_
      rintro e w3 ⟨rfl, hk3⟩
      refine hK _ _ (fun _ hS => hS.trans' hk3 (fun _ _ => id) (fun _ _ => id)) ?_
      clear hK
      try simp only [Act.put, List.setIfInBounds_toArray, List.set_cons_succ, List.set_cons_zero]
      have HO3 := hide (HO.out.step (HKD.out.trans' hk3 (fun _ _ h => h) (fun _ _ h => h)))
      clear HO HL2 HV hk3 HS q1 HKD
      refine order_pure (i := 7) rfl (by kernel_rfl) (fun _ _ _ h => h) (.inl ⟨rfl, fun _ => by go_simp; rfl⟩) ?_
      try simp only [Act.put, List.setIfInBounds_toArray, List.set_cons_succ, List.set_cons_zero]
      refine order_pure (i := 8) rfl (by kernel_rfl) (fun _ _ _ h => h) (.inl ⟨rfl, fun _ => by go_simp; rfl⟩) ?_
      try simp only [Act.put, List.setIfInBounds_toArray, List.set_cons_succ, List.set_cons_zero]
      refine order_done (by kernel_rfl) ?_
      rcases X with _ | _ <;> rcases Y with _ | _ <;> rcases cy with _ | _
      · skip
        have HO4 := hide (HO3.out.step ((Keeps.refl NoB w3).alloc (.cells #[.bool false] 4)))
        have HR4 := hide (one_reads (Blk.new w3 4 #[.bool false]))
        clear HO3
        go_wp2_with (at_builtin; refine wpList_append_slab _ rfl (.tmp 23) (.tmp 29) 48 rfl 4 i0 _ 1 1 Try.underlying48 hi0 hz0 hz1 hz2 rfl (by omega) AO k cO (bools l) rfl HO4.out.slab (fun _ => True) true (some ⟨w3.heap.size, 0, none⟩) 1 1 [.bool false] rfl HR4.out (Nat.zero_lt_one) (fun u hu => by simp at hu; subst hu; rfl) (by unfold maxLen; omega) (by omega) ?_)
        intro A5 c5 w5 h1 h2 h3
        have HO5 := hide (HO4.out.next h1 h2 h3)
        clear h1 h2 h3 HO4 HR4
        go_wp2
        go_roundw
        case rel => exact ⟨A5, k + 1, c5, l ++ [false], false, rfl, rfl, rfl, by omega, HO5, HST⟩
        case measure => simp [intOf]; omega
      · skip
        have HO4 := hide (HO3.out.step ((Keeps.refl NoB w3).alloc (.cells #[.bool true] 4)))
        have HR4 := hide (one_reads (Blk.new w3 4 #[.bool true]))
        clear HO3
        go_wp2_with (at_builtin; refine wpList_append_slab _ rfl (.tmp 23) (.tmp 29) 48 rfl 4 i0 _ 1 1 Try.underlying48 hi0 hz0 hz1 hz2 rfl (by omega) AO k cO (bools l) rfl HO4.out.slab (fun _ => True) true (some ⟨w3.heap.size, 0, none⟩) 1 1 [.bool true] rfl HR4.out (Nat.zero_lt_one) (fun u hu => by simp at hu; subst hu; rfl) (by unfold maxLen; omega) (by omega) ?_)
        intro A5 c5 w5 h1 h2 h3
        have HO5 := hide (HO4.out.next h1 h2 h3)
        clear h1 h2 h3 HO4 HR4
        go_wp2
        go_roundw
        case rel => exact ⟨A5, k + 1, c5, l ++ [true], true, rfl, rfl, rfl, by omega, HO5, HST⟩
        case measure => simp [intOf]; omega
      · skip
        have HO4 := hide (HO3.out.step ((Keeps.refl NoB w3).alloc (.cells #[.bool true] 4)))
        have HR4 := hide (one_reads (Blk.new w3 4 #[.bool true]))
        clear HO3
        go_wp2_with (at_builtin; refine wpList_append_slab _ rfl (.tmp 23) (.tmp 29) 48 rfl 4 i0 _ 1 1 Try.underlying48 hi0 hz0 hz1 hz2 rfl (by omega) AO k cO (bools l) rfl HO4.out.slab (fun _ => True) true (some ⟨w3.heap.size, 0, none⟩) 1 1 [.bool true] rfl HR4.out (Nat.zero_lt_one) (fun u hu => by simp at hu; subst hu; rfl) (by unfold maxLen; omega) (by omega) ?_)
        intro A5 c5 w5 h1 h2 h3
        have HO5 := hide (HO4.out.next h1 h2 h3)
        clear h1 h2 h3 HO4 HR4
        go_wp2
        go_roundw
        case rel => exact ⟨A5, k + 1, c5, l ++ [true], true, rfl, rfl, rfl, by omega, HO5, HST⟩
        case measure => simp [intOf]; omega
      · skip
        have HO4 := hide (HO3.out.step ((Keeps.refl NoB w3).alloc (.cells #[.bool false] 4)))
        have HR4 := hide (one_reads (Blk.new w3 4 #[.bool false]))
        clear HO3
        go_wp2_with (at_builtin; refine wpList_append_slab _ rfl (.tmp 23) (.tmp 29) 48 rfl 4 i0 _ 1 1 Try.underlying48 hi0 hz0 hz1 hz2 rfl (by omega) AO k cO (bools l) rfl HO4.out.slab (fun _ => True) true (some ⟨w3.heap.size, 0, none⟩) 1 1 [.bool false] rfl HR4.out (Nat.zero_lt_one) (fun u hu => by simp at hu; subst hu; rfl) (by unfold maxLen; omega) (by omega) ?_)
        intro A5 c5 w5 h1 h2 h3
        have HO5 := hide (HO4.out.next h1 h2 h3)
        clear h1 h2 h3 HO4 HR4
        go_wp2
        go_roundw
        case rel => exact ⟨A5, k + 1, c5, l ++ [false], true, rfl, rfl, rfl, by omega, HO5, HST⟩
        case measure => simp [intOf]; omega
      · skip
        have HO4 := hide (HO3.out.step ((Keeps.refl NoB w3).alloc (.cells #[.bool true] 4)))
        have HR4 := hide (one_reads (Blk.new w3 4 #[.bool true]))
        clear HO3
        go_wp2_with (at_builtin; refine wpList_append_slab _ rfl (.tmp 23) (.tmp 29) 48 rfl 4 i0 _ 1 1 Try.underlying48 hi0 hz0 hz1 hz2 rfl (by omega) AO k cO (bools l) rfl HO4.out.slab (fun _ => True) true (some ⟨w3.heap.size, 0, none⟩) 1 1 [.bool true] rfl HR4.out (Nat.zero_lt_one) (fun u hu => by simp at hu; subst hu; rfl) (by unfold maxLen; omega) (by omega) ?_)
        intro A5 c5 w5 h1 h2 h3
        have HO5 := hide (HO4.out.next h1 h2 h3)
        clear h1 h2 h3 HO4 HR4
        go_wp2
        go_roundw
        case rel => exact ⟨A5, k + 1, c5, l ++ [true], false, rfl, rfl, rfl, by omega, HO5, HST⟩
        case measure => simp [intOf]; omega
      · skip
        have HO4 := hide (HO3.out.step ((Keeps.refl NoB w3).alloc (.cells #[.bool false] 4)))
        have HR4 := hide (one_reads (Blk.new w3 4 #[.bool false]))
        clear HO3
        go_wp2_with (at_builtin; refine wpList_append_slab _ rfl (.tmp 23) (.tmp 29) 48 rfl 4 i0 _ 1 1 Try.underlying48 hi0 hz0 hz1 hz2 rfl (by omega) AO k cO (bools l) rfl HO4.out.slab (fun _ => True) true (some ⟨w3.heap.size, 0, none⟩) 1 1 [.bool false] rfl HR4.out (Nat.zero_lt_one) (fun u hu => by simp at hu; subst hu; rfl) (by unfold maxLen; omega) (by omega) ?_)
        intro A5 c5 w5 h1 h2 h3
        have HO5 := hide (HO4.out.next h1 h2 h3)
        clear h1 h2 h3 HO4 HR4
        go_wp2
        go_roundw
        case rel => exact ⟨A5, k + 1, c5, l ++ [false], false, rfl, rfl, rfl, by omega, HO5, HST⟩
        case measure => simp [intOf]; omega
      · skip
        have HO4 := hide (HO3.out.step ((Keeps.refl NoB w3).alloc (.cells #[.bool false] 4)))
        have HR4 := hide (one_reads (Blk.new w3 4 #[.bool false]))
        clear HO3
        go_wp2_with (at_builtin; refine wpList_append_slab _ rfl (.tmp 23) (.tmp 29) 48 rfl 4 i0 _ 1 1 Try.underlying48 hi0 hz0 hz1 hz2 rfl (by omega) AO k cO (bools l) rfl HO4.out.slab (fun _ => True) true (some ⟨w3.heap.size, 0, none⟩) 1 1 [.bool false] rfl HR4.out (Nat.zero_lt_one) (fun u hu => by simp at hu; subst hu; rfl) (by unfold maxLen; omega) (by omega) ?_)
        intro A5 c5 w5 h1 h2 h3
        have HO5 := hide (HO4.out.next h1 h2 h3)
        clear h1 h2 h3 HO4 HR4
        go_wp2
        go_roundw
        case rel => exact ⟨A5, k + 1, c5, l ++ [false], false, rfl, rfl, rfl, by omega, HO5, HST⟩
        case measure => simp [intOf]; omega
      · skip
        have HO4 := hide (HO3.out.step ((Keeps.refl NoB w3).alloc (.cells #[.bool true] 4)))
        have HR4 := hide (one_reads (Blk.new w3 4 #[.bool true]))
        clear HO3
        go_wp2_with (at_builtin; refine wpList_append_slab _ rfl (.tmp 23) (.tmp 29) 48 rfl 4 i0 _ 1 1 Try.underlying48 hi0 hz0 hz1 hz2 rfl (by omega) AO k cO (bools l) rfl HO4.out.slab (fun _ => True) true (some ⟨w3.heap.size, 0, none⟩) 1 1 [.bool true] rfl HR4.out (Nat.zero_lt_one) (fun u hu => by simp at hu; subst hu; rfl) (by unfold maxLen; omega) (by omega) ?_)
        intro A5 c5 w5 h1 h2 h3
        have HO5 := hide (HO4.out.next h1 h2 h3)
        clear h1 h2 h3 HO4 HR4
        go_wp2
        go_roundw
        case rel => exact ⟨A5, k + 1, c5, l ++ [true], true, rfl, rfl, rfl, by omega, HO5, HST⟩
        case measure => simp [intOf]; omega
    · obtain rfl : n = k := by omega
      have HS := hide (less_end HV.out HLT.out (by have := natB_lt l; rw [HO.out.len] at this; exact this) HLE.out)
      have hk1 : ¬ (n : Int) < (n : Int) := by omega
      have HC := hide (cutb_any AO n cO l wr _ HO.out.bits (by omega))
      rw [HS.out] at HC
      clear HV hlt
      go_wp2_with (go_at_call 59; refine HC.out.mono ?_; rintro e w5 ⟨m, rfl, hm, hb, hk⟩; have HB5 := hide hb; have HM := hide hm; have HK5 := hide (HO.out.keep.trans' hk (fun _ _ h => h) (fun _ _ h => h)); clear hb hm hk)
      go_ret
      exact ⟨AO, m, cO, rfl, HM.out, HB5.out, HK5.out⟩

theorem div_top {a N : Nat} (h : a < 2 ^ N) : a / 2 ^ N = 0 := Nat.div_eq_of_lt h
set_option maxHeartbeats 1000000 in
set_option maxRecDepth 100000 in
theorem below_any (A A' : Option Addr) (n c n' c' N : Nat) (la lb : List Bool) (w : World) (B B' : Nat → Prop) (h : BitsIn w B A n c la) (h' : BitsIn w B' A' n' c' lb) (hN : N = max n n') (hN2 : N ≤ 100000) :
    Calls Try.prog 54 #[.slice A n c, .slice A' n' c'] w fun e w' => e = .returned (.bool (decide (natB la < natB lb))) ∧ Keeps NoB w w' := by
  have hl := h.len; have hl' := h'.len
  have HA := hide h; have HA' := hide h'
  have hmax : (if (n : Int) < (n' : Int) then (n' : Int) else (n : Int)) = (N : Int) := by split <;> omega
  have hmax2 : (if n < n' then (n' : Int) else (n : Int)) = (N : Int) := by split <;> omega
  have H0 := hide ((div_top (Nat.lt_of_lt_of_le (natB_lt la) (Nat.pow_le_pow_right (by decide) (by omega)))).trans (div_top (Nat.lt_of_lt_of_le (natB_lt lb) (Nat.pow_le_pow_right (by decide) (by omega)))).symm : natB la / 2 ^ N = natB lb / 2 ^ N)
  have hn : n ≤ 100000 := by omega
  have hn' : n' ≤ 100000 := by omega
  clear h h' hN hl hl'
  go_enter Try.func54, Try.ntmps54
  go_wp2
  go_loopw [5] (fun iv wr => ∃ k : Nat, iv = .int .i64 ((k : Int) - 1) ∧ k ≤ N ∧ Hid (Keeps NoB w wr) ∧ Hid (natB la / 2 ^ k = natB lb / 2 ^ k)) (fun iv _ => (intOf iv + 1).toNat)
  case atStart => exact ⟨N, rfl, Nat.le_refl _, hide (Keeps.refl _ _), H0⟩
  case round =>
    obtain ⟨k, rfl, hk, HK, HE⟩ := hrel
    rcases k with _ | k
    · have he : natB la = natB lb := by have := HE.out; simpa using this
      have HF := hide (show decide (natB la < natB lb) = false from decide_eq_false (by omega))
      clear he
      go_wp2
      go_ret
      exact ⟨by rw [HF.out]; rfl, HK.out⟩
    · have hk2 : ((k + 1 : Nat) : Int) - 1 = (k : Int) := by omega
      rw [hk2]
      have hk0 : (0 : Int) ≤ (k : Int) := by omega
      have HL1 := hide (bit_any A n c k la wr _ (HA.out.keep HK.out) (by omega) (by omega))
      have HL2 := hide (fun w2 (hk : Keeps NoB wr w2) => bit_any A' n' c' k lb w2 _ ((HA'.out.keep HK.out).keep hk) (by omega) (by omega))
      have HBB := hide (fun hne => below_bit HE.out (i := k) hne); have HSB := hide (fun he => same_bit HE.out (i := k) he)
      rw [natB_test, natB_test] at HBB HSB
      obtain ⟨X, hX⟩ : ∃ X, la.getD k false = X := ⟨_, rfl⟩
      obtain ⟨Y, hY⟩ : ∃ Y, lb.getD k false = Y := ⟨_, rfl⟩
      rw [hX] at HL1 HBB HSB
      rw [hY] at HL2 HBB HSB
      clear hX hY hk2
      have M1 := hide True.intro; have M2 := hide True.intro
      by_cases hne : X = Y
      · have HSB2 := hide (HSB.out hne)
        clear HSB HBB
        subst hne
        rcases X with _ | _
        · skip
          go_wp2_with first | (clear M1; go_at_call 60; refine HL1.out.mono ?_; rintro e w2 ⟨rfl, hk2⟩; have HK2 := hide hk2; clear hk2) | (clear M2; go_at_call 60; refine (HL2.out w2 HK2.out).mono ?_; rintro e w3 ⟨rfl, hk3⟩; have HK3 := hide (HK2.out.trans' hk3 (fun _ _ h => h) (fun _ _ h => h)); clear hk3 HK2) | fail
          go_roundw
          case rel => exact ⟨k, rfl, by omega, hide (HK.out.trans' HK3.out (fun _ _ h => h) (fun _ _ h => h)), HSB2⟩
          case measure => simp [intOf]
        · skip
          go_wp2_with first | (clear M1; go_at_call 60; refine HL1.out.mono ?_; rintro e w2 ⟨rfl, hk2⟩; have HK2 := hide hk2; clear hk2) | (clear M2; go_at_call 60; refine (HL2.out w2 HK2.out).mono ?_; rintro e w3 ⟨rfl, hk3⟩; have HK3 := hide (HK2.out.trans' hk3 (fun _ _ h => h) (fun _ _ h => h)); clear hk3 HK2) | fail
          go_roundw
          case rel => exact ⟨k, rfl, by omega, hide (HK.out.trans' HK3.out (fun _ _ h => h) (fun _ _ h => h)), HSB2⟩
          case measure => simp [intOf]
      · have HD := hide (HBB.out hne)
        clear HSB HBB
        rcases X with _ | _ <;> rcases Y with _ | _
        · exact absurd rfl hne
        · skip
          go_wp2_with first | (clear M1; go_at_call 60; refine HL1.out.mono ?_; rintro e w2 ⟨rfl, hk2⟩; have HK2 := hide hk2; clear hk2) | (clear M2; go_at_call 60; refine (HL2.out w2 HK2.out).mono ?_; rintro e w3 ⟨rfl, hk3⟩; have HK3 := hide (HK2.out.trans' hk3 (fun _ _ h => h) (fun _ _ h => h)); clear hk3 HK2) | (go_at_call 60; refine (HL2.out w3 HK3.out).mono ?_; rintro e w4 ⟨rfl, hk4⟩; have HK4 := hide (HK3.out.trans' hk4 (fun _ _ h => h) (fun _ _ h => h)); clear hk4 HK3) | fail
          go_ret
          exact ⟨by rw [HD.out]; rfl, HK.out.trans' HK4.out (fun _ _ h => h) (fun _ _ h => h)⟩
        · skip
          go_wp2_with first | (clear M1; go_at_call 60; refine HL1.out.mono ?_; rintro e w2 ⟨rfl, hk2⟩; have HK2 := hide hk2; clear hk2) | (clear M2; go_at_call 60; refine (HL2.out w2 HK2.out).mono ?_; rintro e w3 ⟨rfl, hk3⟩; have HK3 := hide (HK2.out.trans' hk3 (fun _ _ h => h) (fun _ _ h => h)); clear hk3 HK2) | (go_at_call 60; refine (HL2.out w3 HK3.out).mono ?_; rintro e w4 ⟨rfl, hk4⟩; have HK4 := hide (HK3.out.trans' hk4 (fun _ _ h => h) (fun _ _ h => h)); clear hk4 HK3) | fail
          go_ret
          exact ⟨by rw [HD.out]; rfl, HK.out.trans' HK4.out (fun _ _ h => h) (fun _ _ h => h)⟩
        · exact absurd rfl hne
end Go.Proofs.Ytfehciiidmgopaa
