/- Of of the reference. -/
import Derived.Test.YtfehciiidmgopaaRDiv
namespace Go.Proofs.Ytfehciiidmgopaa
open Go.RowKit

theorem and_bit64 {x : Nat} (hx : x < 18446744073709551616) : (bits .and .u64 (x : Int) 1 == 1) = x.testBit 0 := by
  rw [show (1 : Int) = ((1 : Nat) : Int) from rfl, u64_and_nat x 1 hx (by decide), Nat.and_one_is_mod, Nat.testBit_eq_decide_div_mod_eq, Nat.pow_zero, Nat.div_one]
  by_cases h : x % 2 = 1
  · rw [h, decide_eq_true rfl]; rfl
  · rw [decide_eq_false h]
    have : x % 2 = 0 := by omega
    rw [this]; rfl
theorem half_bit (M k : Nat) : (M / 2 ^ k).testBit 0 = M.testBit k := by
  rw [Nat.testBit_div_two_pow, Nat.zero_add]
theorem half_next (M k : Nat) : M / 2 ^ k / 2 = M / 2 ^ (k + 1) := by
  rw [Nat.pow_succ, Nat.div_div_eq_div_mul]
set_option maxHeartbeats 2000000 in
set_option maxRecDepth 100000 in
theorem rof_any (z : Int) (h1 : -9223372036854775808 ≤ z) (h2 : z ≤ 9223372036854775807) (w : World) : Calls Try.prog 21 #[.int .i64 z] w (IntP w z) := by
  have HZB := hide (small_big (M := z.natAbs) (by omega))
  by_cases hz : z < 0
  · obtain ⟨M, rfl⟩ : ∃ M : Nat, z = -(M : Int) := ⟨z.natAbs, by omega⟩
    have hz0 : 0 < M := by omega
    have hz1 : decide (-(M : Int) < 0) = true := by simp only [hz, decide_true]
    have hz2 : decide (0 < (M : Int)) = true := by simp; exact hz0
    have e1 : IntKind.u64.wrap (-(M : Int)) = 18446744073709551616 - (M : Int) := by unfold IntKind.wrap; simp [IntKind.bits, IntKind.signed]; omega
    have e2 : IntKind.u64.wrap (-(18446744073709551616 - (M : Int))) = (M : Int) := by unfold IntKind.wrap; simp [IntKind.bits, IntKind.signed]; omega
    have HSG := hide (show sgn true M = -(M : Int) from rfl)
    clear hz
    obtain ⟨i0, hi0, hz0, hz1, hz2⟩ := info_parts Try.info4
    go_enter Try.func21, Try.ntmps21
    go_wp2
    have HZ1 := hide (Blk.new w 26 #[.int .u8 0, .bool false, .slice none 0 0, .string { data := #[] }, .int .i64 0, .slice none 0 0, .slice none 0 0])
    have HK1 := hide ((Keeps.refl NoB w).alloc (.cells #[.int .u8 0, .bool false, .slice none 0 0, .string { data := #[] }, .int .i64 0, .slice none 0 0, .slice none 0 0] 26))
    generalize w.alloc (.cells #[.int .u8 0, .bool false, .slice none 0 0, .string { data := #[] }, .int .i64 0, .slice none 0 0, .slice none 0 0] 26) = w1 at *
    have H0 := hide (OutB.none w1)
    go_loopg [3, 4] M (fun f mv lv wr => ∃ (k x : Nat) (A : Option Addr) (c : Nat), mv = .int .u64 (x : Int) ∧ lv = .slice A k c ∧ x ≤ f ∧ Hid (x = M / 2 ^ k) ∧ k ≤ 64 ∧ Hid (OutB w1 A k c (bitsOf M k) wr))
    case atStart => exact ⟨0, M, none, 0, rfl, rfl, Nat.le_refl _, hide (by simp), by omega, H0⟩
    case round =>
      obtain ⟨k, x, A, c, rfl, rfl, hf, HX, hk, HO⟩ := hrel
      have hx64 : x < 18446744073709551616 := by
        have h1 := HX.out
        have h2 : M / 2 ^ k ≤ M := Nat.div_le_self _ _
        omega
      by_cases hx : 0 < x
      · have hx1 : decide ((0 : Int) < (x : Int)) = true := decide_eq_true (by omega)
        obtain ⟨bv, hbv⟩ : ∃ bv, M.testBit k = bv := ⟨_, rfl⟩
        have hb : (bits .and .u64 (x : Int) 1 == 1) = bv := by rw [and_bit64 hx64, HX.out, half_bit]; exact hbv
        have hk64 : k < 64 := by
          rcases Nat.lt_or_ge k 64 with e | e
          · exact e
          · have h1 := HX.out
            have h2 : M < 2 ^ k := Nat.lt_of_lt_of_le (by omega : M < 2 ^ 64) (Nat.pow_le_pow_right (by decide) e)
            rw [Nat.div_eq_of_lt h2] at h1
            omega
        have HN := hide (bitsOf_next M k)
        rw [hbv] at HN
        have HH := hide (show x / 2 = M / 2 ^ (k + 1) from by rw [HX.out, half_next])
        clear hbv
        have HO3 := hide (HO.out.step ((Keeps.refl NoB wr).alloc (.cells #[.bool bv] 4)))
        have HR3 := hide (one_reads (Blk.new wr 4 #[.bool bv]))
        clear HO
        go_wp2_with (at_builtin; refine wpList_append_slab _ rfl (.tmp 15) (.tmp 19) 48 rfl 4 i0 _ 1 1 Try.underlying48 hi0 hz0 hz1 hz2 rfl (by omega) A k c (bools (bitsOf M k)) rfl HO3.out.slab (fun _ => True) true (some ⟨wr.heap.size, 0, none⟩) 1 1 [.bool bv] rfl HR3.out (Nat.zero_lt_one) (fun u hu => by simp at hu; subst hu; rfl) (by unfold maxLen; omega) (by omega) ?_)
        intro A5 c5 w5 h1 h2 h3
        have HO5 := hide (HO3.out.next h1 h2 h3)
        rw [← HN.out] at HO5
        clear h1 h2 h3 HO3 HR3
        go_wp2
        go_roundg (x / 2)
        case measure => omega
        case rel => exact ⟨k + 1, x / 2, A5, c5, congrArg (Value.int .u64) (by omega), rfl, Nat.le_refl _, HH, by omega, HO5⟩
      · obtain rfl : x = 0 := by omega
        have hzl : natB (bitsOf M k) = M := by
          rw [natB_bits]
          have h1 := HX.out
          have h2 : 0 < 2 ^ k := Nat.pow_pos (by decide)
          exact Nat.mod_eq_of_lt ((Nat.div_eq_zero_iff_lt h2).1 h1.symm)
        have HC := hide (rmade_yes A k c true _ (-(M : Int)) wr _ HO.out.bits (by omega) (by rw [hzl]; exact HSG.out) HZB.out)
        have HZ2 := hide (HZ1.out.keep HO.out.keep id)
        have HK2 := hide (HK1.out.trans' HO.out.keep (fun _ _ h => h) (fun _ _ h => h))
        clear hzl HO H0 HZ1 HK1
        go_wp2_with (go_at_call 38; refine HC.out.mono ?_; rintro e w2 ⟨ng, A, n, c, rfl, hi, hk⟩; have HI := hide (hi.keep ((Keeps.refl NoB w2).alloc (.cells #[.int .u8 1, .bool ng, .slice A n c, .string { data := #[] }, .int .i64 0, .slice none 0 0, .slice none 0 0] 26))); have HB2 := hide ((HZ2.out.keep hk id).alloc (.cells #[.int .u8 1, .bool ng, .slice A n c, .string { data := #[] }, .int .i64 0, .slice none 0 0, .slice none 0 0] 26)); have HK3 := hide ((HK2.out.trans' hk (fun _ _ h => h) (fun _ _ h => h)).alloc (.cells #[.int .u8 1, .bool ng, .slice A n c, .string { data := #[] }, .int .i64 0, .slice none 0 0, .slice none 0 0] 26)); have HI2 := hide (Blk.new w2 26 #[.int .u8 1, .bool ng, .slice A n c, .string { data := #[] }, .int .i64 0, .slice none 0 0, .slice none 0 0]); have HLT := hide HZ2.out.lt; clear hi hk; have y0 : (w2.alloc (.cells #[.int .u8 1, .bool ng, .slice A n c, .string { data := #[] }, .int .i64 0, .slice none 0 0, .slice none 0 0] 26)).cell? ⟨w2.heap.size, 0, none⟩ = some (.int .u8 1) := HI2.out.cell 0; have y1 : (w2.alloc (.cells #[.int .u8 1, .bool ng, .slice A n c, .string { data := #[] }, .int .i64 0, .slice none 0 0, .slice none 0 0] 26)).cell? ⟨w2.heap.size, 1, none⟩ = some (.bool ng) := HI2.out.cell 1; have y2 : (w2.alloc (.cells #[.int .u8 1, .bool ng, .slice A n c, .string { data := #[] }, .int .i64 0, .slice none 0 0, .slice none 0 0] 26)).cell? ⟨w2.heap.size, 2, none⟩ = some (.slice A n c) := HI2.out.cell 2; have y3 : (w2.alloc (.cells #[.int .u8 1, .bool ng, .slice A n c, .string { data := #[] }, .int .i64 0, .slice none 0 0, .slice none 0 0] 26)).cell? ⟨w2.heap.size, 3, none⟩ = some (.string { data := #[] }) := HI2.out.cell 3; have y4 : (w2.alloc (.cells #[.int .u8 1, .bool ng, .slice A n c, .string { data := #[] }, .int .i64 0, .slice none 0 0, .slice none 0 0] 26)).cell? ⟨w2.heap.size, 4, none⟩ = some (.int .i64 0) := HI2.out.cell 4; have y5 : (w2.alloc (.cells #[.int .u8 1, .bool ng, .slice A n c, .string { data := #[] }, .int .i64 0, .slice none 0 0, .slice none 0 0] 26)).cell? ⟨w2.heap.size, 5, none⟩ = some (.slice none 0 0) := HI2.out.cell 5; have y6 : (w2.alloc (.cells #[.int .u8 1, .bool ng, .slice A n c, .string { data := #[] }, .int .i64 0, .slice none 0 0, .slice none 0 0] 26)).cell? ⟨w2.heap.size, 6, none⟩ = some (.slice none 0 0) := HI2.out.cell 6; have z0 : (w2.alloc (.cells #[.int .u8 1, .bool ng, .slice A n c, .string { data := #[] }, .int .i64 0, .slice none 0 0, .slice none 0 0] 26)).cell? ⟨w.heap.size, 0, none⟩ = some (.int .u8 0) := HB2.out.cell 0; have z1 : (w2.alloc (.cells #[.int .u8 1, .bool ng, .slice A n c, .string { data := #[] }, .int .i64 0, .slice none 0 0, .slice none 0 0] 26)).cell? ⟨w.heap.size, 1, none⟩ = some (.bool false) := HB2.out.cell 1; have z2 : (w2.alloc (.cells #[.int .u8 1, .bool ng, .slice A n c, .string { data := #[] }, .int .i64 0, .slice none 0 0, .slice none 0 0] 26)).cell? ⟨w.heap.size, 2, none⟩ = some (.slice none 0 0) := HB2.out.cell 2; have z3 : (w2.alloc (.cells #[.int .u8 1, .bool ng, .slice A n c, .string { data := #[] }, .int .i64 0, .slice none 0 0, .slice none 0 0] 26)).cell? ⟨w.heap.size, 3, none⟩ = some (.string { data := #[] }) := HB2.out.cell 3; have z4 : (w2.alloc (.cells #[.int .u8 1, .bool ng, .slice A n c, .string { data := #[] }, .int .i64 0, .slice none 0 0, .slice none 0 0] 26)).cell? ⟨w.heap.size, 4, none⟩ = some (.int .i64 0) := HB2.out.cell 4; have z5 : (w2.alloc (.cells #[.int .u8 1, .bool ng, .slice A n c, .string { data := #[] }, .int .i64 0, .slice none 0 0, .slice none 0 0] 26)).cell? ⟨w.heap.size, 5, none⟩ = some (.slice none 0 0) := HB2.out.cell 5; have z6 : (w2.alloc (.cells #[.int .u8 1, .bool ng, .slice A n c, .string { data := #[] }, .int .i64 0, .slice none 0 0, .slice none 0 0] 26)).cell? ⟨w.heap.size, 6, none⟩ = some (.slice none 0 0) := HB2.out.cell 6; have f0 : (w2.alloc (.cells #[.int .u8 1, .bool ng, .slice A n c, .string { data := #[] }, .int .i64 0, .slice none 0 0, .slice none 0 0] 26)).frozen? ⟨w.heap.size, 0, none⟩ = false := HB2.out.free 0; have f1 : (w2.alloc (.cells #[.int .u8 1, .bool ng, .slice A n c, .string { data := #[] }, .int .i64 0, .slice none 0 0, .slice none 0 0] 26)).frozen? ⟨w.heap.size, 1, none⟩ = false := HB2.out.free 1; have f2 : (w2.alloc (.cells #[.int .u8 1, .bool ng, .slice A n c, .string { data := #[] }, .int .i64 0, .slice none 0 0, .slice none 0 0] 26)).frozen? ⟨w.heap.size, 2, none⟩ = false := HB2.out.free 2; have f3 : (w2.alloc (.cells #[.int .u8 1, .bool ng, .slice A n c, .string { data := #[] }, .int .i64 0, .slice none 0 0, .slice none 0 0] 26)).frozen? ⟨w.heap.size, 3, none⟩ = false := HB2.out.free 3; have f4 : (w2.alloc (.cells #[.int .u8 1, .bool ng, .slice A n c, .string { data := #[] }, .int .i64 0, .slice none 0 0, .slice none 0 0] 26)).frozen? ⟨w.heap.size, 4, none⟩ = false := HB2.out.free 4; have f5 : (w2.alloc (.cells #[.int .u8 1, .bool ng, .slice A n c, .string { data := #[] }, .int .i64 0, .slice none 0 0, .slice none 0 0] 26)).frozen? ⟨w.heap.size, 5, none⟩ = false := HB2.out.free 5; have f6 : (w2.alloc (.cells #[.int .u8 1, .bool ng, .slice A n c, .string { data := #[] }, .int .i64 0, .slice none 0 0, .slice none 0 0] 26)).frozen? ⟨w.heap.size, 6, none⟩ = false := HB2.out.free 6)
        have HBf := hide (HB2.out.put7 (.int .u8 1) (.bool ng) (.slice A n c) (.string { data := #[] }) (.int .i64 0) (.slice none 0 0) (.slice none 0 0))
        have HKf := hide (HK3.out.set7 (Nat.le_refl _) (.int .u8 1) (.bool ng) (.slice A n c) (.string { data := #[] }) (.int .i64 0) (.slice none 0 0) (.slice none 0 0))
        have HIf := hide ((HI.out.far (Keeps.set7' (g := w.heap.size) (.int .u8 1) (.bool ng) (.slice A n c) (.string { data := #[] }) (.int .i64 0) (.slice none 0 0) (.slice none 0 0)) (fun k hk e => by have h1 := HLT.out; have h2 : wr.heap.size ≤ k := hk; omega)).more (B' := fun k => w.heap.size ≤ k) (fun k _ hk => by have h1 := HLT.out; have h2 : wr.heap.size ≤ k := hk; omega))
        clear z0 z1 z2 z3 z4 z5 z6 f0 f1 f2 f3 f4 f5 f6 y0 y1 y2 y3 y4 y5 y6 HB2 HK3 HI HI2
        generalize ((((((((w2.alloc (.cells #[.int .u8 1, .bool ng, .slice A n c, .string { data := #[] }, .int .i64 0, .slice none 0 0, .slice none 0 0] 26)).setCell ⟨w.heap.size, 0, none⟩ (.int .u8 1)).setCell ⟨w.heap.size, 1, none⟩ (.bool ng)).setCell ⟨w.heap.size, 2, none⟩ (.slice A n c)).setCell ⟨w.heap.size, 3, none⟩ (.string { data := #[] })).setCell ⟨w.heap.size, 4, none⟩ (.int .i64 0)).setCell ⟨w.heap.size, 5, none⟩ (.slice none 0 0)).setCell ⟨w.heap.size, 6, none⟩ (.slice none 0 0)) = wf at *
        have d0 : wf.cell? ⟨w.heap.size, 0, none⟩ = some (.int .u8 1) := HBf.out.cell 0; have d1 : wf.cell? ⟨w.heap.size, 1, none⟩ = some (.bool ng) := HBf.out.cell 1; have d2 : wf.cell? ⟨w.heap.size, 2, none⟩ = some (.slice A n c) := HBf.out.cell 2; have d3 : wf.cell? ⟨w.heap.size, 3, none⟩ = some (.string { data := #[] }) := HBf.out.cell 3; have d4 : wf.cell? ⟨w.heap.size, 4, none⟩ = some (.int .i64 0) := HBf.out.cell 4; have d5 : wf.cell? ⟨w.heap.size, 5, none⟩ = some (.slice none 0 0) := HBf.out.cell 5; have d6 : wf.cell? ⟨w.heap.size, 6, none⟩ = some (.slice none 0 0) := HBf.out.cell 6
        refine bodyPost_ret (v := .agg #[.int .u8 1, .bool ng, .slice A n c, .string { data := #[] }, .int .i64 0, .slice none 0 0, .slice none 0 0]) (by simp [results, Try.results21, go_sem, d0, d1, d2, d3, d4, d5, d6]) rfl ?_
        exact ⟨ng, A, n, c, rfl, HIf.out, HKf.out⟩
  · obtain ⟨M, rfl⟩ : ∃ M : Nat, z = (M : Int) := ⟨z.natAbs, by omega⟩
    have hz1 : decide ((M : Int) < 0) = false := by simp
    have e1 : IntKind.u64.wrap (M : Int) = (M : Int) := by unfold IntKind.wrap; simp [IntKind.bits, IntKind.signed]; omega
    have HSG := hide (show sgn false M = (M : Int) from rfl)
    clear hz
    obtain ⟨i0, hi0, hz0, hz1, hz2⟩ := info_parts Try.info4
    go_enter Try.func21, Try.ntmps21
    go_wp2
    have HZ1 := hide (Blk.new w 26 #[.int .u8 0, .bool false, .slice none 0 0, .string { data := #[] }, .int .i64 0, .slice none 0 0, .slice none 0 0])
    have HK1 := hide ((Keeps.refl NoB w).alloc (.cells #[.int .u8 0, .bool false, .slice none 0 0, .string { data := #[] }, .int .i64 0, .slice none 0 0, .slice none 0 0] 26))
    generalize w.alloc (.cells #[.int .u8 0, .bool false, .slice none 0 0, .string { data := #[] }, .int .i64 0, .slice none 0 0, .slice none 0 0] 26) = w1 at *
    have H0 := hide (OutB.none w1)
    go_loopg [3, 4] M (fun f mv lv wr => ∃ (k x : Nat) (A : Option Addr) (c : Nat), mv = .int .u64 (x : Int) ∧ lv = .slice A k c ∧ x ≤ f ∧ Hid (x = M / 2 ^ k) ∧ k ≤ 64 ∧ Hid (OutB w1 A k c (bitsOf M k) wr))
    case atStart => exact ⟨0, M, none, 0, rfl, rfl, Nat.le_refl _, hide (by simp), by omega, H0⟩
    case round =>
      obtain ⟨k, x, A, c, rfl, rfl, hf, HX, hk, HO⟩ := hrel
      have hx64 : x < 18446744073709551616 := by
        have h1 := HX.out
        have h2 : M / 2 ^ k ≤ M := Nat.div_le_self _ _
        omega
      by_cases hx : 0 < x
      · have hx1 : decide ((0 : Int) < (x : Int)) = true := decide_eq_true (by omega)
        obtain ⟨bv, hbv⟩ : ∃ bv, M.testBit k = bv := ⟨_, rfl⟩
        have hb : (bits .and .u64 (x : Int) 1 == 1) = bv := by rw [and_bit64 hx64, HX.out, half_bit]; exact hbv
        have hk64 : k < 64 := by
          rcases Nat.lt_or_ge k 64 with e | e
          · exact e
          · have h1 := HX.out
            have h2 : M < 2 ^ k := Nat.lt_of_lt_of_le (by omega : M < 2 ^ 64) (Nat.pow_le_pow_right (by decide) e)
            rw [Nat.div_eq_of_lt h2] at h1
            omega
        have HN := hide (bitsOf_next M k)
        rw [hbv] at HN
        have HH := hide (show x / 2 = M / 2 ^ (k + 1) from by rw [HX.out, half_next])
        clear hbv
        have HO3 := hide (HO.out.step ((Keeps.refl NoB wr).alloc (.cells #[.bool bv] 4)))
        have HR3 := hide (one_reads (Blk.new wr 4 #[.bool bv]))
        clear HO
        go_wp2_with (at_builtin; refine wpList_append_slab _ rfl (.tmp 15) (.tmp 19) 48 rfl 4 i0 _ 1 1 Try.underlying48 hi0 hz0 hz1 hz2 rfl (by omega) A k c (bools (bitsOf M k)) rfl HO3.out.slab (fun _ => True) true (some ⟨wr.heap.size, 0, none⟩) 1 1 [.bool bv] rfl HR3.out (Nat.zero_lt_one) (fun u hu => by simp at hu; subst hu; rfl) (by unfold maxLen; omega) (by omega) ?_)
        intro A5 c5 w5 h1 h2 h3
        have HO5 := hide (HO3.out.next h1 h2 h3)
        rw [← HN.out] at HO5
        clear h1 h2 h3 HO3 HR3
        go_wp2
        go_roundg (x / 2)
        case measure => omega
        case rel => exact ⟨k + 1, x / 2, A5, c5, congrArg (Value.int .u64) (by omega), rfl, Nat.le_refl _, HH, by omega, HO5⟩
      · obtain rfl : x = 0 := by omega
        have hzl : natB (bitsOf M k) = M := by
          rw [natB_bits]
          have h1 := HX.out
          have h2 : 0 < 2 ^ k := Nat.pow_pos (by decide)
          exact Nat.mod_eq_of_lt ((Nat.div_eq_zero_iff_lt h2).1 h1.symm)
        have HC := hide (rmade_yes A k c false _ (M : Int) wr _ HO.out.bits (by omega) (by rw [hzl]; exact HSG.out) HZB.out)
        have HZ2 := hide (HZ1.out.keep HO.out.keep id)
        have HK2 := hide (HK1.out.trans' HO.out.keep (fun _ _ h => h) (fun _ _ h => h))
        clear hzl HO H0 HZ1 HK1
        go_wp2_with (go_at_call 38; refine HC.out.mono ?_; rintro e w2 ⟨ng, A, n, c, rfl, hi, hk⟩; have HI := hide (hi.keep ((Keeps.refl NoB w2).alloc (.cells #[.int .u8 1, .bool ng, .slice A n c, .string { data := #[] }, .int .i64 0, .slice none 0 0, .slice none 0 0] 26))); have HB2 := hide ((HZ2.out.keep hk id).alloc (.cells #[.int .u8 1, .bool ng, .slice A n c, .string { data := #[] }, .int .i64 0, .slice none 0 0, .slice none 0 0] 26)); have HK3 := hide ((HK2.out.trans' hk (fun _ _ h => h) (fun _ _ h => h)).alloc (.cells #[.int .u8 1, .bool ng, .slice A n c, .string { data := #[] }, .int .i64 0, .slice none 0 0, .slice none 0 0] 26)); have HI2 := hide (Blk.new w2 26 #[.int .u8 1, .bool ng, .slice A n c, .string { data := #[] }, .int .i64 0, .slice none 0 0, .slice none 0 0]); have HLT := hide HZ2.out.lt; clear hi hk; have y0 : (w2.alloc (.cells #[.int .u8 1, .bool ng, .slice A n c, .string { data := #[] }, .int .i64 0, .slice none 0 0, .slice none 0 0] 26)).cell? ⟨w2.heap.size, 0, none⟩ = some (.int .u8 1) := HI2.out.cell 0; have y1 : (w2.alloc (.cells #[.int .u8 1, .bool ng, .slice A n c, .string { data := #[] }, .int .i64 0, .slice none 0 0, .slice none 0 0] 26)).cell? ⟨w2.heap.size, 1, none⟩ = some (.bool ng) := HI2.out.cell 1; have y2 : (w2.alloc (.cells #[.int .u8 1, .bool ng, .slice A n c, .string { data := #[] }, .int .i64 0, .slice none 0 0, .slice none 0 0] 26)).cell? ⟨w2.heap.size, 2, none⟩ = some (.slice A n c) := HI2.out.cell 2; have y3 : (w2.alloc (.cells #[.int .u8 1, .bool ng, .slice A n c, .string { data := #[] }, .int .i64 0, .slice none 0 0, .slice none 0 0] 26)).cell? ⟨w2.heap.size, 3, none⟩ = some (.string { data := #[] }) := HI2.out.cell 3; have y4 : (w2.alloc (.cells #[.int .u8 1, .bool ng, .slice A n c, .string { data := #[] }, .int .i64 0, .slice none 0 0, .slice none 0 0] 26)).cell? ⟨w2.heap.size, 4, none⟩ = some (.int .i64 0) := HI2.out.cell 4; have y5 : (w2.alloc (.cells #[.int .u8 1, .bool ng, .slice A n c, .string { data := #[] }, .int .i64 0, .slice none 0 0, .slice none 0 0] 26)).cell? ⟨w2.heap.size, 5, none⟩ = some (.slice none 0 0) := HI2.out.cell 5; have y6 : (w2.alloc (.cells #[.int .u8 1, .bool ng, .slice A n c, .string { data := #[] }, .int .i64 0, .slice none 0 0, .slice none 0 0] 26)).cell? ⟨w2.heap.size, 6, none⟩ = some (.slice none 0 0) := HI2.out.cell 6; have z0 : (w2.alloc (.cells #[.int .u8 1, .bool ng, .slice A n c, .string { data := #[] }, .int .i64 0, .slice none 0 0, .slice none 0 0] 26)).cell? ⟨w.heap.size, 0, none⟩ = some (.int .u8 0) := HB2.out.cell 0; have z1 : (w2.alloc (.cells #[.int .u8 1, .bool ng, .slice A n c, .string { data := #[] }, .int .i64 0, .slice none 0 0, .slice none 0 0] 26)).cell? ⟨w.heap.size, 1, none⟩ = some (.bool false) := HB2.out.cell 1; have z2 : (w2.alloc (.cells #[.int .u8 1, .bool ng, .slice A n c, .string { data := #[] }, .int .i64 0, .slice none 0 0, .slice none 0 0] 26)).cell? ⟨w.heap.size, 2, none⟩ = some (.slice none 0 0) := HB2.out.cell 2; have z3 : (w2.alloc (.cells #[.int .u8 1, .bool ng, .slice A n c, .string { data := #[] }, .int .i64 0, .slice none 0 0, .slice none 0 0] 26)).cell? ⟨w.heap.size, 3, none⟩ = some (.string { data := #[] }) := HB2.out.cell 3; have z4 : (w2.alloc (.cells #[.int .u8 1, .bool ng, .slice A n c, .string { data := #[] }, .int .i64 0, .slice none 0 0, .slice none 0 0] 26)).cell? ⟨w.heap.size, 4, none⟩ = some (.int .i64 0) := HB2.out.cell 4; have z5 : (w2.alloc (.cells #[.int .u8 1, .bool ng, .slice A n c, .string { data := #[] }, .int .i64 0, .slice none 0 0, .slice none 0 0] 26)).cell? ⟨w.heap.size, 5, none⟩ = some (.slice none 0 0) := HB2.out.cell 5; have z6 : (w2.alloc (.cells #[.int .u8 1, .bool ng, .slice A n c, .string { data := #[] }, .int .i64 0, .slice none 0 0, .slice none 0 0] 26)).cell? ⟨w.heap.size, 6, none⟩ = some (.slice none 0 0) := HB2.out.cell 6; have f0 : (w2.alloc (.cells #[.int .u8 1, .bool ng, .slice A n c, .string { data := #[] }, .int .i64 0, .slice none 0 0, .slice none 0 0] 26)).frozen? ⟨w.heap.size, 0, none⟩ = false := HB2.out.free 0; have f1 : (w2.alloc (.cells #[.int .u8 1, .bool ng, .slice A n c, .string { data := #[] }, .int .i64 0, .slice none 0 0, .slice none 0 0] 26)).frozen? ⟨w.heap.size, 1, none⟩ = false := HB2.out.free 1; have f2 : (w2.alloc (.cells #[.int .u8 1, .bool ng, .slice A n c, .string { data := #[] }, .int .i64 0, .slice none 0 0, .slice none 0 0] 26)).frozen? ⟨w.heap.size, 2, none⟩ = false := HB2.out.free 2; have f3 : (w2.alloc (.cells #[.int .u8 1, .bool ng, .slice A n c, .string { data := #[] }, .int .i64 0, .slice none 0 0, .slice none 0 0] 26)).frozen? ⟨w.heap.size, 3, none⟩ = false := HB2.out.free 3; have f4 : (w2.alloc (.cells #[.int .u8 1, .bool ng, .slice A n c, .string { data := #[] }, .int .i64 0, .slice none 0 0, .slice none 0 0] 26)).frozen? ⟨w.heap.size, 4, none⟩ = false := HB2.out.free 4; have f5 : (w2.alloc (.cells #[.int .u8 1, .bool ng, .slice A n c, .string { data := #[] }, .int .i64 0, .slice none 0 0, .slice none 0 0] 26)).frozen? ⟨w.heap.size, 5, none⟩ = false := HB2.out.free 5; have f6 : (w2.alloc (.cells #[.int .u8 1, .bool ng, .slice A n c, .string { data := #[] }, .int .i64 0, .slice none 0 0, .slice none 0 0] 26)).frozen? ⟨w.heap.size, 6, none⟩ = false := HB2.out.free 6)
        have HBf := hide (HB2.out.put7 (.int .u8 1) (.bool ng) (.slice A n c) (.string { data := #[] }) (.int .i64 0) (.slice none 0 0) (.slice none 0 0))
        have HKf := hide (HK3.out.set7 (Nat.le_refl _) (.int .u8 1) (.bool ng) (.slice A n c) (.string { data := #[] }) (.int .i64 0) (.slice none 0 0) (.slice none 0 0))
        have HIf := hide ((HI.out.far (Keeps.set7' (g := w.heap.size) (.int .u8 1) (.bool ng) (.slice A n c) (.string { data := #[] }) (.int .i64 0) (.slice none 0 0) (.slice none 0 0)) (fun k hk e => by have h1 := HLT.out; have h2 : wr.heap.size ≤ k := hk; omega)).more (B' := fun k => w.heap.size ≤ k) (fun k _ hk => by have h1 := HLT.out; have h2 : wr.heap.size ≤ k := hk; omega))
        clear z0 z1 z2 z3 z4 z5 z6 f0 f1 f2 f3 f4 f5 f6 y0 y1 y2 y3 y4 y5 y6 HB2 HK3 HI HI2
        generalize ((((((((w2.alloc (.cells #[.int .u8 1, .bool ng, .slice A n c, .string { data := #[] }, .int .i64 0, .slice none 0 0, .slice none 0 0] 26)).setCell ⟨w.heap.size, 0, none⟩ (.int .u8 1)).setCell ⟨w.heap.size, 1, none⟩ (.bool ng)).setCell ⟨w.heap.size, 2, none⟩ (.slice A n c)).setCell ⟨w.heap.size, 3, none⟩ (.string { data := #[] })).setCell ⟨w.heap.size, 4, none⟩ (.int .i64 0)).setCell ⟨w.heap.size, 5, none⟩ (.slice none 0 0)).setCell ⟨w.heap.size, 6, none⟩ (.slice none 0 0)) = wf at *
        have d0 : wf.cell? ⟨w.heap.size, 0, none⟩ = some (.int .u8 1) := HBf.out.cell 0; have d1 : wf.cell? ⟨w.heap.size, 1, none⟩ = some (.bool ng) := HBf.out.cell 1; have d2 : wf.cell? ⟨w.heap.size, 2, none⟩ = some (.slice A n c) := HBf.out.cell 2; have d3 : wf.cell? ⟨w.heap.size, 3, none⟩ = some (.string { data := #[] }) := HBf.out.cell 3; have d4 : wf.cell? ⟨w.heap.size, 4, none⟩ = some (.int .i64 0) := HBf.out.cell 4; have d5 : wf.cell? ⟨w.heap.size, 5, none⟩ = some (.slice none 0 0) := HBf.out.cell 5; have d6 : wf.cell? ⟨w.heap.size, 6, none⟩ = some (.slice none 0 0) := HBf.out.cell 6
        refine bodyPost_ret (v := .agg #[.int .u8 1, .bool ng, .slice A n c, .string { data := #[] }, .int .i64 0, .slice none 0 0, .slice none 0 0]) (by simp [results, Try.results21, go_sem, d0, d1, d2, d3, d4, d5, d6]) rfl ?_
        exact ⟨ng, A, n, c, rfl, HIf.out, HKf.out⟩
end Go.Proofs.Ytfehciiidmgopaa
