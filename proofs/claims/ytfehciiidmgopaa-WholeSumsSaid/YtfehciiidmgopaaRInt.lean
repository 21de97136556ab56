/- Int of the reference. -/
import Derived.Test.YtfehciiidmgopaaRSub
namespace Go.Proofs.Ytfehciiidmgopaa
open Go.RowKit

theorem or_bit64 {M i : Nat} (hM : M < 2 ^ i) (hi : i < 64) : bits .or .u64 (M : Int) ((2 ^ i : Nat) : Int) = ((M + 2 ^ i : Nat) : Int) := by
  have h1 : 2 ^ i ≤ 2 ^ 63 := Nat.pow_le_pow_right (by decide) (by omega)
  rw [u64_or_nat M (2 ^ i) (by omega) (by omega)]
  have := Nat.two_pow_add_eq_or_of_lt hM 1
  rw [Nat.mul_one] at this
  rw [Nat.or_comm, ← this, Nat.add_comm]
set_option maxHeartbeats 400000 in
set_option maxRecDepth 100000 in
theorem rint_long (ng : Bool) (A ia ta : Option Addr) (n c ic tc : Nat) (z : Int) (w : World) (B : Nat → Prop) (h : IA w B ng A n c z) (hl : 64 < lenB z.natAbs) :
    Calls Try.prog 31 #[.agg #[.int .u8 1, .bool ng, .slice A n c, .string { data := #[] }, .int .i64 0, .slice ia 0 ic, .slice ta 0 tc]] w fun e w' => e = .returned (.tuple #[.int .i64 0, .bool false]) ∧ Keeps NoB w w' := by
  have HBIG := hide hl
  clear hl
  have hb := h.bits
  have HSG := hide h.sign
  have HI := hide h
  have HTA := hide (h.term ia ta ic tc)
  clear h
  go_enter Try.func31, Try.ntmps31
  have HX0 := hide (Blk.new w 26 #[.int .u8 1, .bool ng, .slice A n c, .string { data := #[] }, .int .i64 0, .slice ia 0 ic, .slice ta 0 tc])
  have HK0 := hide ((Keeps.refl NoB w).alloc (.cells #[.int .u8 1, .bool ng, .slice A n c, .string { data := #[] }, .int .i64 0, .slice ia 0 ic, .slice ta 0 tc] 26))
  go_wp2_with first | (go_at_call 33; refine ((HTA.out.keep HK0.out).rright).mono ?_; rintro e w1 ⟨rfl, hk1⟩; have HK1 := hide (HK0.out.trans' hk1 (fun _ _ => id) (fun _ _ => id)); have HX1 := hide (HX0.out.keep hk1 id); clear hk1 HX0 HK0; have x0 : w1.cell? ⟨w.heap.size, 0, none⟩ = some (.int .u8 1) := HX1.out.cell 0; have x1 : w1.cell? ⟨w.heap.size, 1, none⟩ = some (.bool ng) := HX1.out.cell 1; have x2 : w1.cell? ⟨w.heap.size, 2, none⟩ = some (.slice A n c) := HX1.out.cell 2; have x3 : w1.cell? ⟨w.heap.size, 3, none⟩ = some (.string { data := #[] }) := HX1.out.cell 3; have x4 : w1.cell? ⟨w.heap.size, 4, none⟩ = some (.int .i64 0) := HX1.out.cell 4; have x5 : w1.cell? ⟨w.heap.size, 5, none⟩ = some (.slice ia 0 ic) := HX1.out.cell 5; have x6 : w1.cell? ⟨w.heap.size, 6, none⟩ = some (.slice ta 0 tc) := HX1.out.cell 6) | (go_at_call 36; refine (bits_any _ _ _ _ _ _ _ _ _ w1 _ (HI.out.keep HK1.out)).mono ?_; rintro e w2 ⟨A1, n1, c1, rfl, hn1, hb1, hk2⟩; have HN1 := hide hn1; have HB1 := hide hb1; have HK2 := hide (HK1.out.trans' hk2 (fun _ _ => id) (fun _ _ => id)); have HX2 := hide (HX1.out.keep hk2 id); have hcmp : decide ((64 : Int) < (n1 : Int)) = true := (by have := HBIG.out; rw [← hn1] at this; exact decide_eq_true (by omega)); clear hn1 hb1 hk2 HK1 HX1 x0 x1 x2 x3 x4 x5 x6) | fail
  go_ret2
  exact ⟨rfl, HK2.out⟩
set_option maxHeartbeats 2000000 in
set_option maxRecDepth 100000 in
theorem rint_few (ng : Bool) (A ia ta : Option Addr) (n c ic tc : Nat) (z : Int) (w : World) (B : Nat → Prop) (h : IA w B ng A n c z) (hl : lenB z.natAbs ≤ 64) :
    Calls Try.prog 31 #[.agg #[.int .u8 1, .bool ng, .slice A n c, .string { data := #[] }, .int .i64 0, .slice ia 0 ic, .slice ta 0 tc]] w fun e w' => e = .returned (.tuple #[.int .i64 (int64 z), .bool (small64 z)]) ∧ Keeps NoB w w' := by
  have HBIG := hide hl
  clear hl
  have hb := h.bits
  have HSG := hide h.sign
  have HI := hide h
  have HTA := hide (h.term ia ta ic tc)
  clear h
  go_enter Try.func31, Try.ntmps31
  have HX0 := hide (Blk.new w 26 #[.int .u8 1, .bool ng, .slice A n c, .string { data := #[] }, .int .i64 0, .slice ia 0 ic, .slice ta 0 tc])
  have HK0 := hide ((Keeps.refl NoB w).alloc (.cells #[.int .u8 1, .bool ng, .slice A n c, .string { data := #[] }, .int .i64 0, .slice ia 0 ic, .slice ta 0 tc] 26))
  go_wp2_with first | (go_at_call 33; refine ((HTA.out.keep HK0.out).rright).mono ?_; rintro e w1 ⟨rfl, hk1⟩; have HK1 := hide (HK0.out.trans' hk1 (fun _ _ => id) (fun _ _ => id)); have HX1 := hide (HX0.out.keep hk1 id); clear hk1 HX0 HK0; have x0 : w1.cell? ⟨w.heap.size, 0, none⟩ = some (.int .u8 1) := HX1.out.cell 0; have x1 : w1.cell? ⟨w.heap.size, 1, none⟩ = some (.bool ng) := HX1.out.cell 1; have x2 : w1.cell? ⟨w.heap.size, 2, none⟩ = some (.slice A n c) := HX1.out.cell 2; have x3 : w1.cell? ⟨w.heap.size, 3, none⟩ = some (.string { data := #[] }) := HX1.out.cell 3; have x4 : w1.cell? ⟨w.heap.size, 4, none⟩ = some (.int .i64 0) := HX1.out.cell 4; have x5 : w1.cell? ⟨w.heap.size, 5, none⟩ = some (.slice ia 0 ic) := HX1.out.cell 5; have x6 : w1.cell? ⟨w.heap.size, 6, none⟩ = some (.slice ta 0 tc) := HX1.out.cell 6) | (go_at_call 36; refine (bits_any _ _ _ _ _ _ _ _ _ w1 _ (HI.out.keep HK1.out)).mono ?_; rintro e w2 ⟨A1, n1, c1, rfl, hn1, hb1, hk2⟩; have HN1 := hide hn1; have HB1 := hide hb1; have HK2 := hide (HK1.out.trans' hk2 (fun _ _ => id) (fun _ _ => id)); have HX2 := hide (HX1.out.keep hk2 id); have hcmp : decide ((64 : Int) < (n1 : Int)) = false := (by have := HBIG.out; rw [← hn1] at this; exact decide_eq_false (by omega)); clear hn1 hb1 hk2 HK1 HX1 x0 x1 x2 x3 x4 x5 x6) | fail
  have hn64 : n1 ≤ 64 := by rw [HN1.out]; exact HBIG.out
  go_loop [5, 6] (fun mv iv => ∃ k : Nat, k ≤ n1 ∧ mv = .int .u64 ((z.natAbs % 2 ^ k : Nat) : Int) ∧ iv = .int .i64 (k : Int)) (fun _ iv => n1 - (intOf iv).toNat)
  case atStart => exact ⟨0, Nat.zero_le _, by simp [Nat.mod_one], rfl⟩
  case round =>
    obtain ⟨k, hk, rfl, rfl⟩ := hrel
    by_cases hlt : k < n1
    · obtain ⟨b, o, rfl, hb2, hc⟩ := HB1.out.at (by omega)
      have q := hc k hlt
      rw [dig_bit] at q
      have hk0 : (0 : Int) ≤ (k : Int) := by omega
      have hk1 : (k : Int) < (n1 : Int) := by omega
      have hmod : z.natAbs % 2 ^ k < 2 ^ k := Nat.mod_lt _ (Nat.pow_pos (by decide))
      have HNX := hide (mod_bit z.natAbs k)
      obtain ⟨M, hM⟩ : ∃ M, z.natAbs % 2 ^ k = M := ⟨_, rfl⟩
      rw [hM] at hmod HNX ⊢
      cases hbit : z.natAbs.testBit k with
      | false =>
        rw [hbit] at q HNX
        clear hc hb2 hbit hM hmod
        go_wp2
        go_round
        case rel => exact ⟨k + 1, by omega, congrArg (Value.int .u64) (by rw [HNX.out]; simp), rfl⟩
        case measure => simp [intOf]; omega
      | true =>
        rw [hbit] at q HNX
        have hor := or_bit64 hmod (by omega : k < 64)
        have hpl : (2 : Nat) ^ k ≤ 2 ^ 63 := Nat.pow_le_pow_right (by decide) (by omega)
        have hpw : ((2 : Int) ^ k) = ((2 ^ k : Nat) : Int) := by push_cast; rfl
        obtain ⟨P, hP⟩ : ∃ P, (2 : Nat) ^ k = P := ⟨_, rfl⟩
        rw [hP] at hor hpl hpw
        have HOR := hide hor; have HPL := hide hpl; have HPW := hide hpw; have HPP := hide hP
        clear hc hb2 hbit hM hmod hor hpl hpw hP
        go_wp2
        go_round
        case rel => exact ⟨k + 1, by omega, congrArg (Value.int .u64) (by
          rw [HNX.out]
          simp only [Bool.toNat_true, Nat.mul_one]
          rw [HPP.out, ← HOR.out]
          have h2 := HPL.out
          have h4 : IntKind.u64.wrap (P : Int) = (P : Int) := by unfold IntKind.wrap; simp [IntKind.bits, IntKind.signed]; omega
          rw [HPW.out, h4]), rfl⟩
        case measure => simp [intOf]; omega
    · obtain rfl : k = n1 := by omega
      have hzz : z.natAbs % 2 ^ k = z.natAbs := by rw [HN1.out]; exact Nat.mod_eq_of_lt (lenB_le.1 (Nat.le_refl _))
      have hM64 : z.natAbs < 18446744073709551616 := lenB_le.1 HBIG.out
      rw [hzz]
      have x1 : w2.cell? ⟨w.heap.size, 1, none⟩ = some (.bool ng) := HX2.out.cell 1
      have HM64 := hide hM64
      clear hzz HX2 hlt
      have hbig := HM64.out
      cases ng with
      | true =>
        obtain ⟨M, rfl⟩ : ∃ M : Nat, z = -(M : Int) := ⟨z.natAbs, by have := of_decide_eq_true HSG.out.symm; omega⟩
        have hM0 : 0 < M := by have := of_decide_eq_true HSG.out.symm; omega
        rw [Int.natAbs_neg, Int.natAbs_natCast] at *
        have e1 : IntKind.u64.wrap (-(M : Int)) = 18446744073709551616 - (M : Int) := by unfold IntKind.wrap; simp [IntKind.bits, IntKind.signed]; omega
        by_cases hm : M ≤ 9223372036854775808
        · have e2 : IntKind.i64.wrap (18446744073709551616 - (M : Int)) = -(M : Int) := by unfold IntKind.wrap; simp [IntKind.bits, IntKind.signed]; omega
          have e3 : wrap64 (18446744073709551616 - (M : Int)) = -(M : Int) := by unfold wrap64; omega
          have b1 : decide ((M : Int) ≤ 9223372036854775808) = true := by simp; omega
          have HS := hide (show small64 (-(M : Int)) = true from by unfold small64; rw [decide_eq_true (by omega), decide_eq_true (by omega)]; rfl)
          go_wp2
          go_ret2
          refine ⟨?_, HK2.out⟩
          unfold int64
          rw [HS.out]; rfl
        · have b1 : decide ((M : Int) ≤ 9223372036854775808) = false := by simp; omega
          have HS := hide (show small64 (-(M : Int)) = false from by unfold small64; rw [decide_eq_false (p := -9223372036854775808 ≤ -(M : Int)) (by omega)]; rfl)
          go_wp2
          go_ret2
          refine ⟨?_, HK2.out⟩
          unfold int64
          rw [HS.out]; rfl
      | false =>
        obtain ⟨M, rfl⟩ : ∃ M : Nat, z = (M : Int) := ⟨z.natAbs, by have := of_decide_eq_false HSG.out.symm; omega⟩
        rw [Int.natAbs_natCast] at *
        by_cases hm : M < 9223372036854775808
        · have e2 : IntKind.i64.wrap (M : Int) = (M : Int) := by unfold IntKind.wrap; simp [IntKind.bits, IntKind.signed]; omega
          have b1 : decide ((9223372036854775808 : Int) ≤ (M : Int)) = false := by simp; omega
          have HS := hide (show small64 (M : Int) = true from by unfold small64; rw [decide_eq_true (by omega), decide_eq_true (by omega)]; rfl)
          go_wp2
          go_ret2
          refine ⟨?_, HK2.out⟩
          unfold int64
          rw [HS.out]; rfl
        · have b1 : decide ((9223372036854775808 : Int) ≤ (M : Int)) = true := by simp; omega
          have HS := hide (show small64 (M : Int) = false from by unfold small64; rw [decide_eq_true (p := -9223372036854775808 ≤ (M : Int)) (by omega), decide_eq_false (p := (M : Int) ≤ 9223372036854775807) (by omega)]; rfl)
          go_wp2
          go_ret2
          refine ⟨?_, HK2.out⟩
          unfold int64
          rw [HS.out]; rfl
theorem rint_any (ng : Bool) (A ia ta : Option Addr) (n c ic tc : Nat) (z : Int) (w : World) (B : Nat → Prop) (h : IA w B ng A n c z) :
    Calls Try.prog 31 #[.agg #[.int .u8 1, .bool ng, .slice A n c, .string { data := #[] }, .int .i64 0, .slice ia 0 ic, .slice ta 0 tc]] w fun e w' => e = .returned (.tuple #[.int .i64 (int64 z), .bool (small64 z)]) ∧ Keeps NoB w w' := by
  by_cases hl : lenB z.natAbs ≤ 64
  · exact rint_few ng A ia ta n c ic tc z w B h hl
  · have hs : small64 z = false := by
      cases hb : small64 z with
      | false => rfl
      | true => exact absurd (lenB_le.2 (small_len hb)) hl
    refine (rint_long ng A ia ta n c ic tc z w B h (by omega)).mono ?_
    rintro e w' ⟨rfl, hk⟩
    unfold int64
    rw [hs]
    exact ⟨rfl, hk⟩
end Go.Proofs.Ytfehciiidmgopaa
