/- Int: an integer's number. -/
import Derived.Test.YtfehciiidmgopaaAwake
namespace Go.Proofs.Ytfehciiidmgopaa
open Go.RowKit


def small64 (z : Int) : Bool := decide (-9223372036854775808 ≤ z) && decide (z ≤ 9223372036854775807)
def int64 (z : Int) : Int := if small64 z then z else 0
theorem limbs_few {n : Nat} (h : n < 18446744073709551616) : (dig n).length ≤ 2 := by
  rw [dig_len]; exact h
theorem limbs_few' {n : Nat} (h : (dig n).length ≤ 2) : n < 18446744073709551616 := dig_len.1 h
theorem small_len {z : Int} (h : small64 z = true) : z.natAbs < 18446744073709551616 := by
  unfold small64 at h
  simp only [Bool.and_eq_true, decide_eq_true_eq] at h
  omega

set_option maxHeartbeats 400000 in
set_option maxRecDepth 100000 in
theorem int_long (ng : Bool) (A ia ta : Option Addr) (n c ic tc : Nat) (z : Int) (w : World) (B : Nat → Prop) (h : IA w B ng A n c z) (hl : 2 < n) :
    Calls Try.prog 22 #[.agg #[.int .u8 1, .bool ng, .slice A n c, .string { data := #[] }, .int .i64 0, .slice ia 0 ic, .slice ta 0 tc]] w fun e w' => e = .returned (.tuple #[.int .i64 0, .bool false]) ∧ Keeps NoB w w' := by
  have hb : decide ((2 : Int) < (n : Int)) = true := by simp; omega
  have hn := h.len
  have hln := h.limbs.len
  have HSG := hide h.sign
  have HI := hide h
  clear h
  go_enter Try.func22, Try.ntmps22
  have HX0 := hide (Blk.new w 26 #[.int .u8 1, .bool ng, .slice A n c, .string { data := #[] }, .int .i64 0, .slice ia 0 ic, .slice ta 0 tc])
  have HK0 := hide ((Keeps.refl NoB w).alloc (.cells #[.int .u8 1, .bool ng, .slice A n c, .string { data := #[] }, .int .i64 0, .slice ia 0 ic, .slice ta 0 tc] 26))
  go_wp2_with (go_at_call 24; refine ((HI.out.keep HK0.out).right _ _ _ _).mono ?_; rintro e w1 ⟨rfl, hk1⟩; have HK1 := hide (HK0.out.trans' hk1 (fun _ _ => id) (fun _ _ => id)); have HX1 := hide (HX0.out.keep hk1 id); clear hk1 HX0 HK0; have x0 : w1.cell? ⟨w.heap.size, 0, none⟩ = some (.int .u8 1) := HX1.out.cell 0; have x1 : w1.cell? ⟨w.heap.size, 1, none⟩ = some (.bool ng) := HX1.out.cell 1; have x2 : w1.cell? ⟨w.heap.size, 2, none⟩ = some (.slice A n c) := HX1.out.cell 2; have x3 : w1.cell? ⟨w.heap.size, 3, none⟩ = some (.string { data := #[] }) := HX1.out.cell 3; have x4 : w1.cell? ⟨w.heap.size, 4, none⟩ = some (.int .i64 0) := HX1.out.cell 4; have x5 : w1.cell? ⟨w.heap.size, 5, none⟩ = some (.slice ia 0 ic) := HX1.out.cell 5; have x6 : w1.cell? ⟨w.heap.size, 6, none⟩ = some (.slice ta 0 tc) := HX1.out.cell 6)
  go_ret2
  exact ⟨rfl, HK1.out⟩
set_option maxHeartbeats 2000000 in
set_option maxRecDepth 100000 in
theorem int_few (ng : Bool) (A ia ta : Option Addr) (n c ic tc : Nat) (z : Int) (w : World) (B : Nat → Prop) (h : IA w B ng A n c z) (hl : n ≤ 2) :
    Calls Try.prog 22 #[.agg #[.int .u8 1, .bool ng, .slice A n c, .string { data := #[] }, .int .i64 0, .slice ia 0 ic, .slice ta 0 tc]] w fun e w' => e = .returned (.tuple #[.int .i64 (int64 z), .bool (small64 z)]) ∧ Keeps NoB w w' := by
  have hb : decide ((2 : Int) < (n : Int)) = false := by simp; omega
  have hn := h.len
  have hln := h.limbs.len
  have HSG := hide h.sign
  have HI := hide h
  clear h
  go_enter Try.func22, Try.ntmps22
  have HX0 := hide (Blk.new w 26 #[.int .u8 1, .bool ng, .slice A n c, .string { data := #[] }, .int .i64 0, .slice ia 0 ic, .slice ta 0 tc])
  have HK0 := hide ((Keeps.refl NoB w).alloc (.cells #[.int .u8 1, .bool ng, .slice A n c, .string { data := #[] }, .int .i64 0, .slice ia 0 ic, .slice ta 0 tc] 26))
  go_wp2_with (go_at_call 24; refine ((HI.out.keep HK0.out).right _ _ _ _).mono ?_; rintro e w1 ⟨rfl, hk1⟩; have HK1 := hide (HK0.out.trans' hk1 (fun _ _ => id) (fun _ _ => id)); have HX1 := hide (HX0.out.keep hk1 id); clear hk1 HX0 HK0; have x0 : w1.cell? ⟨w.heap.size, 0, none⟩ = some (.int .u8 1) := HX1.out.cell 0; have x1 : w1.cell? ⟨w.heap.size, 1, none⟩ = some (.bool ng) := HX1.out.cell 1; have x2 : w1.cell? ⟨w.heap.size, 2, none⟩ = some (.slice A n c) := HX1.out.cell 2; have x3 : w1.cell? ⟨w.heap.size, 3, none⟩ = some (.string { data := #[] }) := HX1.out.cell 3; have x4 : w1.cell? ⟨w.heap.size, 4, none⟩ = some (.int .i64 0) := HX1.out.cell 4; have x5 : w1.cell? ⟨w.heap.size, 5, none⟩ = some (.slice ia 0 ic) := HX1.out.cell 5; have x6 : w1.cell? ⟨w.heap.size, 6, none⟩ = some (.slice ta 0 tc) := HX1.out.cell 6)
  go_loop [4, 19] (fun mv iv => ∃ k : Nat, k ≤ n ∧ mv = .int .u64 ((pre (dig z.natAbs) k : Nat) : Int) ∧ iv = .int .i64 (k : Int)) (fun _ iv => n - (intOf iv).toNat)
  case atStart => exact ⟨0, Nat.zero_le _, rfl, rfl⟩
  case round =>
    obtain ⟨k, hk, rfl, rfl⟩ := hrel
    by_cases hlt : k < n
    · obtain ⟨b, o, rfl, hb2, hc⟩ := (HI.out.limbs.keep HK1.out).at (by omega)
      have q := hc k hlt
      have hX2 : (dig z.natAbs).getD k 0 < B32 := (dig_low z.natAbs).get k
      have hk0 : (0 : Int) ≤ (k : Int) := by omega
      have hk1 : (k : Int) < (n : Int) := by omega
      have hp2 := pre_lt (dig_low z.natAbs) k
      obtain ⟨X, hX⟩ : ∃ X, (dig z.natAbs).getD k 0 = X := ⟨_, rfl⟩
      obtain ⟨M, hM⟩ : ∃ M, pre (dig z.natAbs) k = M := ⟨_, rfl⟩
      have HP := hide (show pre (dig z.natAbs) (k + 1) = M + B32 ^ k * X from by rw [← hM, ← hX]; rfl)
      rw [hX] at q hX2
      rw [hM] at hp2
      rw [hM]
      clear hX hM
      unfold B32 at hX2 hp2
      rcases (by omega : k = 0 ∨ k = 1) with rfl | rfl
      · obtain rfl : M = 0 := by simpa using hp2
        have e1 : bits .or .u64 (0 : Int) (X : Int) = (X : Int) := by
          have := u64_or_nat 0 X (by decide) (by omega)
          rw [Nat.zero_or] at this; exact this
        rw [Nat.add_zero] at q
        clear hc hp2
        go_wp2
        go_round
        case rel => exact ⟨1, by omega, congrArg (Value.int .u64) (by rw [HP.out]; simp), rfl⟩
        case measure => simp [intOf]; omega
      · have e1 : bits .or .u64 (M : Int) ((X : Int) * 4294967296) = ((M + X * 4294967296 : Nat) : Int) := by
          have h1 := u64_or_nat (X * 4294967296) M (by omega) (by omega)
          have h2 := u64_or_nat M (X * 4294967296) (by omega) (by omega)
          rw [Nat.or_comm] at h2
          rw [nat_join 32 _ _ (by omega) (by omega)] at h2
          rw [show ((X : Int) * 4294967296) = ((X * 4294967296 : Nat) : Int) from rfl, h2, Nat.add_comm]
        have hl2 : n = 2 := by omega
        have HL2 := hide hl2
        clear hc hl2
        go_wp2
        go_round
        case rel => exact ⟨2, by have := HL2.out; omega, congrArg (Value.int .u64) (by rw [HP.out]; simp [Nat.mul_comm]), rfl⟩
        case measure => have := HL2.out; simp [intOf]; omega
    · obtain rfl : k = n := by omega
      have hpn : pre (dig z.natAbs) k = z.natAbs := by rw [pre_ge _ _ (by omega), nat_dig]
      have hbig : z.natAbs < 18446744073709551616 := limbs_few' (by omega)
      rw [hpn]
      have HZ := hide (And.intro HSG.out hbig)
      cases ng with
      | true =>
        obtain ⟨M, rfl⟩ : ∃ M : Nat, z = -(M : Int) := ⟨z.natAbs, by have := of_decide_eq_true HSG.out.symm; omega⟩
        have hM0 : 0 < M := by have := of_decide_eq_true HSG.out.symm; omega
        rw [Int.natAbs_neg, Int.natAbs_natCast] at *
        have e1 : IntKind.u64.wrap (-(M : Int)) = 18446744073709551616 - (M : Int) := by unfold IntKind.wrap; simp [IntKind.bits, IntKind.signed]; omega
        clear hpn
        by_cases hm : M ≤ 9223372036854775808
        · have e2 : IntKind.i64.wrap (18446744073709551616 - (M : Int)) = -(M : Int) := by unfold IntKind.wrap; simp [IntKind.bits, IntKind.signed]; omega
          have e3 : wrap64 (18446744073709551616 - (M : Int)) = -(M : Int) := by unfold wrap64; omega
          have b1 : decide ((M : Int) ≤ 9223372036854775808) = true := by simp; omega
          have HS := hide (show small64 (-(M : Int)) = true from by unfold small64; rw [decide_eq_true (by omega), decide_eq_true (by omega)]; rfl)
          go_wp2
          go_ret2
          refine ⟨?_, HK1.out⟩
          unfold int64
          rw [HS.out]; rfl
        · have b1 : decide ((M : Int) ≤ 9223372036854775808) = false := by simp; omega
          have HS := hide (show small64 (-(M : Int)) = false from by unfold small64; rw [decide_eq_false (p := -9223372036854775808 ≤ -(M : Int)) (by omega)]; rfl)
          go_wp2
          go_ret2
          refine ⟨?_, HK1.out⟩
          unfold int64
          rw [HS.out]; rfl
      | false =>
        obtain ⟨M, rfl⟩ : ∃ M : Nat, z = (M : Int) := ⟨z.natAbs, by have := of_decide_eq_false HSG.out.symm; omega⟩
        rw [Int.natAbs_natCast] at *
        clear hpn
        by_cases hm : M < 9223372036854775808
        · have e2 : IntKind.i64.wrap (M : Int) = (M : Int) := by unfold IntKind.wrap; simp [IntKind.bits, IntKind.signed]; omega
          have b1 : decide ((9223372036854775808 : Int) ≤ (M : Int)) = false := by simp; omega
          have HS := hide (show small64 (M : Int) = true from by unfold small64; rw [decide_eq_true (by omega), decide_eq_true (by omega)]; rfl)
          go_wp2
          go_ret2
          refine ⟨?_, HK1.out⟩
          unfold int64
          rw [HS.out]; rfl
        · have b1 : decide ((9223372036854775808 : Int) ≤ (M : Int)) = true := by simp; omega
          have HS := hide (show small64 (M : Int) = false from by unfold small64; rw [decide_eq_true (p := -9223372036854775808 ≤ (M : Int)) (by omega), decide_eq_false (p := (M : Int) ≤ 9223372036854775807) (by omega)]; rfl)
          go_wp2
          go_ret2
          refine ⟨?_, HK1.out⟩
          unfold int64
          rw [HS.out]; rfl
end Go.Proofs.Ytfehciiidmgopaa
