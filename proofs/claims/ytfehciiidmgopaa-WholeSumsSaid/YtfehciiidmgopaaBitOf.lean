/- bits: an integer's bits. -/
import Derived.Test.YtfehciiidmgopaaBitLess
namespace Go.Proofs.Ytfehciiidmgopaa
open Go.RowKit

theorem test_limb : ∀ {l : List Nat} (_ : Low l) (i k : Nat), k < 32 → (nat l).testBit (32 * i + k) = (l.getD i 0).testBit k
  | [], _, i, k, _ => by simp [nat]
  | x :: l, h, 0, k, hk => by
    have hx : x < 2 ^ 32 := h x (List.mem_cons_self ..)
    rw [nat, Nat.add_comm x, show (B32 : Nat) = 2 ^ 32 from by decide, Nat.testBit_two_pow_mul_add _ hx, Nat.mul_zero, Nat.zero_add, if_pos hk, List.getD_cons_zero]
  | x :: l, h, i + 1, k, hk => by
    have hx : x < 2 ^ 32 := h x (List.mem_cons_self ..)
    rw [nat, Nat.add_comm x, show (B32 : Nat) = 2 ^ 32 from by decide, Nat.testBit_two_pow_mul_add _ hx, if_neg (by omega), show 32 * (i + 1) + k - 32 = 32 * i + k from by omega, test_limb h.tail i k hk, List.getD_cons_succ]
theorem bitsOf_next (n m : Nat) : bitsOf n (m + 1) = bitsOf n m ++ [n.testBit m] := by
  unfold bitsOf; rw [List.range_succ, List.map_append]; rfl
theorem and_bit {x k : Nat} (hx : x < 4294967296) : (bits .and .u32 ((x : Int) / 2 ^ k) 1 == 1) = x.testBit k := by
  have h1 : x / 2 ^ k < 4294967296 := Nat.lt_of_le_of_lt (Nat.div_le_self _ _) hx
  have e1 : (x : Int) / 2 ^ k = ((x / 2 ^ k : Nat) : Int) := by push_cast; rfl
  rw [e1, show (1 : Int) = ((1 : Nat) : Int) from rfl, u32_and_nat _ 1 h1 (by decide), Nat.and_one_is_mod, Nat.testBit_eq_decide_div_mod_eq]
  by_cases h : x / 2 ^ k % 2 = 1
  · rw [h, decide_eq_true rfl]; rfl
  · rw [decide_eq_false h]
    have : x / 2 ^ k % 2 = 0 := by omega
    rw [this]; rfl
set_option maxHeartbeats 2000000 in
set_option maxRecDepth 100000 in
theorem bits_any (ng : Bool) (A ia ta : Option Addr) (n c ic tc : Nat) (z : Int) (w : World) (B : Nat → Prop) (h : IA w B ng A n c z) :
    Calls Try.prog 36 #[.agg #[.int .u8 1, .bool ng, .slice A n c, .string { data := #[] }, .int .i64 0, .slice ia 0 ic, .slice ta 0 tc]] w (BitP w z.natAbs) := by
  have hn := h.len
  have hln := h.limbs.len
  have HI := hide ((h.limbs.more (B' := fun k => k < w.heap.size) (fun k h _ => h)).keep ((Keeps.refl NoB w).alloc (.cells #[.int .u8 1, .bool ng, .slice A n c, .string { data := #[] }, .int .i64 0, .slice ia 0 ic, .slice ta 0 tc] 26)))
  have HX0 := hide (Blk.new w 26 #[.int .u8 1, .bool ng, .slice A n c, .string { data := #[] }, .int .i64 0, .slice ia 0 ic, .slice ta 0 tc])
  have HK0 := hide ((Keeps.refl NoB w).alloc (.cells #[.int .u8 1, .bool ng, .slice A n c, .string { data := #[] }, .int .i64 0, .slice ia 0 ic, .slice ta 0 tc] 26))
  have HND := hide (nat_dig z.natAbs)
  have HLW := hide (dig_low z.natAbs)
  obtain ⟨i0, hi0, hz0, hz1, hz2⟩ := info_parts Try.info4
  clear h
  go_enter Try.func36, Try.ntmps36
  go_wp2
  obtain ⟨w0, hw0⟩ : ∃ w0, w.alloc (.cells #[.int .u8 1, .bool ng, .slice A n c, .string { data := #[] }, .int .i64 0, .slice ia 0 ic, .slice ta 0 tc] 26) = w0 := ⟨_, rfl⟩
  rw [hw0] at HI HX0 HK0 ⊢
  clear hw0
  go_loopw [3, 4] (fun ov iv wr => ∃ (i m : Nat) (A : Option Addr) (c : Nat), m = 32 * i ∧ ov = .slice A m c ∧ iv = .int .i64 (i : Int) ∧ i ≤ n ∧ Hid (OutB w0 A m c (bitsOf z.natAbs m) wr)) (fun _ iv _ => n - (intOf iv).toNat)
  case atStart => exact ⟨0, 0, none, 0, rfl, rfl, rfl, Nat.zero_le _, hide (OutB.none w0)⟩
  case round =>
    obtain ⟨i, m, AO, cO, hm, rfl, rfl, hi, HO⟩ := hrel
    have x2 : wr.cell? ⟨w.heap.size, 2, none⟩ = some (.slice A n c) := (HX0.out.keep HO.out.keep id).cell 2
    have HMI := hide hm
    clear hm
    by_cases hlt : i < n
    · have hi0' : (0 : Int) ≤ (i : Int) := by omega
      have hi1 : (i : Int) < (n : Int) := by omega
      go_wp2
      go_loopw [3, 5] (fun ov kv wy => ∃ (k m : Nat) (A : Option Addr) (c : Nat), m = 32 * i + k ∧ ov = .slice A m c ∧ kv = .int .i64 (k : Int) ∧ k ≤ 32 ∧ Hid (OutB w0 A m c (bitsOf z.natAbs m) wy)) (fun _ kv _ => 32 - (intOf kv).toNat)
      case atStart => exact ⟨0, m, AO, cO, HMI.out, rfl, rfl, by omega, HO⟩
      case round =>
        obtain ⟨k, m2, A2, c2, hm2, rfl, rfl, hk, HO2⟩ := hrel
        by_cases hk2 : k < 32
        · obtain ⟨b, o, rfl, hb, hc⟩ := (HI.out.keep HO2.out.keep).at (by omega)
          have q := hc i hlt
          obtain ⟨X, hX⟩ : ∃ X, (dig z.natAbs).getD i 0 = X := ⟨_, rfl⟩
          have hXl : X < 4294967296 := hX ▸ HLW.out.get i
          obtain ⟨bv, hbv⟩ : ∃ bv, X.testBit k = bv := ⟨_, rfl⟩
          have hbit : (bits .and .u32 ((X : Int) / 2 ^ k) 1 == 1) = bv := hbv ▸ and_bit hXl
          have HNX := hide (show bitsOf z.natAbs (m2 + 1) = bitsOf z.natAbs m2 ++ [bv] from by
            rw [bitsOf_next, hm2]
            have := test_limb HLW.out i k hk2
            rw [HND.out, hX, hbv] at this
            rw [this])
          rw [hX] at q
          have x2 : wr.cell? ⟨w.heap.size, 2, none⟩ = some (.slice (some ⟨b, o, none⟩) n c) := (HX0.out.keep HO2.out.keep id).cell 2
          have hk0 : (0 : Int) ≤ (k : Int) := by omega
          have hk1 : (k : Int) < 32 := by omega
          have HM2 := hide hm2
          have hmm : m2 ≤ 2000 := by omega
          have HO3 := hide (HO2.out.step ((Keeps.refl NoB wr).alloc (.cells #[.bool bv] 4)))
          have HR3 := hide (one_reads (Blk.new wr 4 #[.bool bv]))
          clear hc hX hm2 hbv HO2 hb
          go_wp2_with (at_builtin; refine wpList_append_slab _ rfl (.tmp 17) (.tmp 28) 48 rfl 4 i0 _ 1 1 Try.underlying48 hi0 hz0 hz1 hz2 rfl (by omega) A2 m2 c2 (bools (bitsOf z.natAbs m2)) rfl HO3.out.slab (fun _ => True) true (some ⟨wr.heap.size, 0, none⟩) 1 1 [.bool bv] rfl HR3.out (Nat.zero_lt_one) (fun u hu => by simp at hu; subst hu; rfl) (by unfold maxLen; omega) (by omega) ?_)
          intro A5 c5 w5 h1 h2 h3
          have HO5 := hide (HO3.out.next h1 h2 h3)
          rw [← HNX.out] at HO5
          clear h1 h2 h3 HO3 HR3
          go_wp2
          go_roundw
          case rel => exact ⟨k + 1, m2 + 1, A5, c5, by have := HM2.out; omega, rfl, rfl, by omega, HO5⟩
          case measure => simp [intOf]; omega
        · obtain rfl : k = 32 := by omega
          go_wp2
          go_roundw
          case rel => exact ⟨i + 1, m2, A2, c2, by omega, rfl, rfl, by omega, HO2⟩
          case measure => simp [intOf]; omega
    · obtain rfl : n = i := by omega
      have hzl : natB (bitsOf z.natAbs m) = z.natAbs := by
        rw [natB_bits]
        refine Nat.mod_eq_of_lt ?_
        have h1 := nat_lt HLW.out
        rw [HND.out, hln] at h1
        rw [HMI.out, Nat.pow_mul]
        exact h1
      have hmm : m ≤ 2000 := by have := HMI.out; omega
      have HC := hide (cutb_any AO m cO _ wr _ HO.out.bits (by omega))
      rw [hzl] at HC
      clear hzl
      have hw0 : w.heap.size ≤ w0.heap.size := HK0.out.size
      go_wp2_with (go_at_call 59; refine HC.out.mono ?_; rintro e w5 ⟨m, rfl, hm, hb, hk⟩; have HB5 := hide (hb.more (B' := fun k => w.heap.size ≤ k) (fun k _ h => Nat.le_trans hw0 h)); have HM := hide hm; have HK5 := hide ((HK0.out.trans' HO.out.keep (fun _ _ h => h) (fun _ _ h => h)).trans' hk (fun _ _ h => h) (fun _ _ h => h)); clear hb hm hk)
      go_ret
      exact ⟨AO, m, cO, rfl, HM.out, HB5.out, HK5.out⟩
end Go.Proofs.Ytfehciiidmgopaa
