/- shift: an amount times 2 to the n. -/
import Derived.Test.YtfehciiidmgopaaShort
import Derived.Test.YtfehciiidmgopaaKnuth
import Derived.Lib.BitFns
namespace Go.Proofs.Ytfehciiidmgopaa
open Go.RowKit


theorem tab_size : Lib.len8tab.size = 256 := by decide +kernel
theorem tab_get (i : Nat) (h : i < Lib.len8tab.size) : (Lib.len8tab[i]'h).toNat = bitLen i := by
  have all : ∀ j : Fin 256, (Lib.len8tab[j.val]'(by rw [tab_size]; exact j.isLt)).toNat = bitLen j.val := by decide +kernel
  exact all ⟨i, by rw [tab_size] at h; exact h⟩
theorem bit_wrap {n : Nat} (h : n ≤ 8) : wrap64 (n : Int) = n := by unfold wrap64; omega
theorem bit_wrap2 {n k : Nat} (h : n ≤ 8) (hk : k ≤ 24) : wrap64 ((k : Int) + (n : Int)) = ((k + n : Nat) : Int) := by unfold wrap64; omega
theorem len_arm {x : Int} {k i : Nat} (hk : k ≤ 24) (hi : i = x.toNat / 2 ^ k) (h0 : i ≠ 0 ∨ k = 0) (h : i < 256) : wrap64 ((k : Int) + wrap64 (bitLen i : Int)) = (bitLen x.toNat : Int) := by
  have h8 := bitLen_le8 i h
  rw [bit_wrap h8, bit_wrap2 h8 hk]
  rcases h0 with h0 | rfl
  · rw [bitLen_shift x.toNat k (hi ▸ h0), ← hi]
  · rw [Nat.pow_zero, Nat.div_one] at hi; rw [hi, Nat.zero_add]
set_option maxHeartbeats 4000000 in
set_option maxRecDepth 100000 in
theorem len32_any (x : Int) (w : World) (h0 : 0 ≤ x) (h1 : x ≤ 4294967295) :
    Calls Try.prog 72 #[.int .u32 x] w fun e w' => e = .returned (.int .i64 (bitLen x.toNat : Int)) ∧ w' = w := by
  have HS := hide (show (Lib.len8tab.size : Int) = 256 from by rw [tab_size]; rfl)
  go_enter Try.func72, Try.ntmps72
  go_wp2
  all_goals first
    | (exfalso; have := HS.out; omega)
    | (go_ret; refine ⟨congrArg Ending.returned (congrArg (Value.int IntKind.i64) ?_), rfl⟩)
  all_goals (rw [tab_get])
  · exact len_arm (k := 24) (by decide) (by omega) (by omega) (by omega)
  · exact len_arm (k := 16) (by decide) (by omega) (by omega) (by omega)
  · exact len_arm (k := 8) (by decide) (by omega) (by omega) (by omega)
  · have := len_arm (k := 0) (x := x) (i := x.toNat) (by decide) (by omega) (by omega) (by omega)
    rw [← this]; simp [wrap64]
theorem lead_law {x : Nat} (h0 : 0 < x) (h1 : x < B32) : ∃ s : Nat, 32 - (bitLen x : Int) = (s : Int) ∧ s < 32 ∧ x * 2 ^ s < B32 ∧ B32 ≤ 2 * (x * 2 ^ s) := by
  obtain ⟨h2, h3⟩ := bitLen_spec x
  have h4 : bitLen x ≤ 32 := by
    rcases Nat.lt_or_ge 32 (bitLen x) with e | e
    · have h5 := h3 (by omega)
      have h6 : 2 ^ 32 ≤ 2 ^ (bitLen x - 1) := Nat.pow_le_pow_right (by decide) (by omega)
      have h7 : (2 : Nat) ^ 32 = B32 := by decide
      omega
    · exact e
  have h5 : 0 < bitLen x := by
    rcases Nat.eq_zero_or_pos (bitLen x) with e | e
    · rw [e] at h2; omega
    · exact e
  have h6 := h3 (by omega)
  generalize bitLen x = b at *
  obtain ⟨k, rfl⟩ : ∃ k, b = k + 1 := ⟨b - 1, by omega⟩
  rw [Nat.add_sub_cancel] at h6
  have e32 : (B32 : Nat) = 2 ^ 32 := by decide
  refine ⟨32 - (k + 1), by omega, by omega, ?_, ?_⟩
  · have := (Nat.mul_lt_mul_right (a := 2 ^ (32 - (k + 1))) (Nat.pow_pos (by decide))).2 h2
    rw [← Nat.pow_add, show k + 1 + (32 - (k + 1)) = 32 from by omega] at this
    rw [e32]; exact this
  · have := Nat.mul_le_mul_right (2 ^ (32 - (k + 1))) h6
    rw [← Nat.pow_add, show k + (32 - (k + 1)) = 31 from by omega] at this
    rw [e32]; omega
set_option maxRecDepth 100000 in
theorem lead_any (x : Nat) (w : World) (h0 : 0 < x) (h1 : x < B32) :
    Calls Try.prog 62 #[.int .u32 (x : Int)] w fun e w' => (∃ s : Nat, e = .returned (.int .i64 (s : Int)) ∧ s < 32 ∧ x * 2 ^ s < B32 ∧ B32 ≤ 2 * (x * 2 ^ s)) ∧ w' = w := by
  obtain ⟨s, hs, h2, h3, h4⟩ := lead_law h0 h1
  have H := hide (len32_any x w (by omega) (by unfold B32 at h1; omega))
  have HS := hide (And.intro h2 (And.intro h3 h4))
  rw [Int.toNat_natCast] at H
  unfold B32 at h1
  clear h3 h4
  generalize bitLen x = b at *
  have hb : (b : Int) = 32 - (s : Int) := by omega
  go_enter Try.func62, Try.ntmps62
  go_wp2_with (go_at_call 72; refine H.out.mono ?_; rintro e w' ⟨rfl, rfl⟩)
  go_ret
  exact ⟨⟨s, by show Ending.returned (Value.int IntKind.i64 (32 - (32 - (s : Int)))) = _; congr 2; omega, HS.out.1, HS.out.2.1, HS.out.2.2⟩, rfl⟩

/-- The loop's state: i limbs are shifted. -/
structure ShlAt (w1 : World) (O : Nat) (l : List Nat) (s i : Nat) (wr : World) (os : List Nat) : Prop where
  keep : Keeps (fun k => k = O) w1 wr
  row : RowAt wr O os
  len : os.length = l.length + 1
  low : Low os
  zero : ∀ j, i < j → os.getD j 0 = 0
  carry : os.getD i 0 < 2 ^ s
  val : nat os = pre l i * 2 ^ s
theorem ShlAt.start {w1 : World} {O s n : Nat} {l : List Nat} (h : RowAt w1 O (List.replicate (n + 1) 0)) (hn : l.length = n) : ShlAt w1 O l s 0 w1 (List.replicate (n + 1) 0) :=
  ⟨Keeps.refl _ _, h, by simp [hn], Low.zeros _, fun j _ => getD_zeros _ _, by rw [getD_zeros]; exact Nat.pow_pos (by decide), by rw [nat_zeros]; simp [pre]⟩
/-- The lower part's limb has room for what the one below hands on. -/
theorem shl_or {x s c : Nat} (hc : c < 2 ^ s) (hs : s < 32) : c ||| (x * 2 ^ s % B32) = c + x * 2 ^ s % B32 ∧ c + x * 2 ^ s % B32 < B32 := by
  have e : (B32 : Nat) = 2 ^ s * 2 ^ (32 - s) := by rw [← Nat.pow_add, show s + (32 - s) = 32 from by omega]
  have h1 : x * 2 ^ s % B32 = 2 ^ s * (x % 2 ^ (32 - s)) := by rw [e, Nat.mul_comm x, Nat.mul_mod_mul_left]
  have h2 : x % 2 ^ (32 - s) + 1 ≤ 2 ^ (32 - s) := Nat.mod_lt _ (Nat.pow_pos (by decide))
  have h3 := Nat.mul_le_mul_left (2 ^ s) h2
  rw [Nat.mul_add, Nat.mul_one] at h3
  rw [h1]
  refine ⟨?_, by rw [e]; omega⟩
  rw [Nat.or_comm, Nat.add_comm, Nat.two_pow_add_eq_or_of_lt hc]
theorem shl_hi {x s : Nat} (hx : x < B32) (hs : s < 32) : x * 2 ^ s < B32 * 2 ^ s ∧ x * 2 ^ s / B32 < 2 ^ s ∧ 2 ^ s ≤ 2147483648 := by
  have h1 : x * 2 ^ s < B32 * 2 ^ s := (Nat.mul_lt_mul_right (Nat.pow_pos (by decide))).2 hx
  exact ⟨h1, Nat.div_lt_of_lt_mul h1, Nat.pow_le_pow_right (j := 31) (by decide) (by omega)⟩
theorem ShlAt.step {w1 wr w' : World} {O s i x c y : Nat} {l os : List Nat} (h : ShlAt w1 O l s i wr os) (hx : l.getD i 0 = x) (hc : os.getD i 0 = c) (hi : i < l.length) (hs : s < 32) (hlx : x < B32) (hy : x * 2 ^ s = y)
    (hr : RowAt w' O ((os.set i (c + y % B32)).set (i + 1) (y / B32))) (hkp : Keeps (fun k => k = O) w1 w') : ShlAt w1 O l s (i + 1) w' ((os.set i (c + y % B32)).set (i + 1) (y / B32)) := by
  subst hx hc hy
  have h2 := shl_hi hlx hs
  have h3 := shl_or (x := l.getD i 0) h.carry hs
  refine ⟨hkp, hr, by rw [List.length_set, List.length_set]; exact h.len, (h.low.set _ _ h3.2).set _ _ ?_, fun j hj => ?_, ?_, ?_⟩
  · have := h2.2.2; have := h2.2.1; unfold B32 at *; omega
  · rw [getD_set_ne _ _ (by omega), getD_set_ne _ _ (by omega)]; exact h.zero j (by omega)
  · rw [getD_set _ _ (by rw [List.length_set, h.len]; omega)]; exact h2.2.1
  · have e1 := nat_put0 (os.set i (os.getD i 0 + l.getD i 0 * 2 ^ s % B32)) (l.getD i 0 * 2 ^ s / B32) (i := i + 1) (by rw [List.length_set, h.len]; omega) (by rw [getD_set_ne _ _ (by omega)]; exact h.zero _ (by omega))
    have e2 := nat_set os (os.getD i 0 + l.getD i 0 * 2 ^ s % B32) (k := i) (by rw [h.len]; omega)
    have e3 := h.val
    have e4 : B32 ^ i * (l.getD i 0 * 2 ^ s) = B32 ^ i * (l.getD i 0 * 2 ^ s % B32 + B32 * (l.getD i 0 * 2 ^ s / B32)) := by rw [Nat.mod_add_div]
    rw [Nat.mul_add, ← Nat.mul_assoc _ B32, ← Nat.pow_succ, Nat.succ_eq_add_one] at e4
    rw [Nat.mul_add] at e2
    rw [e1, pre, Nat.add_mul, Nat.mul_assoc (B32 ^ i)]
    omega

/-- What shift tells. -/
def ShiftP (w : World) (n s N : Nat) (e : Ending) (w' : World) : Prop := ∃ (O : Nat) (os : List Nat), e = .returned (.slice (some ⟨O, 0, none⟩) (n + 1 : Nat) (n + 1 : Nat)) ∧ w.heap.size ≤ O ∧ RowAt w' O os ∧ os.length = n + 1 ∧ Low os ∧ nat os = N * 2 ^ s ∧ Keeps NoB w w'
set_option maxRecDepth 100000 in
theorem shift_any (A : Option Addr) (n c s : Nat) (l : List Nat) (w : World) (B : Nat → Prop) (h : LimbsIn w B A n c l) (hn : n ≤ 40) (hs : s < 32) :
    Calls Try.prog 63 #[.slice A n c, .int .i64 (s : Int)] w (ShiftP w n s (nat l)) := by
  have hln := h.len
  have HA := hide (h.more (B' := fun k => k < w.heap.size) (fun k h _ => h))
  clear h
  obtain ⟨i0, hi0, hz0, hz1, hz2⟩ := info_parts Try.info44
  obtain ⟨m, hm⟩ : ∃ m, n + 1 = m := ⟨_, rfl⟩
  have hm1 : (n : Int) + 1 = (m : Int) := by omega
  go_enter Try.func63, Try.ntmps63
  go_wp2_with (at_make; refine wpList_make_full _ rfl _ _ 23 rfl w.heap.size 44 i0 _ 1 Try.underlying23 hi0 hz0 hz1 .i64 .i64 _ _ m rfl rfl rfl rfl (by rw [hz2]; omega) (by unfold maxLen; omega) (Nat.le_refl _) ?_)
  intro w1 hown hgrow
  have hro := row_made hown
  have hk1 : Keeps NoB w w1 := (Keeps.refl NoB w).grown hgrow (fun k h => by cases h)
  obtain ⟨O, hO⟩ : ∃ O, w.heap.size = O := ⟨_, rfl⟩
  rw [hO] at hro ⊢
  have HA1 := hide (HA.out.keep hk1)
  have HK1 := hide hk1
  rw [← hm] at hro
  have HM0 := hide (ShlAt.start (s := s) hro hln)
  have HF := hide (show ∀ k, k < w.heap.size → ¬ k = O by omega)
  have HO := hide hO
  clear hk1 hown hgrow hro hO i0 hi0 hz0 hz1 hz2 HA
  go_wp2
  go_loopw [15] (fun iv wr => ∃ (i : Nat) (os : List Nat), iv = .int .i64 (i : Int) ∧ i ≤ n ∧ Hid (ShlAt w1 O l s i wr os)) (fun iv _ => n - (intOf iv).toNat)
  case atStart => exact ⟨0, _, rfl, Nat.zero_le _, HM0⟩
  case round =>
    obtain ⟨i, os, rfl, hi, HM⟩ := hrel
    by_cases hlt : i < n
    · obtain ⟨b, o, rfl, hb, hc⟩ := (HA1.out.far HM.out.keep HF.out).at (by omega)
      have q := hc i hlt
      obtain ⟨X, hX⟩ : ∃ X, l.getD i 0 = X := ⟨_, rfl⟩
      have HXX := hide hX
      have hx : X < B32 := hX ▸ HA1.out.low.get i
      rw [hX] at q
      have hi0 : (0 : Int) ≤ (i : Int) := by omega
      have hi1 : (i : Int) < (n : Int) := by omega
      obtain ⟨Y, hY⟩ : ∃ Y, X * 2 ^ s = Y := ⟨_, rfl⟩
      obtain ⟨C, hC⟩ : ∃ C, os.getD i 0 = C := ⟨_, rfl⟩
      have hlen := HM.out.len
      have r1 : wr.cell? ⟨O, i, none⟩ = some (.int .u32 (C : Int)) := hC ▸ HM.out.row.cell (by omega)
      have r2 : wr.frozen? ⟨O, i, none⟩ = false := HM.out.row.free i
      have hor := shl_or (x := X) (hC ▸ HM.out.carry) hs
      have hhi := shl_hi hx hs
      have HST := hide (fun w' hr hkp => HM.out.step (w' := w') HXX.out hC (by omega) hs hx hY hr hkp)
      rw [hY] at hor hhi
      have HR := hide HM.out.row; have HKP := hide HM.out.keep
      have hY1 : (X : Int) * 2 ^ s = (Y : Int) := by rw [← hY]; push_cast; rfl
      have hY2 : (Y : Int) < 18446744073709551616 := by have h1 := hhi.1; have h2 := hhi.2.2; have h3 : B32 * 2 ^ s ≤ B32 * 2147483648 := Nat.mul_le_mul_left _ h2; unfold B32 at *; omega
      have hY3 : bits .or .u32 (C : Int) ((Y : Int) % 4294967296) = ((C + Y % B32 : Nat) : Int) := by
        have h1 := u32_or_nat C (Y % B32) (by have := hor.2; unfold B32 at *; omega) (Nat.mod_lt _ (by decide))
        rw [hor.1] at h1
        rw [← h1]; rfl
      have hw : IntKind.u64.wrap (IntKind.u64.wrap (X : Int) * 2 ^ s) = (Y : Int) := by
        have h1 : IntKind.u64.wrap (X : Int) = (X : Int) := by unfold B32 at hx; unfold IntKind.wrap; simp [IntKind.bits, IntKind.signed]; omega
        rw [h1, hY1]; unfold IntKind.wrap; simp [IntKind.bits, IntKind.signed]; omega
      have HW1 := hide (show bits .or .u32 (C : Int) (IntKind.u64.wrap (IntKind.u64.wrap (X : Int) * 2 ^ s) % 4294967296) = ((C + Y % B32 : Nat) : Int) from by rw [hw]; exact hY3)
      have HW2 := hide (show IntKind.u64.wrap (IntKind.u64.wrap (X : Int) * 2 ^ s) / 4294967296 % 4294967296 = ((Y / B32 : Nat) : Int) from by rw [hw]; unfold B32; omega)
      have hi2 : (i : Int) + 1 < (m : Int) := by omega
      have hi3 : (i : Int) < (m : Int) := by omega
      have hi4 : i < m := by omega
      have hi5 : i + 1 < m := by omega
      have hs0 : (0 : Int) ≤ (s : Int) := by omega
      have r3 : wr.cell? ⟨O, i + 1, none⟩ = some (.int .u32 ((os.getD (i + 1) 0 : Nat) : Int)) := HM.out.row.cell (by omega)
      have r4 : wr.frozen? ⟨O, i + 1, none⟩ = false := HM.out.row.free (i + 1)
      generalize os.getD (i + 1) 0 = C2 at *
      clear hc hX hor hhi HM hC hY hY1 hY2 hY3 hw
      go_wp2
      go_roundw
      case rel => exact ⟨i + 1, (os.set i (C + Y % B32)).set (i + 1) (Y / B32), rfl, by omega, hide (HST.out _ ((HR.out.put i HW1.out).put (i + 1) HW2.out) ((HKP.out.setCell (p := ⟨O, i, none⟩) (.inl rfl) _).setCell (p := ⟨O, i + 1, none⟩) (.inl rfl) _))⟩
      case measure => simp [intOf]; omega
    · obtain rfl : i = n := by omega
      go_wp2
      go_ret
      exact ⟨O, os, by rw [← hm]; rfl, by have := HO.out; omega, HM.out.row, by rw [HM.out.len, hln], HM.out.low, by rw [HM.out.val, ← hln, pre_len], HK1.out.trans' HM.out.keep (fun _ _ h => h) (fun k h1 h2 => by have := HO.out; omega)⟩
end Go.Proofs.Ytfehciiidmgopaa
