/- A row of bits made digits: plain facts. -/
import Derived.Test.YtfehciiidmgopaaBitLaw
import Derived.Test.YtfehciiidmgopaaLongLaw
namespace Go.Proofs.Ytfehciiidmgopaa

/-- The digits of the first i bits. -/
structure LimbSt (N i m : Nat) (ls : List Nat) : Prop where
  low : Low ls
  len : ls.length = m
  val : nat ls = N % 2 ^ i
theorem b32_pow (j : Nat) : (B32 : Nat) ^ j = 2 ^ (32 * j) := by rw [Nat.pow_mul]
theorem LimbSt.start (N : Nat) : LimbSt N 0 0 [] := ⟨Low.nil, rfl, by simp [nat, Nat.mod_one]⟩
theorem LimbSt.more {N i m : Nat} {ls : List Nat} (h : LimbSt N i m ls) : LimbSt N i (m + 1) (ls ++ [0]) :=
  ⟨h.low.append (fun x hx => by simp at hx; subst hx; decide), by rw [List.length_append, h.len]; rfl, by rw [nat_append, h.val]; simp [nat]⟩
theorem LimbSt.no {N i m : Nat} {ls : List Nat} (h : LimbSt N i m ls) (hb : N.testBit i = false) : LimbSt N (i + 1) m ls :=
  ⟨h.low, h.len, by rw [h.val, mod_bit, hb]; simp⟩
theorem LimbSt.room {N i m q s : Nat} {ls : List Nat} (h : LimbSt N i m ls) (hi : i = 32 * q + s) (hs : s < 32) : ls.getD q 0 < 2 ^ s ∧ ls.getD q 0 ||| 2 ^ s = ls.getD q 0 + 2 ^ s ∧ ls.getD q 0 + 2 ^ s < B32 := by
  have h1 := digit_le ls q
  have h2 : N % 2 ^ i < 2 ^ i := Nat.mod_lt _ (Nat.pow_pos (by decide))
  rw [h.val] at h1
  have h3 : 2 ^ i = B32 ^ q * 2 ^ s := by rw [b32_pow, ← Nat.pow_add, hi]
  have h4 : ls.getD q 0 < 2 ^ s := by
    apply Nat.lt_of_mul_lt_mul_left (a := B32 ^ q)
    omega
  have h5 : 2 ^ (s + 1) ≤ 2 ^ 32 := Nat.pow_le_pow_right (by decide) (by omega)
  have h6 : (B32 : Nat) = 2 ^ 32 := rfl
  rw [Nat.pow_succ] at h5
  refine ⟨h4, ?_, by omega⟩
  have := Nat.two_pow_add_eq_or_of_lt h4 1
  rw [Nat.mul_one] at this
  rw [Nat.or_comm, ← this, Nat.add_comm]
theorem LimbSt.yes {N i m q s : Nat} {ls : List Nat} (h : LimbSt N i m ls) (hi : i = 32 * q + s) (hs : s < 32) (hq : q < m) (hb : N.testBit i = true) : LimbSt N (i + 1) m (ls.set q (ls.getD q 0 + 2 ^ s)) := by
  have h1 := h.room hi hs
  refine ⟨h.low.set _ _ h1.2.2, by rw [List.length_set]; exact h.len, ?_⟩
  have h2 := nat_set ls (ls.getD q 0 + 2 ^ s) (k := q) (by rw [h.len]; exact hq)
  have h3 : 2 ^ i = B32 ^ q * 2 ^ s := by rw [b32_pow, ← Nat.pow_add, hi]
  rw [Nat.mul_add, h.val, h3] at h2
  rw [mod_bit, hb, h3]
  simp only [Bool.toNat_true, Nat.mul_one]
  omega
theorem LimbSt.done {N m : Nat} {ls : List Nat} (h : LimbSt N (lenB N) m ls) (hm : m = (lenB N + 31) / 32) : ls = dig N := by
  have hv : nat ls = N := by rw [h.val]; exact Nat.mod_eq_of_lt (lenB_le.1 (Nat.le_refl _))
  have hn : Norm ls := by
    by_cases h0 : m = 0
    · exact .inl (List.eq_nil_of_length_eq_zero (h.len.trans h0))
    · refine .inr fun h1 => ?_
      have h2 : nat ls < B32 ^ (m - 1) := by
        refine low_lt h.low (fun k hk => ?_)
        by_cases hkl : k = m - 1
        · rw [hkl, ← h.len]; exact h1
        · rw [List.getD_eq_getElem?_getD, List.getElem?_eq_none (by rw [h.len]; omega)]; rfl
      rw [hv, b32_pow] at h2
      have := lenB_le.2 h2
      omega
  rw [dig_nat h.low hn, hv]
theorem big_bits' {N k : Nat} : lenB N ≤ 32 * k ↔ N < B32 ^ k := by rw [lenB_le, b32_pow]
theorem big_bits {N : Nat} : lenB N ≤ 1024 ↔ N < B32 ^ 32 := big_bits' (k := 32)
/-- The walk's words for place and bit. -/
theorem made_place {i : Nat} : ∃ q s, i = 32 * q + s ∧ s < 32 ∧ i / 32 = q ∧ i % 32 = s := ⟨i / 32, i % 32, by omega, by omega, rfl, rfl⟩
end Go.Proofs.Ytfehciiidmgopaa
