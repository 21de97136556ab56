/- Parted bit by bit: plain facts. -/
import Derived.Test.YtfehciiidmgopaaBitLaw
namespace Go.Proofs.Ytfehciiidmgopaa
theorem natB_cons (x : Bool) (l : List Bool) : natB (x :: l) = x.toNat + 2 * natB l := rfl
theorem part_no {q b k R a : Nat} {x : Bool} (h : q * b + 2 ^ (k + 1) * R + a % 2 ^ (k + 1) = a) (hx : a.testBit k = x) : q * b + 2 ^ k * (x.toNat + 2 * R) + a % 2 ^ k = a := by
  rw [mod_bit a k, hx] at h
  have e : 2 ^ (k + 1) * R = 2 ^ k * (2 * R) := by rw [Nat.pow_succ, Nat.mul_assoc]
  rw [e] at h
  rw [Nat.mul_add]
  omega
theorem part_yes {q b k R a : Nat} {x : Bool} (h : q * b + 2 ^ (k + 1) * R + a % 2 ^ (k + 1) = a) (hx : a.testBit k = x) (hle : b ≤ x.toNat + 2 * R) : (q + 2 ^ k) * b + 2 ^ k * (x.toNat + 2 * R - b) + a % 2 ^ k = a := by
  have h1 := part_no h hx
  have e : 2 ^ k * (x.toNat + 2 * R) = 2 ^ k * (x.toNat + 2 * R - b) + 2 ^ k * b := by rw [← Nat.mul_add]; congr 1; omega
  rw [e] at h1
  rw [Nat.add_mul]
  omega
theorem part_room {R b : Nat} {x : Bool} (h : R < b) : x.toNat + 2 * R - b < b := by cases x <;> simp <;> omega
end Go.Proofs.Ytfehciiidmgopaa
