/- Rows of bits: plain facts. -/
import Derived.Test.YtfehciiidmgopaaArith
namespace Go.Proofs.Ytfehciiidmgopaa

def natB : List Bool → Nat
  | [] => 0
  | b :: l => b.toNat + 2 * natB l
theorem natB_test : ∀ (l : List Bool) (i : Nat), (natB l).testBit i = l.getD i false
  | [], i => by rw [natB, Nat.zero_testBit]; rfl
  | b :: l, 0 => by
    rw [natB, List.getD_cons_zero, Nat.testBit_zero]
    cases b <;> simp <;> omega
  | b :: l, i + 1 => by
    rw [natB, List.getD_cons_succ, ← natB_test l i, Nat.testBit_succ]
    congr 1
    cases b <;> simp <;> omega
/-- The first m bits of a number. -/
def bitsOf (n m : Nat) : List Bool := (List.range m).map n.testBit
theorem bitsOf_len (n m : Nat) : (bitsOf n m).length = m := by unfold bitsOf; simp
theorem bitsOf_get (n m i : Nat) : (bitsOf n m).getD i false = (decide (i < m) && n.testBit i) := by
  unfold bitsOf
  rw [List.getD_eq_getElem?_getD, List.getElem?_map]
  by_cases h : i < m
  · rw [List.getElem?_range h, decide_eq_true h]; rfl
  · rw [List.getElem?_eq_none (by simp; omega), decide_eq_false h]; rfl
theorem natB_bits (n m : Nat) : natB (bitsOf n m) = n % 2 ^ m := by
  apply Nat.eq_of_testBit_eq
  intro i
  rw [natB_test, bitsOf_get, Nat.testBit_mod_two_pow]
theorem ext_getD {l m : List Bool} (hl : l.length = m.length) (h : ∀ i, i < l.length → l.getD i false = m.getD i false) : l = m := by
  apply List.ext_getElem hl
  intro i h1 h2
  have := h i h1
  rw [List.getD_eq_getElem?_getD, List.getD_eq_getElem?_getD, List.getElem?_eq_getElem h1, List.getElem?_eq_getElem h2] at this
  exact this
theorem bits_natB (l : List Bool) : bitsOf (natB l) l.length = l := ext_getD (bitsOf_len _ _) (fun i hi => by
  rw [bitsOf_len] at hi
  rw [bitsOf_get, natB_test, decide_eq_true hi, Bool.true_and])
theorem natB_lt (l : List Bool) : natB l < 2 ^ l.length := by
  have := natB_bits (natB l) l.length
  rw [bits_natB] at this
  rw [this]; exact Nat.mod_lt _ (Nat.pow_pos (by decide))
theorem natB_take (l : List Bool) (k : Nat) : natB (l.take k) = natB l % 2 ^ k := by
  apply Nat.eq_of_testBit_eq
  intro i
  rw [natB_test, Nat.testBit_mod_two_pow, natB_test, List.getD_eq_getElem?_getD, List.getD_eq_getElem?_getD, List.getElem?_take]
  by_cases h : i < k
  · rw [if_pos h, decide_eq_true h, Bool.true_and]
  · rw [if_neg h, decide_eq_false h]; rfl
theorem natB_snoc (l : List Bool) (b : Bool) : natB (l ++ [b]) = natB l + 2 ^ l.length * b.toNat := by
  induction l with
  | nil => simp [natB]
  | cons c l ih => rw [List.cons_append, natB, natB, ih, List.length_cons, Nat.pow_succ, Nat.mul_add, Nat.mul_comm (2 ^ l.length) 2, Nat.mul_assoc]; omega
theorem natB_put (l : List Bool) (i : Nat) (hi : i < l.length) (h0 : l.getD i false = false) : natB (l.set i true) = natB l + 2 ^ i := by
  induction l generalizing i with
  | nil => simp at hi
  | cons c l ih =>
    cases i with
    | zero => rw [List.getD_cons_zero] at h0; subst h0; rw [List.set_cons_zero, natB, natB]; simp; omega
    | succ i =>
      rw [List.getD_cons_succ] at h0
      rw [List.set_cons_succ, natB, natB, ih i (by simpa using hi) h0, Nat.mul_add, Nat.pow_succ]; omega

/-- How many bits a number wants. -/
def lenB (n : Nat) : Nat := if n = 0 then 0 else n.log2 + 1
theorem lenB_le {n k : Nat} : lenB n ≤ k ↔ n < 2 ^ k := by
  unfold lenB
  split
  · rename_i h; subst h; exact ⟨fun _ => Nat.pow_pos (by decide), fun _ => Nat.zero_le _⟩
  · rename_i h; exact Nat.log2_lt h
theorem lenB_pos {n : Nat} : 0 < lenB n ↔ 0 < n := by unfold lenB; split <;> omega
def digB (n : Nat) : List Bool := bitsOf n (lenB n)
theorem digB_len (n : Nat) : (digB n).length = lenB n := bitsOf_len _ _
theorem natB_dig (n : Nat) : natB (digB n) = n := by rw [digB, natB_bits]; exact Nat.mod_eq_of_lt (lenB_le.1 (Nat.le_refl _))
/-- Noughts at the end, cut off. -/
theorem cut_dig {l : List Bool} {k : Nat} (hk : k ≤ l.length) (hz : ∀ j, k ≤ j → j < l.length → l.getD j false = false) (hn : k = 0 ∨ l.getD (k - 1) false = true) : l.take k = digB (natB l) ∧ k = lenB (natB l) := by
  have h1 : natB (l.take k) = natB l := by
    apply Nat.eq_of_testBit_eq
    intro i
    rw [natB_test, natB_test, List.getD_eq_getElem?_getD, List.getD_eq_getElem?_getD, List.getElem?_take]
    by_cases h : i < k
    · rw [if_pos h]
    · rw [if_neg h]
      by_cases h2 : i < l.length
      · have := hz i (by omega) h2
        rw [List.getD_eq_getElem?_getD] at this
        rw [this]; rfl
      · rw [List.getElem?_eq_none (by omega)]
  have hlen : (l.take k).length = k := by rw [List.length_take]; omega
  have h2 : natB l < 2 ^ k := by rw [← h1]; have := natB_lt (l.take k); rw [hlen] at this; exact this
  have h3 : lenB (natB l) = k := by
    apply Nat.le_antisymm (lenB_le.2 h2)
    rcases hn with rfl | hn
    · exact Nat.zero_le _
    · rcases Nat.lt_or_ge (lenB (natB l)) k with h | h
      · exfalso
        have h4 := lenB_le.1 (Nat.le_sub_one_of_lt h)
        have h5 : (natB l).testBit (k - 1) = false := Nat.testBit_lt_two_pow h4
        rw [natB_test, hn] at h5; cases h5
      · exact h
  refine ⟨?_, h3.symm⟩
  rw [digB, h3, ← h1]
  have := bits_natB (l.take k)
  rw [hlen] at this; exact this.symm

/-! ### Sums, differences, quotients -/
theorem mod_bit (a i : Nat) : a % 2 ^ (i + 1) = a % 2 ^ i + 2 ^ i * (a.testBit i).toNat := by
  rw [Nat.mod_pow_succ, Nat.toNat_testBit]
/-- A full adder. -/
def addS (x y c : Bool) : Bool := (x != y) != c
def addC (x y c : Bool) : Bool := x && y || x && c || y && c
theorem add_bit (x y c : Bool) : x.toNat + y.toNat + c.toNat = (addS x y c).toNat + 2 * (addC x y c).toNat := by cases x <;> cases y <;> cases c <;> rfl
def subC (x y c : Bool) : Bool := !x && (y || c) || x && y && c
theorem sub_bit (x y c : Bool) : (addS x y c).toNat + y.toNat + c.toNat = x.toNat + 2 * (subC x y c).toNat := by cases x <;> cases y <;> cases c <;> rfl
theorem sum_step {a b i : Nat} {out : List Bool} {c : Bool} (hl : out.length = i) (h : natB out + 2 ^ i * c.toNat = a % 2 ^ i + b % 2 ^ i) :
    natB (out ++ [addS (a.testBit i) (b.testBit i) c]) + 2 ^ (i + 1) * (addC (a.testBit i) (b.testBit i) c).toNat = a % 2 ^ (i + 1) + b % 2 ^ (i + 1) := by
  have e := add_bit (a.testBit i) (b.testBit i) c
  have e2 : 2 ^ i * ((a.testBit i).toNat + (b.testBit i).toNat + c.toNat) = 2 ^ i * ((addS (a.testBit i) (b.testBit i) c).toNat + 2 * (addC (a.testBit i) (b.testBit i) c).toNat) := by rw [e]
  rw [natB_snoc, hl, mod_bit a, mod_bit b]
  rw [Nat.mul_add, Nat.mul_add, Nat.mul_add, ← Nat.mul_assoc, ← Nat.pow_succ, Nat.succ_eq_add_one] at e2
  omega
theorem less_step {a b i : Nat} {out : List Bool} {c : Bool} (hl : out.length = i) (h : natB out + b % 2 ^ i = a % 2 ^ i + 2 ^ i * c.toNat) :
    natB (out ++ [addS (a.testBit i) (b.testBit i) c]) + b % 2 ^ (i + 1) = a % 2 ^ (i + 1) + 2 ^ (i + 1) * (subC (a.testBit i) (b.testBit i) c).toNat := by
  have e := sub_bit (a.testBit i) (b.testBit i) c
  have e2 : 2 ^ i * ((addS (a.testBit i) (b.testBit i) c).toNat + (b.testBit i).toNat + c.toNat) = 2 ^ i * ((a.testBit i).toNat + 2 * (subC (a.testBit i) (b.testBit i) c).toNat) := by rw [e]
  rw [natB_snoc, hl, mod_bit a, mod_bit b]
  rw [Nat.mul_add, Nat.mul_add, Nat.mul_add, ← Nat.mul_assoc, ← Nat.pow_succ, Nat.succ_eq_add_one] at e2
  omega
/-- The first bit from above that differs. -/
theorem below_bit {a b i : Nat} (h : a / 2 ^ (i + 1) = b / 2 ^ (i + 1)) (hne : a.testBit i ≠ b.testBit i) : decide (a < b) = b.testBit i := by
  have e1 : ∀ n : Nat, n / 2 ^ i = 2 * (n / 2 ^ (i + 1)) + (n.testBit i).toNat := fun n => by
    rw [Nat.toNat_testBit, Nat.pow_succ, ← Nat.div_div_eq_div_mul]; omega
  have ha := e1 a; have hb := e1 b
  rw [h] at ha
  have hp : 0 < 2 ^ i := Nat.pow_pos (by decide)
  cases hx : a.testBit i <;> cases hy : b.testBit i <;> rw [hx] at ha hne <;> rw [hy] at hb hne <;> simp at ha hb hne
  · have : a / 2 ^ i < b / 2 ^ i := by omega
    exact decide_eq_true (Nat.lt_of_not_le fun hle => absurd (Nat.div_le_div_right (c := 2 ^ i) hle) (by omega))
  · have : b / 2 ^ i < a / 2 ^ i := by omega
    exact decide_eq_false (fun hlt => absurd (Nat.div_le_div_right (c := 2 ^ i) (Nat.le_of_lt hlt)) (by omega))
theorem same_bit {a b i : Nat} (h : a / 2 ^ (i + 1) = b / 2 ^ (i + 1)) (he : a.testBit i = b.testBit i) : a / 2 ^ i = b / 2 ^ i := by
  have e1 : ∀ n : Nat, n / 2 ^ i = 2 * (n / 2 ^ (i + 1)) + (n.testBit i).toNat := fun n => by
    rw [Nat.toNat_testBit, Nat.pow_succ, ← Nat.div_div_eq_div_mul]; omega
  rw [e1 a, e1 b, h, he]
end Go.Proofs.Ytfehciiidmgopaa
