/- Sums, differences, products and quotients, digit by digit: plain facts. -/
import Derived.Test.YtfehciiidmgopaaNum
namespace Go.Proofs.Ytfehciiidmgopaa

theorem add_step {a b p c x y s c' i : Nat} (h : a + b = p + B32 ^ i * c) (hs : x + y + c = s + B32 * c') : (a + B32 ^ i * x) + (b + B32 ^ i * y) = (p + B32 ^ i * s) + B32 ^ (i + 1) * c' := by
  have e : B32 ^ i * (x + y + c) = B32 ^ i * (s + B32 * c') := by rw [hs]
  rw [Nat.mul_add, Nat.mul_add, Nat.mul_add, ← Nat.mul_assoc, ← Nat.pow_succ, Nat.succ_eq_add_one] at e
  omega
theorem sub_step {a b p c x y s c' i : Nat} (h : p + b = a + B32 ^ i * c) (hs : s + y + c = x + B32 * c') : (p + B32 ^ i * s) + (b + B32 ^ i * y) = (a + B32 ^ i * x) + B32 ^ (i + 1) * c' := by
  have e : B32 ^ i * (s + y + c) = B32 ^ i * (x + B32 * c') := by rw [hs]
  rw [Nat.mul_add, Nat.mul_add, Nat.mul_add, ← Nat.mul_assoc, ← Nat.pow_succ, Nat.succ_eq_add_one] at e
  omega
/-- What is left of a row of noughts: digits that came one behind the other. -/
theorem pre_put (l : List Nat) {i : Nat} (v : Nat) (hi : i < l.length) : pre (l.set i v) (i + 1) = pre l i + B32 ^ i * v := by
  rw [pre, getD_set l v hi, pre_set_lo l i v i (Nat.le_refl _)]
theorem sub_end {p a b n c : Nat} (h : p + b = a + B32 ^ n * c) (hp : p < B32 ^ n) (hba : b ≤ a) : c = 0 ∧ p + b = a := by
  rcases Nat.eq_zero_or_pos c with e | e
  · exact ⟨e, by rw [e] at h; omega⟩
  · exfalso
    have : B32 ^ n * 1 ≤ B32 ^ n * c := Nat.mul_le_mul_left _ e
    omega

/-- One digit times one more, in its place. -/
theorem mul_step {o o' P x y c lo hi old i k pb : Nat} (h : o + B32 ^ (i + k) * c = P + x * (B32 ^ i * pb)) (hset : o' + B32 ^ (i + k) * old = o + B32 ^ (i + k) * lo) (hs : c + x * y + old = lo + B32 * hi) :
    o' + B32 ^ (i + (k + 1)) * hi = P + x * (B32 ^ i * (pb + B32 ^ k * y)) := by
  have e : B32 ^ (i + k) * (c + x * y + old) = B32 ^ (i + k) * (lo + B32 * hi) := by rw [hs]
  rw [Nat.mul_add, Nat.mul_add, Nat.mul_add, ← Nat.mul_assoc _ B32, ← Nat.pow_succ, Nat.succ_eq_add_one] at e
  have e2 : x * (B32 ^ i * (pb + B32 ^ k * y)) = x * (B32 ^ i * pb) + B32 ^ (i + k) * (x * y) := by
    rw [Nat.mul_add, Nat.mul_add, ← Nat.mul_assoc (B32 ^ i), ← Nat.pow_add]
    rw [Nat.mul_left_comm x (B32 ^ (i + k)) y]
  rw [e2, show i + (k + 1) = i + k + 1 from rfl]
  omega
theorem mul_room {c x y old : Nat} (hc : c < B32) (hx : x < B32) (hy : y < B32) (ho : old < B32) : c + x * y + old < 18446744073709551616 := by
  have h1 : x ≤ 4294967295 := by unfold B32 at hx; omega
  have h2 : y ≤ 4294967295 := by unfold B32 at hy; omega
  have h3 : x * y ≤ 4294967295 * 4294967295 := Nat.mul_le_mul h1 h2
  unfold B32 at hc ho
  omega
theorem mul_end {o o' a x b c i m : Nat} (h : o + B32 ^ (i + m) * c = a * b + x * (B32 ^ i * b)) (hset : o' = o + B32 ^ (i + m) * c) : o' = (a + B32 ^ i * x) * b := by
  rw [hset, h, Nat.add_mul, Nat.mul_comm (B32 ^ i) x, Nat.mul_assoc]

/-- Parted by a digit, from above. -/
theorem div_step {q q' a by' r r' d x i : Nat} {n : Nat} (h : q * by' + B32 ^ (i + 1) * r + (a + B32 ^ i * x) = n) (hq : q' = q + B32 ^ i * d) (hs : r * B32 + x = d * by' + r') : q' * by' + B32 ^ i * r' + a = n := by
  have e : B32 ^ i * (r * B32 + x) = B32 ^ i * (d * by' + r') := by rw [hs]
  rw [Nat.mul_add, Nat.mul_add] at e
  have e2 : B32 ^ (i + 1) * r = B32 ^ i * (r * B32) := by rw [Nat.pow_succ, Nat.mul_assoc, Nat.mul_comm B32 r]
  rw [hq, Nat.add_mul, Nat.mul_assoc]
  omega
theorem nat_put0 (l : List Nat) {i : Nat} (v : Nat) (hi : i < l.length) (h0 : l.getD i 0 = 0) : nat (l.set i v) = nat l + B32 ^ i * v := by
  have := nat_set l v hi
  rw [h0] at this; simpa using this
/-- A number of digits, times ten, and one more. -/
theorem ten_step {p p' c x lo hi k a d : Nat} (h : p + B32 ^ k * c = 10 * a + d) (hs : c + 10 * x = lo + B32 * hi) (hp : p' = p + B32 ^ k * lo) : p' + B32 ^ (k + 1) * hi = 10 * (a + B32 ^ k * x) + d := by
  have e : B32 ^ k * (c + 10 * x) = B32 ^ k * (lo + B32 * hi) := by rw [hs]
  rw [Nat.mul_add, Nat.mul_add, ← Nat.mul_assoc _ B32, ← Nat.pow_succ, Nat.succ_eq_add_one, Nat.mul_left_comm] at e
  rw [Nat.mul_add, hp]
  omega

/-- Noughts at the end, cut off. -/
theorem nat_cut {l : List Nat} {n : Nat} (hn : n ≤ l.length) (h : ∀ j, n ≤ j → j < l.length → l.getD j 0 = 0) : nat (l.take n) = nat l := by
  rw [nat_take l hn, ← pre_len l]
  have := pre_tail (l := l) (m := []) (i := n) (n := l.length) hn (fun j h1 h2 => by rw [h j h1 h2]; rfl)
  rw [pre_nil, pre_nil] at this
  omega
/-- The decimal digits, the lowest first. -/
def decs (n : Nat) : List Nat := if h : n = 0 then [] else n % 10 :: decs (n / 10)
termination_by n
decreasing_by exact Nat.div_lt_self (by omega) (by decide)
theorem decs_zero : decs 0 = [] := by rw [decs]; simp
theorem decs_pos {n : Nat} (h : n ≠ 0) : decs n = n % 10 :: decs (n / 10) := by rw [decs, dif_neg h]
/-- What decimal digits say, the highest first. -/
def says : Nat → List Nat → Nat
  | n, [] => n
  | n, d :: l => says (10 * n + d) l
theorem says_append : ∀ (l m : List Nat) (n : Nat), says n (l ++ m) = says (says n l) m
  | [], _, _ => rfl
  | d :: l, m, n => by rw [List.cons_append, says, says_append l m]; rfl
theorem says_decs (n : Nat) : says 0 (decs n).reverse = n := by
  induction n using Nat.strongRecOn with
  | ind n ih =>
    by_cases h : n = 0
    · subst h; rw [decs_zero]; rfl
    · rw [decs_pos h, List.reverse_cons, says_append, ih _ (Nat.div_lt_self (by omega) (by decide))]
      show 10 * (n / 10) + n % 10 = n
      omega
theorem decs_lt (n : Nat) : ∀ d ∈ decs n, d < 10 := by
  induction n using Nat.strongRecOn with
  | ind n ih =>
    by_cases h : n = 0
    · subst h; rw [decs_zero]; intro d hd; cases hd
    · rw [decs_pos h]
      intro d hd
      rcases List.mem_cons.1 hd with rfl | hd
      · exact Nat.mod_lt _ (by decide)
      · exact ih _ (Nat.div_lt_self (by omega) (by decide)) d hd
theorem decs_len {n k : Nat} (h : n < 10 ^ k) : (decs n).length ≤ k := by
  induction k generalizing n with
  | zero => obtain rfl : n = 0 := by simp at h; exact h
            rw [decs_zero]; exact Nat.le_refl _
  | succ k ih =>
    by_cases h0 : n = 0
    · subst h0; rw [decs_zero]; exact Nat.zero_le _
    · rw [decs_pos h0, List.length_cons]
      have := ih (n := n / 10) (by rw [Nat.pow_succ] at h; exact Nat.div_lt_of_lt_mul (by omega))
      omega
/-- The highest one is none. -/
theorem decs_top {n : Nat} (h : n ≠ 0) : ∃ d l, (decs n).reverse = d :: l ∧ d ≠ 0 := by
  induction n using Nat.strongRecOn with
  | ind n ih =>
    rw [decs_pos h, List.reverse_cons]
    by_cases h0 : n / 10 = 0
    · rw [h0, decs_zero]; exact ⟨n % 10, [], rfl, by omega⟩
    · obtain ⟨d, l, e, hd⟩ := ih _ (Nat.div_lt_self (by omega) (by decide)) h0
      rw [e]; exact ⟨d, l ++ [n % 10], rfl, hd⟩
end Go.Proofs.Ytfehciiidmgopaa
