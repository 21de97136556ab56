/- Parting an amount by one of two limbs and more: plain facts. -/
import Derived.Test.YtfehciiidmgopaaArith
namespace Go.Proofs.Ytfehciiidmgopaa

/-! ### The guess -/
/-- top: two limbs, u0 the next one; v1, v2: the first two of the divisor. -/
structure GuessAt (top u0 v1 v2 g r : Nat) : Prop where
  val : g * v1 + r = top
  rest : r < B32
  most : g ≤ B32 + 1
  over : g = B32 + 1 → r + v1 < B32
  next : B32 ≤ g + 1 ∨ top * B32 + u0 < (g + 1) * (v1 * B32 + v2)
structure GuessEnd (top u0 v1 v2 g : Nat) : Prop where
  most : g < B32
  low : g * (v1 * B32 + v2) ≤ top * B32 + u0
  next : B32 ≤ g + 1 ∨ top * B32 + u0 < (g + 1) * (v1 * B32 + v2)
theorem GuessAt.start {u1 u2 u0 v1 v2 : Nat} (hu : u1 ≤ v1) (h2 : u2 < B32) (h0 : u0 < B32) (hv : B32 ≤ 2 * v1) (hv1 : v1 < B32) : GuessAt (u1 * B32 + u2) u0 v1 v2 ((u1 * B32 + u2) / v1) ((u1 * B32 + u2) % v1) := by
  have hp : 0 < v1 := by unfold B32 at hv; omega
  have hd := Nat.div_add_mod (u1 * B32 + u2) v1
  have hm := Nat.mod_lt (u1 * B32 + u2) hp
  have hu1 : u1 * B32 ≤ v1 * B32 := Nat.mul_le_mul_right _ hu
  generalize (u1 * B32 + u2) / v1 = g at *
  generalize (u1 * B32 + u2) % v1 = r at *
  rw [Nat.mul_comm v1 g] at hd
  have hg : g ≤ B32 + 1 := by
    rcases Nat.lt_or_ge (B32 + 1) g with h | h
    · exfalso
      have : (B32 + 2) * v1 ≤ g * v1 := Nat.mul_le_mul_right _ h
      rw [Nat.add_mul, Nat.mul_comm B32 v1] at this
      omega
    · exact h
  refine ⟨hd, by omega, hg, fun e => ?_, .inr ?_⟩
  · rw [e, Nat.add_mul, Nat.mul_comm B32 v1] at hd; omega
  · have e1 := Nat.add_mul g 1 v1
    have h1 : u1 * B32 + u2 + 1 ≤ (g + 1) * v1 := by clear hu1; unfold B32 at *; omega
    have h3 : (u1 * B32 + u2 + 1) * B32 ≤ (g + 1) * v1 * B32 := Nat.mul_le_mul_right _ h1
    rw [Nat.mul_add, ← Nat.mul_assoc]
    rw [Nat.add_mul] at h3
    have : 0 ≤ (g + 1) * v2 := Nat.zero_le _
    omega
/-- One too many: the next round. -/
theorem GuessAt.step {top u0 v1 v2 g r : Nat} (h : GuessAt top u0 v1 v2 g r) (hc : B32 ≤ g ∨ r * B32 + u0 < g * v2) (hg : 0 < g) : (∀ (hr : r + v1 < B32), GuessAt top u0 v1 v2 (g - 1) (r + v1)) ∧ (B32 ≤ r + v1 → v2 < B32 → GuessEnd top u0 v1 v2 (g - 1)) := by
  obtain ⟨k, rfl⟩ : ∃ k, g = k + 1 := ⟨g - 1, by omega⟩
  rw [Nat.add_sub_cancel]
  have hv := h.val
  have hm := h.most
  have hval : k * v1 + (r + v1) = top := by rw [Nat.add_mul] at hv; omega
  have hnext : B32 ≤ k + 1 ∨ top * B32 + u0 < (k + 1) * (v1 * B32 + v2) := by
    rcases hc with hc | hc
    · exact .inl hc
    · right
      have e1 : (k + 1) * (v1 * B32 + v2) = (k + 1) * v1 * B32 + (k + 1) * v2 := by rw [Nat.mul_add, ← Nat.mul_assoc]
      have e2 : top * B32 = (k + 1) * v1 * B32 + r * B32 := by rw [← hv, Nat.add_mul]
      have h := Nat.add_lt_add_left hc ((k + 1) * v1 * B32)
      rw [← Nat.add_assoc, ← e2, ← e1] at h
      exact h
  constructor
  · intro hr
    exact ⟨hval, hr, by omega, fun e => by omega, hnext⟩
  · intro hr h2
    have hk : k < B32 := by
      rcases Nat.lt_or_ge k B32 with e | e
      · exact e
      · exact absurd (h.over (by omega)) (by omega)
    refine ⟨hk, ?_, hnext⟩
    have h1 : B32 * B32 ≤ (r + v1) * B32 := Nat.mul_le_mul_right _ hr
    have h3 : k * v2 ≤ B32 * B32 := Nat.mul_le_mul (Nat.le_of_lt hk) (Nat.le_of_lt h2)
    rw [← hval, Nat.mul_add, ← Nat.mul_assoc, Nat.add_mul]
    omega
theorem GuessAt.done {top u0 v1 v2 g r : Nat} (h : GuessAt top u0 v1 v2 g r) (h1 : g < B32) (h2 : g * v2 ≤ r * B32 + u0) : GuessEnd top u0 v1 v2 g := by
  refine ⟨h1, ?_, h.next⟩
  rw [← h.val, Nat.mul_add, Nat.add_mul, ← Nat.mul_assoc]; omega

/-- The guess is the quotient's digit, or one more. -/
theorem GuessEnd.up {top u0 v1 v2 g U V P ul vl : Nat} (h : GuessEnd top u0 v1 v2 g) (hU : U = (top * B32 + u0) * P + ul) (hul : ul < P) (hV : V = (v1 * B32 + v2) * P + vl) (hUV : U < V * B32) : U < (g + 1) * V := by
  rcases h.next with e | e
  · exact Nat.lt_of_lt_of_le hUV (by rw [Nat.mul_comm]; exact Nat.mul_le_mul_right _ e)
  · have h1 : (top * B32 + u0 + 1) * P ≤ (g + 1) * (v1 * B32 + v2) * P := Nat.mul_le_mul_right _ e
    rw [hV, Nat.mul_add, ← Nat.mul_assoc]
    rw [Nat.add_mul, Nat.one_mul] at h1
    have : 0 ≤ (g + 1) * vl := Nat.zero_le _
    omega
theorem GuessEnd.down {top u0 v1 v2 g U V P ul vl : Nat} (h : GuessEnd top u0 v1 v2 g) (hU : U = (top * B32 + u0) * P + ul) (hvl : vl < P) (hV : V = (v1 * B32 + v2) * P + vl) (hv : 0 < v1) : g * V < U + V := by
  have h1 : g * (v1 * B32 + v2) * P ≤ (top * B32 + u0) * P := Nat.mul_le_mul_right _ h.low
  have h2 : g * vl ≤ B32 * vl := Nat.mul_le_mul_right _ (Nat.le_of_lt h.most)
  have h3 : B32 * (vl + 1) ≤ B32 * P := Nat.mul_le_mul_left _ hvl
  have h4 : 1 * B32 * P ≤ v1 * B32 * P := Nat.mul_le_mul_right _ (Nat.mul_le_mul_right _ hv)
  have h5 : (v1 * B32 + v2) * P = v1 * B32 * P + v2 * P := Nat.add_mul _ _ _
  rw [Nat.one_mul] at h4
  rw [Nat.mul_add, Nat.mul_one] at h3
  have h6 : g * V = g * (v1 * B32 + v2) * P + g * vl := by rw [hV, Nat.mul_add, ← Nat.mul_assoc]
  rw [h6, hU, hV, h5]
  have hb : 0 < B32 := by decide
  omega

/-! ### Taken away, and put back -/
theorem sub_mul_step {un un' u g pv y c b lo hi d x b' i j : Nat} (h : un + B32 ^ j * (g * pv) = u + B32 ^ (j + i) * (c + b)) (hs : c + g * y = lo + B32 * hi) (hd : d + lo + b = x + B32 * b') (hset : un' + B32 ^ (j + i) * x = un + B32 ^ (j + i) * d) :
    un' + B32 ^ j * (g * (pv + B32 ^ i * y)) = u + B32 ^ (j + (i + 1)) * (hi + b') := by
  have e : B32 ^ (j + i) * (c + g * y + d + b) = B32 ^ (j + i) * (x + B32 * (hi + b')) := by rw [show c + g * y + d + b = x + B32 * (hi + b') from by rw [Nat.mul_add]; omega]
  rw [Nat.mul_add, Nat.mul_add, Nat.mul_add, Nat.mul_add (B32 ^ (j + i)) x, ← Nat.mul_assoc _ B32, ← Nat.pow_succ, Nat.succ_eq_add_one] at e
  have e2 : B32 ^ j * (g * (pv + B32 ^ i * y)) = B32 ^ j * (g * pv) + B32 ^ (j + i) * (g * y) := by
    rw [Nat.mul_add, Nat.mul_add, Nat.mul_left_comm g (B32 ^ i) y, ← Nat.mul_assoc (B32 ^ j) (B32 ^ i), ← Nat.pow_add]
  rw [Nat.mul_add] at h
  rw [e2, show j + (i + 1) = j + i + 1 from rfl]
  omega
theorem sub_mul_last {un un' u gv c b d x b' k : Nat} (h : un + gv = u + B32 ^ k * (c + b)) (hd : d + c + b = x + B32 * b') (hset : un' + B32 ^ k * x = un + B32 ^ k * d) : un' + gv = u + B32 ^ (k + 1) * b' := by
  have e : B32 ^ k * (d + c + b) = B32 ^ k * (x + B32 * b') := by rw [hd]
  rw [Nat.mul_add, Nat.mul_add, Nat.mul_add (B32 ^ k) x, ← Nat.mul_assoc _ B32, ← Nat.pow_succ, Nat.succ_eq_add_one] at e
  rw [Nat.mul_add] at h
  omega
theorem back_step {an an' u pv y c s x c' i j : Nat} (h : an + B32 ^ (j + i) * c = u + B32 ^ j * pv) (hs : x + y + c = s + B32 * c') (hset : an' + B32 ^ (j + i) * x = an + B32 ^ (j + i) * s) : an' + B32 ^ (j + (i + 1)) * c' = u + B32 ^ j * (pv + B32 ^ i * y) := by
  have e : B32 ^ (j + i) * (x + y + c) = B32 ^ (j + i) * (s + B32 * c') := by rw [hs]
  rw [Nat.mul_add, Nat.mul_add, Nat.mul_add (B32 ^ (j + i)) s, ← Nat.mul_assoc _ B32, ← Nat.pow_succ, Nat.succ_eq_add_one] at e
  rw [Nat.mul_add, ← Nat.mul_assoc (B32 ^ j), ← Nat.pow_add, show j + (i + 1) = j + i + 1 from rfl]
  omega
theorem back_last {an an' u pv c s x c' k : Nat} (h : an + B32 ^ k * c = u + pv) (hs : x + c = s + B32 * c') (hset : an' + B32 ^ k * x = an + B32 ^ k * s) : an' + B32 ^ (k + 1) * c' = u + pv := by
  have e : B32 ^ k * (x + c) = B32 ^ k * (s + B32 * c') := by rw [hs]
  rw [Nat.mul_add, Nat.mul_add, ← Nat.mul_assoc _ B32, ← Nat.pow_succ, Nat.succ_eq_add_one] at e
  omega

/-- The state between two digits: behind digit j the rest is below the divisor. -/
structure LongAt (N V j q u : Nat) : Prop where
  val : q * V + u = N
  rest : u < V * B32 ^ j
theorem LongAt.none {N V j q u u' G k : Nat} (h : LongAt N V (j + 1) q u) {U ul : Nat} (hU : u = B32 ^ j * U + ul) (hul : ul < B32 ^ j) (h1 : U < (G + 1) * V) (hb : u' + B32 ^ j * (G * V) = u + B32 ^ k * 0) :
    LongAt N V j (q + B32 ^ j * G) u' := by
  rw [Nat.mul_zero, Nat.add_zero] at hb
  refine ⟨?_, ?_⟩
  · rw [Nat.add_mul, Nat.mul_assoc]; have := h.val; omega
  · have h2 : B32 ^ j * (U + 1) ≤ B32 ^ j * ((G + 1) * V) := Nat.mul_le_mul_left _ h1
    have h3 : B32 ^ j * ((G + 1) * V) = B32 ^ j * (G * V) + V * B32 ^ j := by rw [Nat.add_mul, Nat.one_mul, Nat.mul_add, Nat.mul_comm (B32 ^ j) V]
    rw [Nat.mul_add, Nat.mul_one] at h2
    omega
/-- It was one too many: what was taken away is more than there was. -/
theorem borrow_more {u u' gv k : Nat} (hb : u' + gv = u + B32 ^ k * 1) (hl : u' < B32 ^ k) : u < gv := by omega
theorem LongAt.back {N V j q u u2 u3 G k c' : Nat} (h : LongAt N V (j + 1) q u) {U ul : Nat} (hU : u = B32 ^ j * U + ul) (hul : ul < B32 ^ j) (h2 : G * V < U + V) (hG : 0 < G)
    (hb : u2 + B32 ^ j * (G * V) = u + B32 ^ k * 1) (hl2 : u2 < B32 ^ k) (hc : u3 + B32 ^ k * c' = u2 + B32 ^ j * V) (hl3 : u3 < B32 ^ k) (hc' : c' ≤ 1) :
    LongAt N V j (q + B32 ^ j * (G - 1)) u3 := by
  obtain ⟨g, rfl⟩ : ∃ g, G = g + 1 := ⟨G - 1, by omega⟩
  rw [Nat.add_sub_cancel]
  have hm := borrow_more hb hl2
  have e1 : B32 ^ j * ((g + 1) * V) = B32 ^ j * (g * V) + B32 ^ j * V := by rw [Nat.add_mul, Nat.one_mul, Nat.mul_add]
  have h3 : g * V < U := by rw [Nat.add_mul] at h2; omega
  have h4 : B32 ^ j * (g * V + 1) ≤ B32 ^ j * U := Nat.mul_le_mul_left _ h3
  rw [Nat.mul_add, Nat.mul_one] at h4
  rw [e1] at hb hm
  have hc1 : c' = 1 := by
    rcases Nat.eq_zero_or_pos c' with e | e
    · rw [e] at hc; omega
    · omega
  rw [hc1] at hc
  have hu3 : u3 + B32 ^ j * (g * V) = u := by omega
  refine ⟨?_, ?_⟩
  · rw [Nat.add_mul, Nat.mul_assoc]; have := h.val; omega
  · rw [Nat.mul_comm V]; omega

/-! ### Shifted -/
theorem shl_step {o a x i n lo hi p : Nat} (h : o + B32 ^ i * p = a * 2 ^ n) (hs : x * 2 ^ n = lo + B32 * hi) : o + B32 ^ i * (p + lo) + B32 ^ (i + 1) * hi = (a + B32 ^ i * x) * 2 ^ n := by
  have e : B32 ^ i * (x * 2 ^ n) = B32 ^ i * (lo + B32 * hi) := by rw [hs]
  rw [Nat.mul_add, ← Nat.mul_assoc _ B32, ← Nat.pow_succ, Nat.succ_eq_add_one] at e
  rw [Nat.mul_add, Nat.add_mul, Nat.mul_assoc (B32 ^ i) x]
  omega
end Go.Proofs.Ytfehciiidmgopaa
