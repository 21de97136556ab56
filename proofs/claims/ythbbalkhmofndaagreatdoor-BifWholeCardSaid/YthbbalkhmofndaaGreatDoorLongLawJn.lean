/- Parting an amount by one of two limbs and more: plain facts. shift: an amount times 2 to the n. long: an amount parted by one of two limbs and more: its states, and what each step keeps. -/
import Derived.Test.YthbbalkhmofndaaGreatDoorCompareJn
import Derived.Test.YthbbalkhmofndaaGreatDoorTextJn
import Derived.Lib.BitFns
import Derived.Test.YthbbalkhmofndaaGreatDoorAddJn
namespace Go.Proofs.YthbbalkhmofndaaGreatDoor
set_option maxRecDepth 100000

/-! ### The guess -/
/-- top: two limbs, u0 the next one; v1, v2: the first two of the divisor. -/
structure GuessAt (top u0 v1 v2 g r : Nat) : Prop where
  val : g * v1 + r = top
  rest : r < B32
  most : g ≤ B32 + 1
  over : g = B32 + 1 → r + v1 < B32
  next : B32 ≤ g + 1 ∨ top * B32 + u0 < (g + 1) * (v1 * B32 + v2)
structure GuessEnd (top u0 v1 v2 g : Nat) : Prop where
  most : g < B32
  low : g * (v1 * B32 + v2) ≤ top * B32 + u0
  next : B32 ≤ g + 1 ∨ top * B32 + u0 < (g + 1) * (v1 * B32 + v2)
theorem GuessAt.start {u1 u2 u0 v1 v2 : Nat} (hu : u1 ≤ v1) (h2 : u2 < B32) (h0 : u0 < B32) (hv : B32 ≤ 2 * v1) (hv1 : v1 < B32) : GuessAt (u1 * B32 + u2) u0 v1 v2 ((u1 * B32 + u2) / v1) ((u1 * B32 + u2) % v1) := by
  have hp : 0 < v1 := by unfold B32 at hv; omega
  have hd := Nat.div_add_mod (u1 * B32 + u2) v1
  have hm := Nat.mod_lt (u1 * B32 + u2) hp
  have hu1 : u1 * B32 ≤ v1 * B32 := Nat.mul_le_mul_right _ hu
  generalize (u1 * B32 + u2) / v1 = g at *
  generalize (u1 * B32 + u2) % v1 = r at *
  rw [Nat.mul_comm v1 g] at hd
  have hg : g ≤ B32 + 1 := by
    rcases Nat.lt_or_ge (B32 + 1) g with h | h
    · exfalso
      have : (B32 + 2) * v1 ≤ g * v1 := Nat.mul_le_mul_right _ h
      rw [Nat.add_mul, Nat.mul_comm B32 v1] at this
      omega
    · exact h
  refine ⟨hd, by omega, hg, fun e => ?_, .inr ?_⟩
  · rw [e, Nat.add_mul, Nat.mul_comm B32 v1] at hd; omega
  · have e1 := Nat.add_mul g 1 v1
    have h1 : u1 * B32 + u2 + 1 ≤ (g + 1) * v1 := by clear hu1; unfold B32 at *; omega
    have h3 : (u1 * B32 + u2 + 1) * B32 ≤ (g + 1) * v1 * B32 := Nat.mul_le_mul_right _ h1
    rw [Nat.mul_add, ← Nat.mul_assoc]
    rw [Nat.add_mul] at h3
    have : 0 ≤ (g + 1) * v2 := Nat.zero_le _
    omega
/-- One too many: the next round. -/
theorem GuessAt.step {top u0 v1 v2 g r : Nat} (h : GuessAt top u0 v1 v2 g r) (hc : B32 ≤ g ∨ r * B32 + u0 < g * v2) (hg : 0 < g) : (∀ (hr : r + v1 < B32), GuessAt top u0 v1 v2 (g - 1) (r + v1)) ∧ (B32 ≤ r + v1 → v2 < B32 → GuessEnd top u0 v1 v2 (g - 1)) := by
  obtain ⟨k, rfl⟩ : ∃ k, g = k + 1 := ⟨g - 1, by omega⟩
  rw [Nat.add_sub_cancel]
  have hv := h.val
  have hm := h.most
  have hval : k * v1 + (r + v1) = top := by rw [Nat.add_mul] at hv; omega
  have hnext : B32 ≤ k + 1 ∨ top * B32 + u0 < (k + 1) * (v1 * B32 + v2) := by
    rcases hc with hc | hc
    · exact .inl hc
    · right
      have e1 : (k + 1) * (v1 * B32 + v2) = (k + 1) * v1 * B32 + (k + 1) * v2 := by rw [Nat.mul_add, ← Nat.mul_assoc]
      have e2 : top * B32 = (k + 1) * v1 * B32 + r * B32 := by rw [← hv, Nat.add_mul]
      have h := Nat.add_lt_add_left hc ((k + 1) * v1 * B32)
      rw [← Nat.add_assoc, ← e2, ← e1] at h
      exact h
  constructor
  · intro hr
    exact ⟨hval, hr, by omega, fun e => by omega, hnext⟩
  · intro hr h2
    have hk : k < B32 := by
      rcases Nat.lt_or_ge k B32 with e | e
      · exact e
      · exact absurd (h.over (by omega)) (by omega)
    refine ⟨hk, ?_, hnext⟩
    have h1 : B32 * B32 ≤ (r + v1) * B32 := Nat.mul_le_mul_right _ hr
    have h3 : k * v2 ≤ B32 * B32 := Nat.mul_le_mul (Nat.le_of_lt hk) (Nat.le_of_lt h2)
    rw [← hval, Nat.mul_add, ← Nat.mul_assoc, Nat.add_mul]
    omega
theorem GuessAt.done {top u0 v1 v2 g r : Nat} (h : GuessAt top u0 v1 v2 g r) (h1 : g < B32) (h2 : g * v2 ≤ r * B32 + u0) : GuessEnd top u0 v1 v2 g := by
  refine ⟨h1, ?_, h.next⟩
  rw [← h.val, Nat.mul_add, Nat.add_mul, ← Nat.mul_assoc]; omega

/-- The guess is the quotient's digit, or one more. -/
theorem GuessEnd.up {top u0 v1 v2 g U V P ul vl : Nat} (h : GuessEnd top u0 v1 v2 g) (hU : U = (top * B32 + u0) * P + ul) (hul : ul < P) (hV : V = (v1 * B32 + v2) * P + vl) (hUV : U < V * B32) : U < (g + 1) * V := by
  rcases h.next with e | e
  · exact Nat.lt_of_lt_of_le hUV (by rw [Nat.mul_comm]; exact Nat.mul_le_mul_right _ e)
  · have h1 : (top * B32 + u0 + 1) * P ≤ (g + 1) * (v1 * B32 + v2) * P := Nat.mul_le_mul_right _ e
    rw [hV, Nat.mul_add, ← Nat.mul_assoc]
    rw [Nat.add_mul, Nat.one_mul] at h1
    have : 0 ≤ (g + 1) * vl := Nat.zero_le _
    omega
theorem GuessEnd.down {top u0 v1 v2 g U V P ul vl : Nat} (h : GuessEnd top u0 v1 v2 g) (hU : U = (top * B32 + u0) * P + ul) (hvl : vl < P) (hV : V = (v1 * B32 + v2) * P + vl) (hv : 0 < v1) : g * V < U + V := by
  have h1 : g * (v1 * B32 + v2) * P ≤ (top * B32 + u0) * P := Nat.mul_le_mul_right _ h.low
  have h2 : g * vl ≤ B32 * vl := Nat.mul_le_mul_right _ (Nat.le_of_lt h.most)
  have h3 : B32 * (vl + 1) ≤ B32 * P := Nat.mul_le_mul_left _ hvl
  have h4 : 1 * B32 * P ≤ v1 * B32 * P := Nat.mul_le_mul_right _ (Nat.mul_le_mul_right _ hv)
  have h5 : (v1 * B32 + v2) * P = v1 * B32 * P + v2 * P := Nat.add_mul _ _ _
  rw [Nat.one_mul] at h4
  rw [Nat.mul_add, Nat.mul_one] at h3
  have h6 : g * V = g * (v1 * B32 + v2) * P + g * vl := by rw [hV, Nat.mul_add, ← Nat.mul_assoc]
  rw [h6, hU, hV, h5]
  have hb : 0 < B32 := by decide
  omega

/-! ### Taken away, and put back -/
theorem sub_mul_step {un un' u g pv y c b lo hi d x b' i j : Nat} (h : un + B32 ^ j * (g * pv) = u + B32 ^ (j + i) * (c + b)) (hs : c + g * y = lo + B32 * hi) (hd : d + lo + b = x + B32 * b') (hset : un' + B32 ^ (j + i) * x = un + B32 ^ (j + i) * d) :
    un' + B32 ^ j * (g * (pv + B32 ^ i * y)) = u + B32 ^ (j + (i + 1)) * (hi + b') := by
  have e : B32 ^ (j + i) * (c + g * y + d + b) = B32 ^ (j + i) * (x + B32 * (hi + b')) := by rw [show c + g * y + d + b = x + B32 * (hi + b') from by rw [Nat.mul_add]; omega]
  rw [Nat.mul_add, Nat.mul_add, Nat.mul_add, Nat.mul_add (B32 ^ (j + i)) x, ← Nat.mul_assoc _ B32, ← Nat.pow_succ, Nat.succ_eq_add_one] at e
  have e2 : B32 ^ j * (g * (pv + B32 ^ i * y)) = B32 ^ j * (g * pv) + B32 ^ (j + i) * (g * y) := by
    rw [Nat.mul_add, Nat.mul_add, Nat.mul_left_comm g (B32 ^ i) y, ← Nat.mul_assoc (B32 ^ j) (B32 ^ i), ← Nat.pow_add]
  rw [Nat.mul_add] at h
  rw [e2, show j + (i + 1) = j + i + 1 from rfl]
  omega
theorem sub_mul_last {un un' u gv c b d x b' k : Nat} (h : un + gv = u + B32 ^ k * (c + b)) (hd : d + c + b = x + B32 * b') (hset : un' + B32 ^ k * x = un + B32 ^ k * d) : un' + gv = u + B32 ^ (k + 1) * b' := by
  have e : B32 ^ k * (d + c + b) = B32 ^ k * (x + B32 * b') := by rw [hd]
  rw [Nat.mul_add, Nat.mul_add, Nat.mul_add (B32 ^ k) x, ← Nat.mul_assoc _ B32, ← Nat.pow_succ, Nat.succ_eq_add_one] at e
  rw [Nat.mul_add] at h
  omega
theorem back_step {an an' u pv y c s x c' i j : Nat} (h : an + B32 ^ (j + i) * c = u + B32 ^ j * pv) (hs : x + y + c = s + B32 * c') (hset : an' + B32 ^ (j + i) * x = an + B32 ^ (j + i) * s) : an' + B32 ^ (j + (i + 1)) * c' = u + B32 ^ j * (pv + B32 ^ i * y) := by
  have e : B32 ^ (j + i) * (x + y + c) = B32 ^ (j + i) * (s + B32 * c') := by rw [hs]
  rw [Nat.mul_add, Nat.mul_add, Nat.mul_add (B32 ^ (j + i)) s, ← Nat.mul_assoc _ B32, ← Nat.pow_succ, Nat.succ_eq_add_one] at e
  rw [Nat.mul_add, ← Nat.mul_assoc (B32 ^ j), ← Nat.pow_add, show j + (i + 1) = j + i + 1 from rfl]
  omega
theorem back_last {an an' u pv c s x c' k : Nat} (h : an + B32 ^ k * c = u + pv) (hs : x + c = s + B32 * c') (hset : an' + B32 ^ k * x = an + B32 ^ k * s) : an' + B32 ^ (k + 1) * c' = u + pv := by
  have e : B32 ^ k * (x + c) = B32 ^ k * (s + B32 * c') := by rw [hs]
  rw [Nat.mul_add, Nat.mul_add, ← Nat.mul_assoc _ B32, ← Nat.pow_succ, Nat.succ_eq_add_one] at e
  omega

/-- The state between two digits: behind digit j the rest is below the divisor. -/
structure LongAt (N V j q u : Nat) : Prop where
  val : q * V + u = N
  rest : u < V * B32 ^ j
theorem LongAt.none {N V j q u u' G k : Nat} (h : LongAt N V (j + 1) q u) {U ul : Nat} (hU : u = B32 ^ j * U + ul) (hul : ul < B32 ^ j) (h1 : U < (G + 1) * V) (hb : u' + B32 ^ j * (G * V) = u + B32 ^ k * 0) :
    LongAt N V j (q + B32 ^ j * G) u' := by
  rw [Nat.mul_zero, Nat.add_zero] at hb
  refine ⟨?_, ?_⟩
  · rw [Nat.add_mul, Nat.mul_assoc]; have := h.val; omega
  · have h2 : B32 ^ j * (U + 1) ≤ B32 ^ j * ((G + 1) * V) := Nat.mul_le_mul_left _ h1
    have h3 : B32 ^ j * ((G + 1) * V) = B32 ^ j * (G * V) + V * B32 ^ j := by rw [Nat.add_mul, Nat.one_mul, Nat.mul_add, Nat.mul_comm (B32 ^ j) V]
    rw [Nat.mul_add, Nat.mul_one] at h2
    omega
/-- It was one too many: what was taken away is more than there was. -/
theorem borrow_more {u u' gv k : Nat} (hb : u' + gv = u + B32 ^ k * 1) (hl : u' < B32 ^ k) : u < gv := by omega
theorem LongAt.back {N V j q u u2 u3 G k c' : Nat} (h : LongAt N V (j + 1) q u) {U ul : Nat} (hU : u = B32 ^ j * U + ul) (hul : ul < B32 ^ j) (h2 : G * V < U + V) (hG : 0 < G)
    (hb : u2 + B32 ^ j * (G * V) = u + B32 ^ k * 1) (hl2 : u2 < B32 ^ k) (hc : u3 + B32 ^ k * c' = u2 + B32 ^ j * V) (hl3 : u3 < B32 ^ k) (hc' : c' ≤ 1) :
    LongAt N V j (q + B32 ^ j * (G - 1)) u3 := by
  obtain ⟨g, rfl⟩ : ∃ g, G = g + 1 := ⟨G - 1, by omega⟩
  rw [Nat.add_sub_cancel]
  have hm := borrow_more hb hl2
  have e1 : B32 ^ j * ((g + 1) * V) = B32 ^ j * (g * V) + B32 ^ j * V := by rw [Nat.add_mul, Nat.one_mul, Nat.mul_add]
  have h3 : g * V < U := by rw [Nat.add_mul] at h2; omega
  have h4 : B32 ^ j * (g * V + 1) ≤ B32 ^ j * U := Nat.mul_le_mul_left _ h3
  rw [Nat.mul_add, Nat.mul_one] at h4
  rw [e1] at hb hm
  have hc1 : c' = 1 := by
    rcases Nat.eq_zero_or_pos c' with e | e
    · rw [e] at hc; omega
    · omega
  rw [hc1] at hc
  have hu3 : u3 + B32 ^ j * (g * V) = u := by omega
  refine ⟨?_, ?_⟩
  · rw [Nat.add_mul, Nat.mul_assoc]; have := h.val; omega
  · rw [Nat.mul_comm V]; omega

/-! ### Shifted -/
theorem shl_step {o a x i n lo hi p : Nat} (h : o + B32 ^ i * p = a * 2 ^ n) (hs : x * 2 ^ n = lo + B32 * hi) : o + B32 ^ i * (p + lo) + B32 ^ (i + 1) * hi = (a + B32 ^ i * x) * 2 ^ n := by
  have e : B32 ^ i * (x * 2 ^ n) = B32 ^ i * (lo + B32 * hi) := by rw [hs]
  rw [Nat.mul_add, ← Nat.mul_assoc _ B32, ← Nat.pow_succ, Nat.succ_eq_add_one] at e
  rw [Nat.mul_add, Nat.add_mul, Nat.mul_assoc (B32 ^ i) x]
  omega
end Go.Proofs.YthbbalkhmofndaaGreatDoor
namespace Go.Proofs.YthbbalkhmofndaaGreatDoor
set_option maxRecDepth 100000
open Go.RowKit


theorem tab_size : Lib.len8tab.size = 256 := by decide +kernel
theorem tab_get (i : Nat) (h : i < Lib.len8tab.size) : (Lib.len8tab[i]'h).toNat = bitLen i := by
  have all : ∀ j : Fin 256, (Lib.len8tab[j.val]'(by rw [tab_size]; exact j.isLt)).toNat = bitLen j.val := by decide +kernel
  exact all ⟨i, by rw [tab_size] at h; exact h⟩
theorem bit_wrap {n : Nat} (h : n ≤ 8) : wrap64 (n : Int) = n := by unfold wrap64; omega
theorem bit_wrap2 {n k : Nat} (h : n ≤ 8) (hk : k ≤ 24) : wrap64 ((k : Int) + (n : Int)) = ((k + n : Nat) : Int) := by unfold wrap64; omega
theorem len_arm {x : Int} {k i : Nat} (hk : k ≤ 24) (hi : i = x.toNat / 2 ^ k) (h0 : i ≠ 0 ∨ k = 0) (h : i < 256) : wrap64 ((k : Int) + wrap64 (bitLen i : Int)) = (bitLen x.toNat : Int) := by
  have h8 := bitLen_le8 i h
  rw [bit_wrap h8, bit_wrap2 h8 hk]
  rcases h0 with h0 | rfl
  · rw [bitLen_shift x.toNat k (hi ▸ h0), ← hi]
  · rw [Nat.pow_zero, Nat.div_one] at hi; rw [hi, Nat.zero_add]
set_option maxHeartbeats 4000000 in
set_option maxRecDepth 100000 in
theorem len32_any (x : Int) (w : World) (h0 : 0 ≤ x) (h1 : x ≤ 4294967295) :
    Calls Tryz.prog 130 #[.int .u32 x] w fun e w' => e = .returned (.int .i64 (bitLen x.toNat : Int)) ∧ w' = w := by
  have HS := hide (show (Lib.len8tab.size : Int) = 256 from by rw [tab_size]; rfl)
  go_enter Tryz.func130, Tryz.ntmps130
  go_wp2
  all_goals first
    | (exfalso; have := HS.out; omega)
    | (go_ret; refine ⟨congrArg Ending.returned (congrArg (Value.int IntKind.i64) ?_), rfl⟩)
  all_goals (rw [tab_get])
  · exact len_arm (k := 24) (by decide) (by omega) (by omega) (by omega)
  · exact len_arm (k := 16) (by decide) (by omega) (by omega) (by omega)
  · exact len_arm (k := 8) (by decide) (by omega) (by omega) (by omega)
  · have := len_arm (k := 0) (x := x) (i := x.toNat) (by decide) (by omega) (by omega) (by omega)
    rw [← this]; simp [wrap64]
theorem lead_law {x : Nat} (h0 : 0 < x) (h1 : x < B32) : ∃ s : Nat, 32 - (bitLen x : Int) = (s : Int) ∧ s < 32 ∧ x * 2 ^ s < B32 ∧ B32 ≤ 2 * (x * 2 ^ s) := by
  obtain ⟨h2, h3⟩ := bitLen_spec x
  have h4 : bitLen x ≤ 32 := by
    rcases Nat.lt_or_ge 32 (bitLen x) with e | e
    · have h5 := h3 (by omega)
      have h6 : 2 ^ 32 ≤ 2 ^ (bitLen x - 1) := Nat.pow_le_pow_right (by decide) (by omega)
      have h7 : (2 : Nat) ^ 32 = B32 := by decide
      omega
    · exact e
  have h5 : 0 < bitLen x := by
    rcases Nat.eq_zero_or_pos (bitLen x) with e | e
    · rw [e] at h2; omega
    · exact e
  have h6 := h3 (by omega)
  generalize bitLen x = b at *
  obtain ⟨k, rfl⟩ : ∃ k, b = k + 1 := ⟨b - 1, by omega⟩
  rw [Nat.add_sub_cancel] at h6
  have e32 : (B32 : Nat) = 2 ^ 32 := by decide
  refine ⟨32 - (k + 1), by omega, by omega, ?_, ?_⟩
  · have := (Nat.mul_lt_mul_right (a := 2 ^ (32 - (k + 1))) (Nat.pow_pos (by decide))).2 h2
    rw [← Nat.pow_add, show k + 1 + (32 - (k + 1)) = 32 from by omega] at this
    rw [e32]; exact this
  · have := Nat.mul_le_mul_right (2 ^ (32 - (k + 1))) h6
    rw [← Nat.pow_add, show k + (32 - (k + 1)) = 31 from by omega] at this
    rw [e32]; omega
set_option maxRecDepth 100000 in
theorem lead_any (x : Nat) (w : World) (h0 : 0 < x) (h1 : x < B32) :
    Calls Tryz.prog 113 #[.int .u32 (x : Int)] w fun e w' => (∃ s : Nat, e = .returned (.int .i64 (s : Int)) ∧ s < 32 ∧ x * 2 ^ s < B32 ∧ B32 ≤ 2 * (x * 2 ^ s)) ∧ w' = w := by
  obtain ⟨s, hs, h2, h3, h4⟩ := lead_law h0 h1
  have H := hide (len32_any x w (by omega) (by unfold B32 at h1; omega))
  have HS := hide (And.intro h2 (And.intro h3 h4))
  rw [Int.toNat_natCast] at H
  unfold B32 at h1
  clear h3 h4
  generalize bitLen x = b at *
  have hb : (b : Int) = 32 - (s : Int) := by omega
  go_enter Tryz.func113, Tryz.ntmps113
  go_wp2_with (go_at_call 130; refine H.out.mono ?_; rintro e w' ⟨rfl, rfl⟩)
  go_ret
  exact ⟨⟨s, by show Ending.returned (Value.int IntKind.i64 (32 - (32 - (s : Int)))) = _; congr 2; omega, HS.out.1, HS.out.2.1, HS.out.2.2⟩, rfl⟩

/-- The loop's state: i limbs are shifted. -/
structure ShlAt (w1 : World) (O : Nat) (l : List Nat) (s i : Nat) (wr : World) (os : List Nat) : Prop where
  keep : Keeps (fun k => k = O) w1 wr
  row : RowAt wr O os
  len : os.length = l.length + 1
  low : Low os
  zero : ∀ j, i < j → os.getD j 0 = 0
  carry : os.getD i 0 < 2 ^ s
  val : nat os = pre l i * 2 ^ s
theorem ShlAt.start {w1 : World} {O s n : Nat} {l : List Nat} (h : RowAt w1 O (List.replicate (n + 1) 0)) (hn : l.length = n) : ShlAt w1 O l s 0 w1 (List.replicate (n + 1) 0) :=
  ⟨Keeps.refl _ _, h, by simp [hn], Low.zeros _, fun j _ => getD_zeros _ _, by rw [getD_zeros]; exact Nat.pow_pos (by decide), by rw [nat_zeros]; simp [pre]⟩
/-- The lower part's limb has room for what the one below hands on. -/
theorem shl_or {x s c : Nat} (hc : c < 2 ^ s) (hs : s < 32) : c ||| (x * 2 ^ s % B32) = c + x * 2 ^ s % B32 ∧ c + x * 2 ^ s % B32 < B32 := by
  have e : (B32 : Nat) = 2 ^ s * 2 ^ (32 - s) := by rw [← Nat.pow_add, show s + (32 - s) = 32 from by omega]
  have h1 : x * 2 ^ s % B32 = 2 ^ s * (x % 2 ^ (32 - s)) := by rw [e, Nat.mul_comm x, Nat.mul_mod_mul_left]
  have h2 : x % 2 ^ (32 - s) + 1 ≤ 2 ^ (32 - s) := Nat.mod_lt _ (Nat.pow_pos (by decide))
  have h3 := Nat.mul_le_mul_left (2 ^ s) h2
  rw [Nat.mul_add, Nat.mul_one] at h3
  rw [h1]
  refine ⟨?_, by rw [e]; omega⟩
  rw [Nat.or_comm, Nat.add_comm, Nat.two_pow_add_eq_or_of_lt hc]
theorem shl_hi {x s : Nat} (hx : x < B32) (hs : s < 32) : x * 2 ^ s < B32 * 2 ^ s ∧ x * 2 ^ s / B32 < 2 ^ s ∧ 2 ^ s ≤ 2147483648 := by
  have h1 : x * 2 ^ s < B32 * 2 ^ s := (Nat.mul_lt_mul_right (Nat.pow_pos (by decide))).2 hx
  exact ⟨h1, Nat.div_lt_of_lt_mul h1, Nat.pow_le_pow_right (j := 31) (by decide) (by omega)⟩
theorem ShlAt.step {w1 wr w' : World} {O s i x c y : Nat} {l os : List Nat} (h : ShlAt w1 O l s i wr os) (hx : l.getD i 0 = x) (hc : os.getD i 0 = c) (hi : i < l.length) (hs : s < 32) (hlx : x < B32) (hy : x * 2 ^ s = y)
    (hr : RowAt w' O ((os.set i (c + y % B32)).set (i + 1) (y / B32))) (hkp : Keeps (fun k => k = O) w1 w') : ShlAt w1 O l s (i + 1) w' ((os.set i (c + y % B32)).set (i + 1) (y / B32)) := by
  subst hx hc hy
  have h2 := shl_hi hlx hs
  have h3 := shl_or (x := l.getD i 0) h.carry hs
  refine ⟨hkp, hr, by rw [List.length_set, List.length_set]; exact h.len, (h.low.set _ _ h3.2).set _ _ ?_, fun j hj => ?_, ?_, ?_⟩
  · have := h2.2.2; have := h2.2.1; unfold B32 at *; omega
  · rw [getD_set_ne _ _ (by omega), getD_set_ne _ _ (by omega)]; exact h.zero j (by omega)
  · rw [getD_set _ _ (by rw [List.length_set, h.len]; omega)]; exact h2.2.1
  · have e1 := nat_put0 (os.set i (os.getD i 0 + l.getD i 0 * 2 ^ s % B32)) (l.getD i 0 * 2 ^ s / B32) (i := i + 1) (by rw [List.length_set, h.len]; omega) (by rw [getD_set_ne _ _ (by omega)]; exact h.zero _ (by omega))
    have e2 := nat_set os (os.getD i 0 + l.getD i 0 * 2 ^ s % B32) (k := i) (by rw [h.len]; omega)
    have e3 := h.val
    have e4 : B32 ^ i * (l.getD i 0 * 2 ^ s) = B32 ^ i * (l.getD i 0 * 2 ^ s % B32 + B32 * (l.getD i 0 * 2 ^ s / B32)) := by rw [Nat.mod_add_div]
    rw [Nat.mul_add, ← Nat.mul_assoc _ B32, ← Nat.pow_succ, Nat.succ_eq_add_one] at e4
    rw [Nat.mul_add] at e2
    rw [e1, pre, Nat.add_mul, Nat.mul_assoc (B32 ^ i)]
    omega

/-- What shift tells. -/
def ShiftP (w : World) (n s N : Nat) (e : Ending) (w' : World) : Prop := ∃ (O : Nat) (os : List Nat), e = .returned (.slice (some ⟨O, 0, none⟩) (n + 1 : Nat) (n + 1 : Nat)) ∧ w.heap.size ≤ O ∧ RowAt w' O os ∧ os.length = n + 1 ∧ Low os ∧ nat os = N * 2 ^ s ∧ Keeps NoB w w'
set_option maxRecDepth 100000 in
theorem shift_any (A : Option Addr) (n c s : Nat) (l : List Nat) (w : World) (B : Nat → Prop) (h : LimbsIn w B A n c l) (hn : n ≤ 40) (hs : s < 32) :
    Calls Tryz.prog 114 #[.slice A n c, .int .i64 (s : Int)] w (ShiftP w n s (nat l)) := by
  have hln := h.len
  have HA := hide (h.more (B' := fun k => k < w.heap.size) (fun k h _ => h))
  clear h
  obtain ⟨i0, hi0, hz0, hz1, hz2⟩ := info_parts Tryz.info44
  obtain ⟨m, hm⟩ : ∃ m, n + 1 = m := ⟨_, rfl⟩
  have hm1 : (n : Int) + 1 = (m : Int) := by omega
  go_enter Tryz.func114, Tryz.ntmps114
  go_wp2_with (at_make; refine wpList_make_full _ rfl _ _ 23 rfl w.heap.size 44 i0 _ 1 Tryz.underlying23 hi0 hz0 hz1 .i64 .i64 _ _ m rfl rfl rfl rfl (by rw [hz2]; omega) (by unfold maxLen; omega) (Nat.le_refl _) ?_)
  intro w1 hown hgrow
  have hro := row_made hown
  have hk1 : Keeps NoB w w1 := (Keeps.refl NoB w).grown hgrow (fun k h => by cases h)
  obtain ⟨O, hO⟩ : ∃ O, w.heap.size = O := ⟨_, rfl⟩
  rw [hO] at hro ⊢
  have HA1 := hide (HA.out.keep hk1)
  have HK1 := hide hk1
  rw [← hm] at hro
  have HM0 := hide (ShlAt.start (s := s) hro hln)
  have HF := hide (show ∀ k, k < w.heap.size → ¬ k = O by omega)
  have HO := hide hO
  clear hk1 hown hgrow hro hO i0 hi0 hz0 hz1 hz2 HA
  go_wp2
  go_loopw [15] (fun iv wr => ∃ (i : Nat) (os : List Nat), iv = .int .i64 (i : Int) ∧ i ≤ n ∧ Hid (ShlAt w1 O l s i wr os)) (fun iv _ => n - (intOf iv).toNat)
  case atStart => exact ⟨0, _, rfl, Nat.zero_le _, HM0⟩
  case round =>
    obtain ⟨i, os, rfl, hi, HM⟩ := hrel
    by_cases hlt : i < n
    · obtain ⟨b, o, rfl, hb, hc⟩ := (HA1.out.far HM.out.keep HF.out).at (by omega)
      have q := hc i hlt
      obtain ⟨X, hX⟩ : ∃ X, l.getD i 0 = X := ⟨_, rfl⟩
      have HXX := hide hX
      have hx : X < B32 := hX ▸ HA1.out.low.get i
      rw [hX] at q
      have hi0 : (0 : Int) ≤ (i : Int) := by omega
      have hi1 : (i : Int) < (n : Int) := by omega
      obtain ⟨Y, hY⟩ : ∃ Y, X * 2 ^ s = Y := ⟨_, rfl⟩
      obtain ⟨C, hC⟩ : ∃ C, os.getD i 0 = C := ⟨_, rfl⟩
      have hlen := HM.out.len
      have r1 : wr.cell? ⟨O, i, none⟩ = some (.int .u32 (C : Int)) := hC ▸ HM.out.row.cell (by omega)
      have r2 : wr.frozen? ⟨O, i, none⟩ = false := HM.out.row.free i
      have hor := shl_or (x := X) (hC ▸ HM.out.carry) hs
      have hhi := shl_hi hx hs
      have HST := hide (fun w' hr hkp => HM.out.step (w' := w') HXX.out hC (by omega) hs hx hY hr hkp)
      rw [hY] at hor hhi
      have HR := hide HM.out.row; have HKP := hide HM.out.keep
      have hY1 : (X : Int) * 2 ^ s = (Y : Int) := by rw [← hY]; push_cast; rfl
      have hY2 : (Y : Int) < 18446744073709551616 := by have h1 := hhi.1; have h2 := hhi.2.2; have h3 : B32 * 2 ^ s ≤ B32 * 2147483648 := Nat.mul_le_mul_left _ h2; unfold B32 at *; omega
      have hY3 : bits .or .u32 (C : Int) ((Y : Int) % 4294967296) = ((C + Y % B32 : Nat) : Int) := by
        have h1 := u32_or_nat C (Y % B32) (by have := hor.2; unfold B32 at *; omega) (Nat.mod_lt _ (by decide))
        rw [hor.1] at h1
        rw [← h1]; rfl
      have hw : IntKind.u64.wrap (IntKind.u64.wrap (X : Int) * 2 ^ s) = (Y : Int) := by
        have h1 : IntKind.u64.wrap (X : Int) = (X : Int) := by unfold B32 at hx; unfold IntKind.wrap; simp [IntKind.bits, IntKind.signed]; omega
        rw [h1, hY1]; unfold IntKind.wrap; simp [IntKind.bits, IntKind.signed]; omega
      have HW1 := hide (show bits .or .u32 (C : Int) (IntKind.u64.wrap (IntKind.u64.wrap (X : Int) * 2 ^ s) % 4294967296) = ((C + Y % B32 : Nat) : Int) from by rw [hw]; exact hY3)
      have HW2 := hide (show IntKind.u64.wrap (IntKind.u64.wrap (X : Int) * 2 ^ s) / 4294967296 % 4294967296 = ((Y / B32 : Nat) : Int) from by rw [hw]; unfold B32; omega)
      have hi2 : (i : Int) + 1 < (m : Int) := by omega
      have hi3 : (i : Int) < (m : Int) := by omega
      have hi4 : i < m := by omega
      have hi5 : i + 1 < m := by omega
      have hs0 : (0 : Int) ≤ (s : Int) := by omega
      have r3 : wr.cell? ⟨O, i + 1, none⟩ = some (.int .u32 ((os.getD (i + 1) 0 : Nat) : Int)) := HM.out.row.cell (by omega)
      have r4 : wr.frozen? ⟨O, i + 1, none⟩ = false := HM.out.row.free (i + 1)
      generalize os.getD (i + 1) 0 = C2 at *
      clear hc hX hor hhi HM hC hY hY1 hY2 hY3 hw
      go_wp2
      go_roundw
      case rel => exact ⟨i + 1, (os.set i (C + Y % B32)).set (i + 1) (Y / B32), rfl, by omega, hide (HST.out _ ((HR.out.put i HW1.out).put (i + 1) HW2.out) ((HKP.out.setCell (p := ⟨O, i, none⟩) (.inl rfl) _).setCell (p := ⟨O, i + 1, none⟩) (.inl rfl) _))⟩
      case measure => simp [intOf]; omega
    · obtain rfl : i = n := by omega
      go_wp2
      go_ret
      exact ⟨O, os, by rw [← hm]; rfl, by have := HO.out; omega, HM.out.row, by rw [HM.out.len, hln], HM.out.low, by rw [HM.out.val, ← hln, pre_len], HK1.out.trans' HM.out.keep (fun _ _ h => h) (fun k h1 h2 => by have := HO.out; omega)⟩
end Go.Proofs.YthbbalkhmofndaaGreatDoor
namespace Go.Proofs.YthbbalkhmofndaaGreatDoor
set_option maxRecDepth 100000
open Go.RowKit

theorem pre_split (l : List Nat) (j : Nat) : ∀ i, pre l (j + i) = pre l j + B32 ^ j * pre (l.drop j) i
  | 0 => by simp [pre]
  | i + 1 => by
    rw [show j + (i + 1) = (j + i) + 1 from rfl, pre, pre, pre_split l j i, Nat.mul_add, ← Nat.mul_assoc, ← Nat.pow_add, List.getD_eq_getElem?_getD, List.getD_eq_getElem?_getD, List.getElem?_drop]
    omega
theorem digit_le (l : List Nat) (k : Nat) : B32 ^ k * l.getD k 0 ≤ nat l := by
  by_cases h : k < l.length
  · have h1 := pre_mono l (i := k + 1) (j := l.length) (by omega)
    rw [pre_len, pre] at h1
    omega
  · rw [List.getD_eq_getElem?_getD, List.getElem?_eq_none (by omega)]; simp
theorem high_zero {l : List Nat} {i : Nat} (h : nat l < B32 ^ i) {k : Nat} (hk : i ≤ k) : l.getD k 0 = 0 := by
  rcases Nat.eq_zero_or_pos (l.getD k 0) with e | e
  · exact e
  · exfalso
    have h1 := digit_le l k
    have h2 : B32 ^ k * 1 ≤ B32 ^ k * l.getD k 0 := Nat.mul_le_mul_left _ e
    have h3 : B32 ^ i ≤ B32 ^ k := Nat.pow_le_pow_right (by decide) hk
    omega
theorem low_lt {l : List Nat} (hl : Low l) {i : Nat} (h : ∀ k, i ≤ k → l.getD k 0 = 0) : nat l < B32 ^ i := by
  have h1 : nat l = pre l i := by
    by_cases hi : i ≤ l.length
    · rw [← nat_take l hi]; exact (nat_cut hi (fun j h1 _ => h j h1)).symm
    · exact (pre_ge l i (by omega)).symm
  rw [h1]; exact pre_lt hl i

/-- The rows that do not turn: what the divisor is. -/
structure Divisor (vs : List Nat) (m2 V v1 v2 vl : Nat) : Prop where
  len : vs.length = m2 + 2
  low : Low vs
  val : V = (v1 * B32 + v2) * B32 ^ m2 + vl
  lo : vl < B32 ^ m2
  sum : nat vs = V
  one : vs.getD (m2 + 1) 0 = v1
  two : vs.getD m2 0 = v2
  top : B32 ≤ 2 * v1
theorem Divisor.of {vs : List Nat} {m2 : Nat} (hl : vs.length = m2 + 2) (hlow : Low vs) (ht : B32 ≤ 2 * vs.getD (m2 + 1) 0) : Divisor vs m2 (nat vs) (vs.getD (m2 + 1) 0) (vs.getD m2 0) (pre vs m2) := by
  refine ⟨hl, hlow, ?_, pre_lt hlow _, rfl, rfl, rfl, ht⟩
  rw [← pre_len vs, hl, pre, pre, Nat.pow_succ, Nat.add_mul]
  have e1 : B32 ^ m2 * B32 * vs.getD (m2 + 1) 0 = vs.getD (m2 + 1) 0 * B32 * B32 ^ m2 := by rw [Nat.mul_assoc, Nat.mul_comm, Nat.mul_comm B32]
  have e2 : B32 ^ m2 * vs.getD m2 0 = vs.getD m2 0 * B32 ^ m2 := Nat.mul_comm _ _
  rw [e1, e2]; omega
theorem Divisor.lt {vs : List Nat} {m2 V v1 v2 vl : Nat} (h : Divisor vs m2 V v1 v2 vl) : V < B32 ^ (m2 + 2) := by
  rw [← h.sum, ← h.len]; exact nat_lt h.low
theorem Divisor.v1_lt {vs : List Nat} {m2 V v1 v2 vl : Nat} (h : Divisor vs m2 V v1 v2 vl) : v1 < B32 := h.one ▸ h.low.get _
theorem Divisor.v2_lt {vs : List Nat} {m2 V v1 v2 vl : Nat} (h : Divisor vs m2 V v1 v2 vl) : v2 < B32 := h.two ▸ h.low.get _
theorem Divisor.below {vs : List Nat} {m2 V v1 v2 vl : Nat} (h : Divisor vs m2 V v1 v2 vl) : V < (v1 + 1) * B32 ^ (m2 + 1) := by
  have h1 := h.v2_lt
  have h3 := h.lo
  have h2 : (v1 * B32 + v2 + 1) * B32 ^ m2 ≤ (v1 + 1) * B32 * B32 ^ m2 := Nat.mul_le_mul_right _ (by rw [Nat.add_mul]; omega)
  rw [h.val, Nat.pow_succ, Nat.mul_comm (B32 ^ m2) B32, ← Nat.mul_assoc]
  rw [Nat.add_mul (v1 * B32 + v2) 1] at h2
  omega

/-- The state at a digit's head. -/
structure LongSt (w1 : World) (Ou Oq N V m2 L : Nat) (k : Nat) (wr : World) (us qs : List Nat) : Prop where
  keep : Keeps (fun b => b = Ou ∨ b = Oq) w1 wr
  rowu : RowAt wr Ou us
  lenu : us.length = L + (m2 + 2)
  lowu : Low us
  rowq : RowAt wr Oq qs
  lenq : qs.length = L
  lowq : Low qs
  zeroq : ∀ j, j < k → qs.getD j 0 = 0
  at' : LongAt N V k (nat qs) (nat us)
/-- The three limbs that the guess looks at. -/
theorem three {us : List Nat} {j m2 : Nat} (h : nat us < B32 ^ (j + m2 + 3)) (hlen : j + m2 + 2 < us.length) :
    nat us = B32 ^ j * (((us.getD (j + m2 + 2) 0 * B32 + us.getD (j + m2 + 1) 0) * B32 + us.getD (j + m2) 0) * B32 ^ m2 + pre (us.drop j) m2) + pre us j := by
  have h1 : nat us = pre us (j + m2 + 3) := by
    rw [← nat_take us (n := j + m2 + 3) (by omega)]
    exact (nat_cut (by omega) (fun k h1 _ => high_zero h h1)).symm
  rw [h1, show j + m2 + 3 = (j + m2 + 2) + 1 from rfl, pre, show j + m2 + 2 = (j + m2 + 1) + 1 from rfl, pre, pre, pre_split us j m2, Nat.mul_add (B32 ^ j)]
  have e0 : B32 ^ (j + m2) = B32 ^ j * B32 ^ m2 := Nat.pow_add _ _ _
  rw [Nat.pow_succ B32 (j + m2 + 1), Nat.pow_succ B32 (j + m2), e0]
  generalize us.getD (j + m2 + 1 + 1) 0 = a
  generalize us.getD (j + m2 + 1) 0 = b
  generalize us.getD (j + m2) 0 = c
  generalize B32 ^ j = J
  generalize B32 ^ m2 = M
  have e1 : J * (((a * B32 + b) * B32 + c) * M) = J * M * B32 * B32 * a + J * M * B32 * b + J * M * c := by
    rw [Nat.add_mul, Nat.add_mul, Nat.add_mul, Nat.mul_add, Nat.mul_add]
    have i1 : J * (a * B32 * B32 * M) = J * M * B32 * B32 * a := by
      rw [Nat.mul_comm (a * B32 * B32) M, ← Nat.mul_assoc, Nat.mul_comm a B32, Nat.mul_comm (B32 * a) B32, ← Nat.mul_assoc, ← Nat.mul_assoc]
    have i2 : J * (b * B32 * M) = J * M * B32 * b := by
      rw [Nat.mul_comm (b * B32) M, ← Nat.mul_assoc, Nat.mul_comm b B32, ← Nat.mul_assoc]
    have i3 : J * (c * M) = J * M * c := by rw [Nat.mul_comm c M, ← Nat.mul_assoc]
    rw [i1, i2, i3]
  rw [e1]; omega
theorem LongSt.first {w1 wr : World} {Ou Oq N V m2 L j v1 v2 vl : Nat} {us qs vs : List Nat} (h : LongSt w1 Ou Oq N V m2 L (j + 1) wr us qs) (hd : Divisor vs m2 V v1 v2 vl) (hj : j < L) :
    us.getD (j + m2 + 2) 0 ≤ v1 ∧ nat us < B32 ^ (j + m2 + 3) := by
  have h1 := h.at'.rest
  have h2 := digit_le us (j + m2 + 2)
  have h3 := hd.below
  have hp : 0 < B32 ^ (j + 1) := Nat.pow_pos (by decide)
  have h4 : V * B32 ^ (j + 1) < (v1 + 1) * B32 ^ (m2 + 1) * B32 ^ (j + 1) := (Nat.mul_lt_mul_right hp).2 h3
  rw [Nat.mul_assoc, ← Nat.pow_add, show m2 + 1 + (j + 1) = j + m2 + 2 from by omega, Nat.mul_comm (v1 + 1)] at h4
  have h5 : V * B32 ^ (j + 1) < B32 ^ (m2 + 2) * B32 ^ (j + 1) := (Nat.mul_lt_mul_right hp).2 hd.lt
  rw [← Nat.pow_add, show m2 + 2 + (j + 1) = j + m2 + 3 from by omega] at h5
  refine ⟨?_, Nat.lt_trans h1 h5⟩
  have h6 : B32 ^ (j + m2 + 2) * us.getD (j + m2 + 2) 0 < B32 ^ (j + m2 + 2) * (v1 + 1) := by omega
  exact Nat.lt_succ_iff.1 (Nat.lt_of_mul_lt_mul_left h6)

theorem part_lt {u U ul V j : Nat} (h : u = B32 ^ j * U + ul) (hr : u < V * B32 ^ (j + 1)) : U < V * B32 := by
  rw [Nat.pow_succ, Nat.mul_comm (B32 ^ j), ← Nat.mul_assoc, Nat.mul_comm (V * B32)] at hr
  exact Nat.lt_of_mul_lt_mul_left (a := B32 ^ j) (by omega)
/-- Taken away: i limbs of the divisor are done. -/
structure TakeAt (wk : World) (Ou : Nat) (us0 vs : List Nat) (j m2 g i c b : Nat) (wr : World) (us : List Nat) : Prop where
  keep : Keeps (fun k => k = Ou) wk wr
  row : RowAt wr Ou us
  len : us.length = us0.length
  low : Low us
  high : ∀ k, j + m2 + 3 ≤ k → us.getD k 0 = 0
  carry : c < B32
  borrow : b ≤ 1
  val : nat us + B32 ^ j * (g * pre vs i) = nat us0 + B32 ^ (j + i) * (c + b)
theorem TakeAt.step {wk wr w' : World} {Ou j m2 g i c b x y s d b' p : Nat} {us0 us vs : List Nat} (h : TakeAt wk Ou us0 vs j m2 g i c b wr us) (hp : p = j + i) (hi : i < m2 + 2) (hlen : j + m2 + 2 < us0.length) (hx : us.getD p 0 = x) (hy : vs.getD i 0 = y)
    (hs : c + g * y = s) (hs2 : s < B32 * B32) (hR : LessR x (s % B32) b d b') (hd : d < B32) (hb : b' ≤ 1) (hr : RowAt w' Ou (us.set p d)) (hk : Keeps (fun k => k = Ou) wk w') :
    TakeAt wk Ou us0 vs j m2 g (i + 1) (s / B32) b' w' (us.set p d) := by
  subst hp hx hy
  refine ⟨hk, hr, by rw [List.length_set]; exact h.len, h.low.set _ _ hd, fun k hk => ?_, Nat.div_lt_of_lt_mul hs2, hb, ?_⟩
  · rw [getD_set_ne _ _ (by omega)]; exact h.high k hk
  · rw [pre]
    exact sub_mul_step h.val (by rw [hs]; exact (Nat.mod_add_div s B32).symm) hR (nat_set us _ (by rw [h.len]; omega))
/-- The highest limb. -/
theorem TakeAt.last {wk wr w' : World} {Ou j m2 g c b x d b' p V : Nat} {us0 us vs : List Nat} (h : TakeAt wk Ou us0 vs j m2 g (m2 + 2) c b wr us) (hp : p = j + m2 + 2) (hlen : j + m2 + 2 < us0.length) (hx : us.getD p 0 = x) (hV : pre vs (m2 + 2) = V)
    (hR : LessR x c b d b') (hd : d < B32) (hr : RowAt w' Ou (us.set p d)) (hk : Keeps (fun k => k = Ou) wk w') :
    nat (us.set p d) + B32 ^ j * (g * V) = nat us0 + B32 ^ (j + m2 + 3) * b' ∧ nat (us.set p d) < B32 ^ (j + m2 + 3) ∧ Low (us.set p d) ∧ (us.set p d).length = us0.length := by
  subst hp hx hV
  have hlow := h.low.set (j + m2 + 2) d hd
  refine ⟨?_, low_lt hlow fun k hk => ?_, hlow, by rw [List.length_set]; exact h.len⟩
  · have hv := h.val
    rw [show j + (m2 + 2) = j + m2 + 2 from by omega] at hv
    exact sub_mul_last hv (by unfold LessR at hR; omega) (nat_set us _ (by rw [h.len]; omega))
  · rw [getD_set_ne _ _ (by omega)]; exact h.high k hk
/-- Put back: i limbs are done. -/
structure BackAt (wk : World) (Ou : Nat) (us2 vs : List Nat) (j m2 i c : Nat) (wr : World) (us : List Nat) : Prop where
  keep : Keeps (fun k => k = Ou) wk wr
  row : RowAt wr Ou us
  len : us.length = us2.length
  low : Low us
  high : ∀ k, j + m2 + 3 ≤ k → us.getD k 0 = 0
  carry : c ≤ 1
  val : nat us + B32 ^ (j + i) * c = nat us2 + B32 ^ j * pre vs i
theorem BackAt.step {wk wr w' : World} {Ou j m2 i c x y s c' p : Nat} {us2 us vs : List Nat} (h : BackAt wk Ou us2 vs j m2 i c wr us) (hp : p = j + i) (hi : i < m2 + 2) (hlen : j + m2 + 2 < us2.length) (hx : us.getD p 0 = x) (hy : vs.getD i 0 = y)
    (hR : SumR x y c s c') (hs : s < B32) (hc : c' ≤ 1) (hr : RowAt w' Ou (us.set p s)) (hk : Keeps (fun k => k = Ou) wk w') : BackAt wk Ou us2 vs j m2 (i + 1) c' w' (us.set p s) := by
  subst hp hx hy
  refine ⟨hk, hr, by rw [List.length_set]; exact h.len, h.low.set _ _ hs, fun k hk => ?_, hc, ?_⟩
  · rw [getD_set_ne _ _ (by omega)]; exact h.high k hk
  · rw [pre]; exact back_step h.val hR (nat_set us _ (by rw [h.len]; omega))
theorem BackAt.last {wk wr : World} {Ou j m2 c x p V : Nat} {us2 us vs : List Nat} (h : BackAt wk Ou us2 vs j m2 (m2 + 2) c wr us) (hp : p = j + m2 + 2) (hlen : j + m2 + 2 < us2.length) (hx : us.getD p 0 = x) (hV : pre vs (m2 + 2) = V) :
    nat (us.set p ((x + c) % B32)) + B32 ^ (j + m2 + 3) * ((x + c) / B32) = nat us2 + B32 ^ j * V ∧ nat (us.set p ((x + c) % B32)) < B32 ^ (j + m2 + 3) ∧ Low (us.set p ((x + c) % B32)) ∧ (us.set p ((x + c) % B32)).length = us2.length ∧ (x + c) / B32 ≤ 1 := by
  subst hp hx hV
  have hlow := h.low.set (j + m2 + 2) ((us.getD (j + m2 + 2) 0 + c) % B32) (Nat.mod_lt _ (by decide))
  refine ⟨?_, low_lt hlow fun k hk => ?_, hlow, by rw [List.length_set]; exact h.len, ?_⟩
  · have hv := h.val
    rw [show j + (m2 + 2) = j + m2 + 2 from by omega] at hv
    exact back_last hv (Nat.mod_add_div _ _).symm (nat_set us _ (by rw [h.len]; omega))
  · rw [getD_set_ne _ _ (by omega)]; exact h.high k hk
  · have h1 := h.low.get (j + m2 + 2)
    have h2 := h.carry
    have : us.getD (j + m2 + 2) 0 + c < B32 * 2 := by unfold B32 at *; omega
    exact Nat.lt_succ_iff.1 (Nat.div_lt_of_lt_mul this)
/-- The digit is told. -/
theorem LongSt.next {w1 wr w' : World} {Ou Oq N V m2 L j G : Nat} {us qs us' : List Nat} (h : LongSt w1 Ou Oq N V m2 L (j + 1) wr us qs) (hj : j < L) (hG : G < B32)
    (hat : LongAt N V j (nat qs + B32 ^ j * G) (nat us')) (hl : us'.length = us.length) (hlow : Low us') (hru : RowAt w' Ou us') (hrq : RowAt w' Oq (qs.set j G)) (hk : Keeps (fun b => b = Ou ∨ b = Oq) w1 w') : LongSt w1 Ou Oq N V m2 L j w' us' (qs.set j G) := by
  refine ⟨hk, hru, by rw [hl]; exact h.lenu, hlow, hrq, by rw [List.length_set]; exact h.lenq, h.lowq.set _ _ hG, fun i hi => ?_, ?_⟩
  · rw [getD_set_ne _ _ (by omega)]; exact h.zeroq i (by omega)
  · rw [nat_put0 qs G (by rw [h.lenq]; omega) (h.zeroq j (by omega))]; exact hat

/-! ### The rest, shifted back -/
theorem shr_step {x y s : Nat} (hx : x < B32) (hy : y < B32) (hs : s < 32) : 2 ^ s * ((y * B32 + x) / 2 ^ s % B32) + x % 2 ^ s = x + B32 * (y % 2 ^ s) := by
  obtain ⟨D, hD⟩ : ∃ D, 2 ^ (32 - s) = D := ⟨_, rfl⟩
  have e : (B32 : Nat) = 2 ^ s * D := by rw [← hD, ← Nat.pow_add, show s + (32 - s) = 32 from by omega]
  have hp : 0 < 2 ^ s := Nat.pow_pos (by decide)
  generalize 2 ^ s = S at *
  have hy2 := Nat.mod_add_div y S
  have hx2 := Nat.mod_add_div x S
  have ht : y % S < S := Nat.mod_lt _ hp
  have hh : x / S < D := Nat.div_lt_of_lt_mul (by rw [← e]; exact hx)
  have e1 : (y * B32 + x) / S = y * D + x / S := by
    rw [e, Nat.mul_left_comm, Nat.mul_add_div hp]
  have e2 : y * D + x / S = (y % S * D + x / S) + B32 * (y / S) := by
    conv => lhs; rw [← hy2, Nat.add_mul]
    rw [e, Nat.mul_right_comm]; omega
  have h3 : (y % S + 1) * D ≤ S * D := Nat.mul_le_mul_right _ ht
  rw [Nat.add_mul, Nat.one_mul] at h3
  rw [e1, e2, Nat.add_mul_mod_self_left, Nat.mod_eq_of_lt (by rw [e]; omega), Nat.mul_add]
  have e3 : S * (y % S * D) = B32 * (y % S) := by rw [e, Nat.mul_left_comm, Nat.mul_comm (S * D)]
  rw [e3]; omega
structure ShrAt (wk : World) (Or : Nat) (us : List Nat) (s m i : Nat) (wr : World) (rs : List Nat) : Prop where
  keep : Keeps (fun k => k = Or) wk wr
  row : RowAt wr Or rs
  len : rs.length = m
  low : Low rs
  zero : ∀ j, i ≤ j → rs.getD j 0 = 0
  val : 2 ^ s * nat rs = pre us i + B32 ^ i * (us.getD i 0 % 2 ^ s)
theorem ShrAt.start {wk : World} {Or s m : Nat} {us : List Nat} (h : RowAt wk Or (List.replicate m 0)) (h0 : us.getD 0 0 % 2 ^ s = 0) : ShrAt wk Or us s m 0 wk (List.replicate m 0) :=
  ⟨Keeps.refl _ _, h, by simp, Low.zeros _, fun j _ => getD_zeros _ _, by rw [nat_zeros, h0]; simp [pre]⟩
theorem ShrAt.step {wk wr w' : World} {Or s m i x y v : Nat} {us rs : List Nat} (h : ShrAt wk Or us s m i wr rs) (hi : i < m) (hs : s < 32) (hl : Low us) (hx : us.getD i 0 = x) (hy : us.getD (i + 1) 0 = y) (hv : (y * B32 + x) / 2 ^ s % B32 = v)
    (hr : RowAt w' Or (rs.set i v)) (hk : Keeps (fun k => k = Or) wk w') : ShrAt wk Or us s m (i + 1) w' (rs.set i v) := by
  subst hx hy hv
  refine ⟨hk, hr, by rw [List.length_set]; exact h.len, h.low.set _ _ (Nat.mod_lt _ (by decide)), fun j hj => ?_, ?_⟩
  · rw [getD_set_ne _ _ (by omega)]; exact h.zero j (by omega)
  · rw [nat_put0 rs _ (by rw [h.len]; omega) (h.zero i (Nat.le_refl _)), Nat.mul_add, h.val, pre]
    have h1 := shr_step (hl.get i) (hl.get (i + 1)) hs
    have h2 : B32 ^ i * (2 ^ s * ((us.getD (i + 1) 0 * B32 + us.getD i 0) / 2 ^ s % B32) + us.getD i 0 % 2 ^ s) = B32 ^ i * (us.getD i 0 + B32 * (us.getD (i + 1) 0 % 2 ^ s)) := by rw [h1]
    rw [Nat.mul_add, Nat.mul_add, ← Nat.mul_assoc _ B32, ← Nat.pow_succ, Nat.succ_eq_add_one, Nat.mul_left_comm] at h2
    omega
/-- The quotient and the rest, of what was there ahead of the shift. -/
theorem unshift {q u a b s : Nat} (h : q * (b * 2 ^ s) + u = a * 2 ^ s) (hlt : u < b * 2 ^ s) : ∃ r, u = 2 ^ s * r ∧ q * b + r = a ∧ r < b := by
  have hp : 0 < 2 ^ s := Nat.pow_pos (by decide)
  generalize 2 ^ s = S at *
  have h1 : q * b ≤ a := by
    have : q * b * S ≤ a * S := by rw [Nat.mul_assoc]; omega
    exact Nat.le_of_mul_le_mul_right this hp
  obtain ⟨r, hr⟩ : ∃ r, a = q * b + r := ⟨a - q * b, by omega⟩
  subst hr
  rw [Nat.add_mul, ← Nat.mul_assoc] at h
  have e : u = S * r := by rw [Nat.mul_comm S]; omega
  refine ⟨r, e, rfl, ?_⟩
  rw [e, Nat.mul_comm b] at hlt
  exact Nat.lt_of_mul_lt_mul_left hlt
theorem rest_low {us : List Nat} {s r : Nat} (hs : s < 32) (h : nat us = 2 ^ s * r) : us.getD 0 0 % 2 ^ s = 0 := by
  have e : (B32 : Nat) = 2 ^ s * 2 ^ (32 - s) := by rw [← Nat.pow_add, show s + (32 - s) = 32 from by omega]
  cases us with
  | nil => simp
  | cons x l =>
    rw [nat, e] at h
    show x % 2 ^ s = 0
    have h1 : (x + 2 ^ s * 2 ^ (32 - s) * nat l) % 2 ^ s = 0 := by rw [h]; exact Nat.mul_mod_right _ _
    rw [Nat.mul_assoc, Nat.add_mul_mod_self_left] at h1
    exact h1
end Go.Proofs.YthbbalkhmofndaaGreatDoor
