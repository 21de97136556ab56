/- long: an amount parted by one of two limbs and more: its states, and what each step keeps. -/
import Derived.Test.YtfehciiidmgopaaShift
import Derived.Test.YtfehciiidmgopaaSum
namespace Go.Proofs.Ytfehciiidmgopaa
open Go.RowKit

theorem pre_split (l : List Nat) (j : Nat) : ∀ i, pre l (j + i) = pre l j + B32 ^ j * pre (l.drop j) i
  | 0 => by simp [pre]
  | i + 1 => by
    rw [show j + (i + 1) = (j + i) + 1 from rfl, pre, pre, pre_split l j i, Nat.mul_add, ← Nat.mul_assoc, ← Nat.pow_add, List.getD_eq_getElem?_getD, List.getD_eq_getElem?_getD, List.getElem?_drop]
    omega
theorem digit_le (l : List Nat) (k : Nat) : B32 ^ k * l.getD k 0 ≤ nat l := by
  by_cases h : k < l.length
  · have h1 := pre_mono l (i := k + 1) (j := l.length) (by omega)
    rw [pre_len, pre] at h1
    omega
  · rw [List.getD_eq_getElem?_getD, List.getElem?_eq_none (by omega)]; simp
theorem high_zero {l : List Nat} {i : Nat} (h : nat l < B32 ^ i) {k : Nat} (hk : i ≤ k) : l.getD k 0 = 0 := by
  rcases Nat.eq_zero_or_pos (l.getD k 0) with e | e
  · exact e
  · exfalso
    have h1 := digit_le l k
    have h2 : B32 ^ k * 1 ≤ B32 ^ k * l.getD k 0 := Nat.mul_le_mul_left _ e
    have h3 : B32 ^ i ≤ B32 ^ k := Nat.pow_le_pow_right (by decide) hk
    omega
theorem low_lt {l : List Nat} (hl : Low l) {i : Nat} (h : ∀ k, i ≤ k → l.getD k 0 = 0) : nat l < B32 ^ i := by
  have h1 : nat l = pre l i := by
    by_cases hi : i ≤ l.length
    · rw [← nat_take l hi]; exact (nat_cut hi (fun j h1 _ => h j h1)).symm
    · exact (pre_ge l i (by omega)).symm
  rw [h1]; exact pre_lt hl i

/-- The rows that do not turn: what the divisor is. -/
structure Divisor (vs : List Nat) (m2 V v1 v2 vl : Nat) : Prop where
  len : vs.length = m2 + 2
  low : Low vs
  val : V = (v1 * B32 + v2) * B32 ^ m2 + vl
  lo : vl < B32 ^ m2
  sum : nat vs = V
  one : vs.getD (m2 + 1) 0 = v1
  two : vs.getD m2 0 = v2
  top : B32 ≤ 2 * v1
theorem Divisor.of {vs : List Nat} {m2 : Nat} (hl : vs.length = m2 + 2) (hlow : Low vs) (ht : B32 ≤ 2 * vs.getD (m2 + 1) 0) : Divisor vs m2 (nat vs) (vs.getD (m2 + 1) 0) (vs.getD m2 0) (pre vs m2) := by
  refine ⟨hl, hlow, ?_, pre_lt hlow _, rfl, rfl, rfl, ht⟩
  rw [← pre_len vs, hl, pre, pre, Nat.pow_succ, Nat.add_mul]
  have e1 : B32 ^ m2 * B32 * vs.getD (m2 + 1) 0 = vs.getD (m2 + 1) 0 * B32 * B32 ^ m2 := by rw [Nat.mul_assoc, Nat.mul_comm, Nat.mul_comm B32]
  have e2 : B32 ^ m2 * vs.getD m2 0 = vs.getD m2 0 * B32 ^ m2 := Nat.mul_comm _ _
  rw [e1, e2]; omega
theorem Divisor.lt {vs : List Nat} {m2 V v1 v2 vl : Nat} (h : Divisor vs m2 V v1 v2 vl) : V < B32 ^ (m2 + 2) := by
  rw [← h.sum, ← h.len]; exact nat_lt h.low
theorem Divisor.v1_lt {vs : List Nat} {m2 V v1 v2 vl : Nat} (h : Divisor vs m2 V v1 v2 vl) : v1 < B32 := h.one ▸ h.low.get _
theorem Divisor.v2_lt {vs : List Nat} {m2 V v1 v2 vl : Nat} (h : Divisor vs m2 V v1 v2 vl) : v2 < B32 := h.two ▸ h.low.get _
theorem Divisor.below {vs : List Nat} {m2 V v1 v2 vl : Nat} (h : Divisor vs m2 V v1 v2 vl) : V < (v1 + 1) * B32 ^ (m2 + 1) := by
  have h1 := h.v2_lt
  have h3 := h.lo
  have h2 : (v1 * B32 + v2 + 1) * B32 ^ m2 ≤ (v1 + 1) * B32 * B32 ^ m2 := Nat.mul_le_mul_right _ (by rw [Nat.add_mul]; omega)
  rw [h.val, Nat.pow_succ, Nat.mul_comm (B32 ^ m2) B32, ← Nat.mul_assoc]
  rw [Nat.add_mul (v1 * B32 + v2) 1] at h2
  omega

/-- The state at a digit's head. -/
structure LongSt (w1 : World) (Ou Oq N V m2 L : Nat) (k : Nat) (wr : World) (us qs : List Nat) : Prop where
  keep : Keeps (fun b => b = Ou ∨ b = Oq) w1 wr
  rowu : RowAt wr Ou us
  lenu : us.length = L + (m2 + 2)
  lowu : Low us
  rowq : RowAt wr Oq qs
  lenq : qs.length = L
  lowq : Low qs
  zeroq : ∀ j, j < k → qs.getD j 0 = 0
  at' : LongAt N V k (nat qs) (nat us)
/-- The three limbs that the guess looks at. -/
theorem three {us : List Nat} {j m2 : Nat} (h : nat us < B32 ^ (j + m2 + 3)) (hlen : j + m2 + 2 < us.length) :
    nat us = B32 ^ j * (((us.getD (j + m2 + 2) 0 * B32 + us.getD (j + m2 + 1) 0) * B32 + us.getD (j + m2) 0) * B32 ^ m2 + pre (us.drop j) m2) + pre us j := by
  have h1 : nat us = pre us (j + m2 + 3) := by
    rw [← nat_take us (n := j + m2 + 3) (by omega)]
    exact (nat_cut (by omega) (fun k h1 _ => high_zero h h1)).symm
  rw [h1, show j + m2 + 3 = (j + m2 + 2) + 1 from rfl, pre, show j + m2 + 2 = (j + m2 + 1) + 1 from rfl, pre, pre, pre_split us j m2, Nat.mul_add (B32 ^ j)]
  have e0 : B32 ^ (j + m2) = B32 ^ j * B32 ^ m2 := Nat.pow_add _ _ _
  rw [Nat.pow_succ B32 (j + m2 + 1), Nat.pow_succ B32 (j + m2), e0]
  generalize us.getD (j + m2 + 1 + 1) 0 = a
  generalize us.getD (j + m2 + 1) 0 = b
  generalize us.getD (j + m2) 0 = c
  generalize B32 ^ j = J
  generalize B32 ^ m2 = M
  have e1 : J * (((a * B32 + b) * B32 + c) * M) = J * M * B32 * B32 * a + J * M * B32 * b + J * M * c := by
    rw [Nat.add_mul, Nat.add_mul, Nat.add_mul, Nat.mul_add, Nat.mul_add]
    have i1 : J * (a * B32 * B32 * M) = J * M * B32 * B32 * a := by
      rw [Nat.mul_comm (a * B32 * B32) M, ← Nat.mul_assoc, Nat.mul_comm a B32, Nat.mul_comm (B32 * a) B32, ← Nat.mul_assoc, ← Nat.mul_assoc]
    have i2 : J * (b * B32 * M) = J * M * B32 * b := by
      rw [Nat.mul_comm (b * B32) M, ← Nat.mul_assoc, Nat.mul_comm b B32, ← Nat.mul_assoc]
    have i3 : J * (c * M) = J * M * c := by rw [Nat.mul_comm c M, ← Nat.mul_assoc]
    rw [i1, i2, i3]
  rw [e1]; omega
theorem LongSt.first {w1 wr : World} {Ou Oq N V m2 L j v1 v2 vl : Nat} {us qs vs : List Nat} (h : LongSt w1 Ou Oq N V m2 L (j + 1) wr us qs) (hd : Divisor vs m2 V v1 v2 vl) (hj : j < L) :
    us.getD (j + m2 + 2) 0 ≤ v1 ∧ nat us < B32 ^ (j + m2 + 3) := by
  have h1 := h.at'.rest
  have h2 := digit_le us (j + m2 + 2)
  have h3 := hd.below
  have hp : 0 < B32 ^ (j + 1) := Nat.pow_pos (by decide)
  have h4 : V * B32 ^ (j + 1) < (v1 + 1) * B32 ^ (m2 + 1) * B32 ^ (j + 1) := (Nat.mul_lt_mul_right hp).2 h3
  rw [Nat.mul_assoc, ← Nat.pow_add, show m2 + 1 + (j + 1) = j + m2 + 2 from by omega, Nat.mul_comm (v1 + 1)] at h4
  have h5 : V * B32 ^ (j + 1) < B32 ^ (m2 + 2) * B32 ^ (j + 1) := (Nat.mul_lt_mul_right hp).2 hd.lt
  rw [← Nat.pow_add, show m2 + 2 + (j + 1) = j + m2 + 3 from by omega] at h5
  refine ⟨?_, Nat.lt_trans h1 h5⟩
  have h6 : B32 ^ (j + m2 + 2) * us.getD (j + m2 + 2) 0 < B32 ^ (j + m2 + 2) * (v1 + 1) := by omega
  exact Nat.lt_succ_iff.1 (Nat.lt_of_mul_lt_mul_left h6)

theorem part_lt {u U ul V j : Nat} (h : u = B32 ^ j * U + ul) (hr : u < V * B32 ^ (j + 1)) : U < V * B32 := by
  rw [Nat.pow_succ, Nat.mul_comm (B32 ^ j), ← Nat.mul_assoc, Nat.mul_comm (V * B32)] at hr
  exact Nat.lt_of_mul_lt_mul_left (a := B32 ^ j) (by omega)
/-- Taken away: i limbs of the divisor are done. -/
structure TakeAt (wk : World) (Ou : Nat) (us0 vs : List Nat) (j m2 g i c b : Nat) (wr : World) (us : List Nat) : Prop where
  keep : Keeps (fun k => k = Ou) wk wr
  row : RowAt wr Ou us
  len : us.length = us0.length
  low : Low us
  high : ∀ k, j + m2 + 3 ≤ k → us.getD k 0 = 0
  carry : c < B32
  borrow : b ≤ 1
  val : nat us + B32 ^ j * (g * pre vs i) = nat us0 + B32 ^ (j + i) * (c + b)
theorem TakeAt.step {wk wr w' : World} {Ou j m2 g i c b x y s d b' p : Nat} {us0 us vs : List Nat} (h : TakeAt wk Ou us0 vs j m2 g i c b wr us) (hp : p = j + i) (hi : i < m2 + 2) (hlen : j + m2 + 2 < us0.length) (hx : us.getD p 0 = x) (hy : vs.getD i 0 = y)
    (hs : c + g * y = s) (hs2 : s < B32 * B32) (hR : LessR x (s % B32) b d b') (hd : d < B32) (hb : b' ≤ 1) (hr : RowAt w' Ou (us.set p d)) (hk : Keeps (fun k => k = Ou) wk w') :
    TakeAt wk Ou us0 vs j m2 g (i + 1) (s / B32) b' w' (us.set p d) := by
  subst hp hx hy
  refine ⟨hk, hr, by rw [List.length_set]; exact h.len, h.low.set _ _ hd, fun k hk => ?_, Nat.div_lt_of_lt_mul hs2, hb, ?_⟩
  · rw [getD_set_ne _ _ (by omega)]; exact h.high k hk
  · rw [pre]
    exact sub_mul_step h.val (by rw [hs]; exact (Nat.mod_add_div s B32).symm) hR (nat_set us _ (by rw [h.len]; omega))
/-- The highest limb. -/
theorem TakeAt.last {wk wr w' : World} {Ou j m2 g c b x d b' p V : Nat} {us0 us vs : List Nat} (h : TakeAt wk Ou us0 vs j m2 g (m2 + 2) c b wr us) (hp : p = j + m2 + 2) (hlen : j + m2 + 2 < us0.length) (hx : us.getD p 0 = x) (hV : pre vs (m2 + 2) = V)
    (hR : LessR x c b d b') (hd : d < B32) (hr : RowAt w' Ou (us.set p d)) (hk : Keeps (fun k => k = Ou) wk w') :
    nat (us.set p d) + B32 ^ j * (g * V) = nat us0 + B32 ^ (j + m2 + 3) * b' ∧ nat (us.set p d) < B32 ^ (j + m2 + 3) ∧ Low (us.set p d) ∧ (us.set p d).length = us0.length := by
  subst hp hx hV
  have hlow := h.low.set (j + m2 + 2) d hd
  refine ⟨?_, low_lt hlow fun k hk => ?_, hlow, by rw [List.length_set]; exact h.len⟩
  · have hv := h.val
    rw [show j + (m2 + 2) = j + m2 + 2 from by omega] at hv
    exact sub_mul_last hv (by unfold LessR at hR; omega) (nat_set us _ (by rw [h.len]; omega))
  · rw [getD_set_ne _ _ (by omega)]; exact h.high k hk
/-- Put back: i limbs are done. -/
structure BackAt (wk : World) (Ou : Nat) (us2 vs : List Nat) (j m2 i c : Nat) (wr : World) (us : List Nat) : Prop where
  keep : Keeps (fun k => k = Ou) wk wr
  row : RowAt wr Ou us
  len : us.length = us2.length
  low : Low us
  high : ∀ k, j + m2 + 3 ≤ k → us.getD k 0 = 0
  carry : c ≤ 1
  val : nat us + B32 ^ (j + i) * c = nat us2 + B32 ^ j * pre vs i
theorem BackAt.step {wk wr w' : World} {Ou j m2 i c x y s c' p : Nat} {us2 us vs : List Nat} (h : BackAt wk Ou us2 vs j m2 i c wr us) (hp : p = j + i) (hi : i < m2 + 2) (hlen : j + m2 + 2 < us2.length) (hx : us.getD p 0 = x) (hy : vs.getD i 0 = y)
    (hR : SumR x y c s c') (hs : s < B32) (hc : c' ≤ 1) (hr : RowAt w' Ou (us.set p s)) (hk : Keeps (fun k => k = Ou) wk w') : BackAt wk Ou us2 vs j m2 (i + 1) c' w' (us.set p s) := by
  subst hp hx hy
  refine ⟨hk, hr, by rw [List.length_set]; exact h.len, h.low.set _ _ hs, fun k hk => ?_, hc, ?_⟩
  · rw [getD_set_ne _ _ (by omega)]; exact h.high k hk
  · rw [pre]; exact back_step h.val hR (nat_set us _ (by rw [h.len]; omega))
theorem BackAt.last {wk wr : World} {Ou j m2 c x p V : Nat} {us2 us vs : List Nat} (h : BackAt wk Ou us2 vs j m2 (m2 + 2) c wr us) (hp : p = j + m2 + 2) (hlen : j + m2 + 2 < us2.length) (hx : us.getD p 0 = x) (hV : pre vs (m2 + 2) = V) :
    nat (us.set p ((x + c) % B32)) + B32 ^ (j + m2 + 3) * ((x + c) / B32) = nat us2 + B32 ^ j * V ∧ nat (us.set p ((x + c) % B32)) < B32 ^ (j + m2 + 3) ∧ Low (us.set p ((x + c) % B32)) ∧ (us.set p ((x + c) % B32)).length = us2.length ∧ (x + c) / B32 ≤ 1 := by
  subst hp hx hV
  have hlow := h.low.set (j + m2 + 2) ((us.getD (j + m2 + 2) 0 + c) % B32) (Nat.mod_lt _ (by decide))
  refine ⟨?_, low_lt hlow fun k hk => ?_, hlow, by rw [List.length_set]; exact h.len, ?_⟩
  · have hv := h.val
    rw [show j + (m2 + 2) = j + m2 + 2 from by omega] at hv
    exact back_last hv (Nat.mod_add_div _ _).symm (nat_set us _ (by rw [h.len]; omega))
  · rw [getD_set_ne _ _ (by omega)]; exact h.high k hk
  · have h1 := h.low.get (j + m2 + 2)
    have h2 := h.carry
    have : us.getD (j + m2 + 2) 0 + c < B32 * 2 := by unfold B32 at *; omega
    exact Nat.lt_succ_iff.1 (Nat.div_lt_of_lt_mul this)
/-- The digit is told. -/
theorem LongSt.next {w1 wr w' : World} {Ou Oq N V m2 L j G : Nat} {us qs us' : List Nat} (h : LongSt w1 Ou Oq N V m2 L (j + 1) wr us qs) (hj : j < L) (hG : G < B32)
    (hat : LongAt N V j (nat qs + B32 ^ j * G) (nat us')) (hl : us'.length = us.length) (hlow : Low us') (hru : RowAt w' Ou us') (hrq : RowAt w' Oq (qs.set j G)) (hk : Keeps (fun b => b = Ou ∨ b = Oq) w1 w') : LongSt w1 Ou Oq N V m2 L j w' us' (qs.set j G) := by
  refine ⟨hk, hru, by rw [hl]; exact h.lenu, hlow, hrq, by rw [List.length_set]; exact h.lenq, h.lowq.set _ _ hG, fun i hi => ?_, ?_⟩
  · rw [getD_set_ne _ _ (by omega)]; exact h.zeroq i (by omega)
  · rw [nat_put0 qs G (by rw [h.lenq]; omega) (h.zeroq j (by omega))]; exact hat

/-! ### The rest, shifted back -/
theorem shr_step {x y s : Nat} (hx : x < B32) (hy : y < B32) (hs : s < 32) : 2 ^ s * ((y * B32 + x) / 2 ^ s % B32) + x % 2 ^ s = x + B32 * (y % 2 ^ s) := by
  obtain ⟨D, hD⟩ : ∃ D, 2 ^ (32 - s) = D := ⟨_, rfl⟩
  have e : (B32 : Nat) = 2 ^ s * D := by rw [← hD, ← Nat.pow_add, show s + (32 - s) = 32 from by omega]
  have hp : 0 < 2 ^ s := Nat.pow_pos (by decide)
  generalize 2 ^ s = S at *
  have hy2 := Nat.mod_add_div y S
  have hx2 := Nat.mod_add_div x S
  have ht : y % S < S := Nat.mod_lt _ hp
  have hh : x / S < D := Nat.div_lt_of_lt_mul (by rw [← e]; exact hx)
  have e1 : (y * B32 + x) / S = y * D + x / S := by
    rw [e, Nat.mul_left_comm, Nat.mul_add_div hp]
  have e2 : y * D + x / S = (y % S * D + x / S) + B32 * (y / S) := by
    conv => lhs; rw [← hy2, Nat.add_mul]
    rw [e, Nat.mul_right_comm]; omega
  have h3 : (y % S + 1) * D ≤ S * D := Nat.mul_le_mul_right _ ht
  rw [Nat.add_mul, Nat.one_mul] at h3
  rw [e1, e2, Nat.add_mul_mod_self_left, Nat.mod_eq_of_lt (by rw [e]; omega), Nat.mul_add]
  have e3 : S * (y % S * D) = B32 * (y % S) := by rw [e, Nat.mul_left_comm, Nat.mul_comm (S * D)]
  rw [e3]; omega
structure ShrAt (wk : World) (Or : Nat) (us : List Nat) (s m i : Nat) (wr : World) (rs : List Nat) : Prop where
  keep : Keeps (fun k => k = Or) wk wr
  row : RowAt wr Or rs
  len : rs.length = m
  low : Low rs
  zero : ∀ j, i ≤ j → rs.getD j 0 = 0
  val : 2 ^ s * nat rs = pre us i + B32 ^ i * (us.getD i 0 % 2 ^ s)
theorem ShrAt.start {wk : World} {Or s m : Nat} {us : List Nat} (h : RowAt wk Or (List.replicate m 0)) (h0 : us.getD 0 0 % 2 ^ s = 0) : ShrAt wk Or us s m 0 wk (List.replicate m 0) :=
  ⟨Keeps.refl _ _, h, by simp, Low.zeros _, fun j _ => getD_zeros _ _, by rw [nat_zeros, h0]; simp [pre]⟩
theorem ShrAt.step {wk wr w' : World} {Or s m i x y v : Nat} {us rs : List Nat} (h : ShrAt wk Or us s m i wr rs) (hi : i < m) (hs : s < 32) (hl : Low us) (hx : us.getD i 0 = x) (hy : us.getD (i + 1) 0 = y) (hv : (y * B32 + x) / 2 ^ s % B32 = v)
    (hr : RowAt w' Or (rs.set i v)) (hk : Keeps (fun k => k = Or) wk w') : ShrAt wk Or us s m (i + 1) w' (rs.set i v) := by
  subst hx hy hv
  refine ⟨hk, hr, by rw [List.length_set]; exact h.len, h.low.set _ _ (Nat.mod_lt _ (by decide)), fun j hj => ?_, ?_⟩
  · rw [getD_set_ne _ _ (by omega)]; exact h.zero j (by omega)
  · rw [nat_put0 rs _ (by rw [h.len]; omega) (h.zero i (Nat.le_refl _)), Nat.mul_add, h.val, pre]
    have h1 := shr_step (hl.get i) (hl.get (i + 1)) hs
    have h2 : B32 ^ i * (2 ^ s * ((us.getD (i + 1) 0 * B32 + us.getD i 0) / 2 ^ s % B32) + us.getD i 0 % 2 ^ s) = B32 ^ i * (us.getD i 0 + B32 * (us.getD (i + 1) 0 % 2 ^ s)) := by rw [h1]
    rw [Nat.mul_add, Nat.mul_add, ← Nat.mul_assoc _ B32, ← Nat.pow_succ, Nat.succ_eq_add_one, Nat.mul_left_comm] at h2
    omega
/-- The quotient and the rest, of what was there ahead of the shift. -/
theorem unshift {q u a b s : Nat} (h : q * (b * 2 ^ s) + u = a * 2 ^ s) (hlt : u < b * 2 ^ s) : ∃ r, u = 2 ^ s * r ∧ q * b + r = a ∧ r < b := by
  have hp : 0 < 2 ^ s := Nat.pow_pos (by decide)
  generalize 2 ^ s = S at *
  have h1 : q * b ≤ a := by
    have : q * b * S ≤ a * S := by rw [Nat.mul_assoc]; omega
    exact Nat.le_of_mul_le_mul_right this hp
  obtain ⟨r, hr⟩ : ∃ r, a = q * b + r := ⟨a - q * b, by omega⟩
  subst hr
  rw [Nat.add_mul, ← Nat.mul_assoc] at h
  have e : u = S * r := by rw [Nat.mul_comm S]; omega
  refine ⟨r, e, rfl, ?_⟩
  rw [e, Nat.mul_comm b] at hlt
  exact Nat.lt_of_mul_lt_mul_left hlt
theorem rest_low {us : List Nat} {s r : Nat} (hs : s < 32) (h : nat us = 2 ^ s * r) : us.getD 0 0 % 2 ^ s = 0 := by
  have e : (B32 : Nat) = 2 ^ s * 2 ^ (32 - s) := by rw [← Nat.pow_add, show s + (32 - s) = 32 from by omega]
  cases us with
  | nil => simp
  | cons x l =>
    rw [nat, e] at h
    show x % 2 ^ s = 0
    have h1 : (x + 2 ^ s * 2 ^ (32 - s) * nat l) % 2 ^ s = 0 := by rw [h]; exact Nat.mul_mod_right _ _
    rw [Nat.mul_assoc, Nat.add_mul_mod_self_left] at h1
    exact h1
end Go.Proofs.Ytfehciiidmgopaa
