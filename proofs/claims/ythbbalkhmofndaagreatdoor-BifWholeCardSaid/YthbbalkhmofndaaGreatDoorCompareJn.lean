/- Numbers written in digits of 2^32, the lowest first: plain facts. Sums, differences, products and quotients, digit by digit: plain facts. Integers in memory: words. The small functions: Right, Clone, made, Of. made: an integer of digits. Of: an integer of a number. amounts: two amounts side by side. Compare: two integers side by side. -/
import Derived.Test.YthbbalkhmofndaaGreatDoorMoreJn
import Derived.Test.YthbbalkhmofndaaGreatDoorRows
import Derived.Lib.SliceRun
import Derived.Lib.Strings
import Derived.Deep.QuietTactic
import Derived.BigQuiet
import Derived.Deep.LoopGhost
namespace Go.Proofs.YthbbalkhmofndaaGreatDoor
set_option maxRecDepth 100000

abbrev B32 : Nat := 4294967296
def nat : List Nat → Nat
  | [] => 0
  | x :: l => x + B32 * nat l
/-- The first i digits (0 where there is none). -/
def pre (l : List Nat) : Nat → Nat
  | 0 => 0
  | i + 1 => pre l i + B32 ^ i * l.getD i 0
def Low (l : List Nat) : Prop := ∀ x ∈ l, x < B32
theorem Low.nil : Low [] := fun _ h => by cases h
theorem Low.tail {x : Nat} {l : List Nat} (h : Low (x :: l)) : Low l := fun y hy => h y (List.mem_cons_of_mem _ hy)
theorem Low.get {l : List Nat} (h : Low l) (i : Nat) : l.getD i 0 < B32 := by
  rw [List.getD_eq_getElem?_getD]
  by_cases hi : i < l.length
  · rw [List.getElem?_eq_getElem hi]; exact h _ (List.getElem_mem hi)
  · rw [List.getElem?_eq_none (by omega)]; decide
theorem Low.append {l m : List Nat} (h : Low l) (k : Low m) : Low (l ++ m) := fun x hx => (List.mem_append.1 hx).elim (h x) (k x)
theorem Low.take {l : List Nat} (h : Low l) (n : Nat) : Low (l.take n) := fun x hx => h x (List.mem_of_mem_take hx)
theorem Low.set {l : List Nat} (h : Low l) (n v : Nat) (hv : v < B32) : Low (l.set n v) := fun x hx => (List.mem_or_eq_of_mem_set hx).elim (h x) (fun e => e ▸ hv)
theorem Low.zeros (n : Nat) : Low (List.replicate n 0) := fun x hx => by rw [List.eq_of_mem_replicate hx]; decide

theorem pre_cons (x : Nat) (l : List Nat) : ∀ i, pre (x :: l) (i + 1) = x + B32 * pre l i
  | 0 => by simp [pre]
  | i + 1 => by
    rw [pre, pre_cons x l i, pre, List.getD_cons_succ, Nat.pow_succ, Nat.mul_add]
    have : B32 ^ i * B32 * l.getD i 0 = B32 * (B32 ^ i * l.getD i 0) := by rw [Nat.mul_comm (B32 ^ i) B32, Nat.mul_assoc]
    omega
theorem pre_nil : ∀ i, pre [] i = 0
  | 0 => rfl
  | i + 1 => by rw [pre, pre_nil i]; simp
theorem pre_ge : ∀ (l : List Nat) (i : Nat), l.length ≤ i → pre l i = nat l
  | [], i, _ => by rw [pre_nil]; rfl
  | x :: l, 0, h => by simp at h
  | x :: l, i + 1, h => by rw [pre_cons, pre_ge l i (by simpa using h)]; rfl
theorem pre_len (l : List Nat) : pre l l.length = nat l := pre_ge l _ (Nat.le_refl _)
theorem pre_lt {l : List Nat} (h : Low l) : ∀ i, pre l i < B32 ^ i
  | 0 => by simp [pre]
  | i + 1 => by
    have h1 := pre_lt h i
    have h2 : B32 ^ i * l.getD i 0 ≤ B32 ^ i * (B32 - 1) := Nat.mul_le_mul_left _ (by have := h.get i; omega)
    have h3 : B32 ^ i * (B32 - 1) + B32 ^ i = B32 ^ (i + 1) := by rw [Nat.pow_succ, ← Nat.mul_succ]; rfl
    rw [pre]; omega
theorem nat_lt {l : List Nat} (h : Low l) : nat l < B32 ^ l.length := pre_len l ▸ pre_lt h _
theorem pre_mono (l : List Nat) {i j : Nat} (h : i ≤ j) : pre l i ≤ pre l j := by
  induction h with
  | refl => exact Nat.le_refl _
  | step _ ih => exact Nat.le_trans ih (Nat.le_add_right _ _)
theorem pre_congr {l m : List Nat} : ∀ {i : Nat}, (∀ j, j < i → l.getD j 0 = m.getD j 0) → pre l i = pre m i
  | 0, _ => rfl
  | i + 1, h => by rw [pre, pre, pre_congr (fun j hj => h j (by omega)), h i (by omega)]
/-- Above the i-th they are the same. -/
theorem pre_tail {l m : List Nat} {i : Nat} : ∀ {n : Nat}, i ≤ n → (∀ j, i ≤ j → j < n → l.getD j 0 = m.getD j 0) → pre l n + pre m i = pre m n + pre l i := by
  intro n
  induction n with
  | zero =>
    intro h _
    obtain rfl : i = 0 := by omega
    rfl
  | succ n ih =>
    intro h hh
    by_cases e : i = n + 1
    · subst e; omega
    · have := ih (by omega) (fun j h1 h2 => hh j h1 (by omega))
      rw [pre, pre, hh n (by omega) (by omega)]; omega
/-- The first digit from above that differs tells which is below. -/
theorem pre_below {l m : List Nat} {i n : Nat} (hl : Low l) (hi : i < n) (hlt : l.getD i 0 < m.getD i 0) (h : ∀ j, i < j → j < n → l.getD j 0 = m.getD j 0) : pre l n < pre m n := by
  have h1 := pre_tail (l := l) (m := m) (i := i + 1) (n := n) (by omega) (fun j h1 h2 => h j (by omega) h2)
  have h2 := pre_lt hl i
  have h3 : B32 ^ i * (l.getD i 0 + 1) ≤ B32 ^ i * m.getD i 0 := Nat.mul_le_mul_left _ hlt
  rw [Nat.mul_add, Nat.mul_one] at h3
  rw [pre, pre] at h1
  omega
theorem pre_take (l : List Nat) (n : Nat) : ∀ i, i ≤ n → pre (l.take n) i = pre l i := fun i hi => pre_congr fun j hj => by
  rw [List.getD_eq_getElem?_getD, List.getD_eq_getElem?_getD, List.getElem?_take_of_lt (by omega)]
theorem nat_take (l : List Nat) {n : Nat} (hn : n ≤ l.length) : nat (l.take n) = pre l n := by
  rw [← pre_take l n n (Nat.le_refl _), pre_ge _ _ (by simp; omega)]
theorem pre_set_lo (l : List Nat) (k v : Nat) : ∀ i, i ≤ k → pre (l.set k v) i = pre l i := fun i hi => pre_congr fun j hj => by
  rw [List.getD_eq_getElem?_getD, List.getD_eq_getElem?_getD, List.getElem?_set_ne (by omega)]
theorem getD_set (l : List Nat) {k : Nat} (v : Nat) (hk : k < l.length) : (l.set k v).getD k 0 = v := by
  rw [List.getD_eq_getElem?_getD, List.getElem?_set_self (by omega)]; rfl
theorem getD_set_ne (l : List Nat) {k j : Nat} (v : Nat) (hk : k ≠ j) : (l.set k v).getD j 0 = l.getD j 0 := by
  rw [List.getD_eq_getElem?_getD, List.getElem?_set_ne hk, ← List.getD_eq_getElem?_getD]
theorem pre_set (l : List Nat) {k : Nat} (v : Nat) (hk : k < l.length) {i : Nat} (hi : k < i) : pre (l.set k v) i + B32 ^ k * l.getD k 0 = pre l i + B32 ^ k * v := by
  have h1 := pre_tail (l := l.set k v) (m := l) (i := k + 1) (n := i) (by omega) (fun j h1 _ => getD_set_ne l v (by omega))
  rw [pre, pre, getD_set l v hk, pre_set_lo l k v k (Nat.le_refl _)] at h1
  omega
theorem nat_set (l : List Nat) {k : Nat} (v : Nat) (hk : k < l.length) : nat (l.set k v) + B32 ^ k * l.getD k 0 = nat l + B32 ^ k * v := by
  have := pre_set l v hk (i := l.length) hk
  rw [pre_ge _ _ (by simp), pre_len] at this
  exact this
theorem nat_append (l m : List Nat) : nat (l ++ m) = nat l + B32 ^ l.length * nat m := by
  induction l with
  | nil => simp [nat]
  | cons x l ih =>
    rw [List.cons_append, nat, nat, ih, List.length_cons, Nat.pow_succ, Nat.mul_add, Nat.mul_comm (B32 ^ l.length) B32, Nat.mul_assoc]
    omega
theorem nat_zeros : ∀ n, nat (List.replicate n 0) = 0
  | 0 => rfl
  | n + 1 => by rw [List.replicate_succ, nat, nat_zeros n]; rfl
theorem getD_zeros (n i : Nat) : (List.replicate n 0).getD i 0 = 0 := by
  rw [List.getD_eq_getElem?_getD, List.getElem?_replicate]; split <;> rfl

/-- The digits of a number. -/
def dig (n : Nat) : List Nat := if h : n = 0 then [] else n % B32 :: dig (n / B32)
termination_by n
decreasing_by exact Nat.div_lt_self (by omega) (by decide)
theorem dig_zero : dig 0 = [] := by rw [dig]; simp
theorem dig_pos {n : Nat} (h : n ≠ 0) : dig n = n % B32 :: dig (n / B32) := by rw [dig, dif_neg h]
theorem nat_dig (n : Nat) : nat (dig n) = n := by
  induction n using Nat.strongRecOn with
  | ind n ih =>
    by_cases h : n = 0
    · subst h; rw [dig_zero]; rfl
    · rw [dig_pos h, nat, ih _ (Nat.div_lt_self (by omega) (by decide))]
      have := Nat.mod_add_div n B32; omega
theorem dig_low (n : Nat) : Low (dig n) := by
  induction n using Nat.strongRecOn with
  | ind n ih =>
    by_cases h : n = 0
    · subst h; rw [dig_zero]; exact Low.nil
    · rw [dig_pos h]
      intro x hx
      rcases List.mem_cons.1 hx with rfl | hx
      · exact Nat.mod_lt _ (by decide)
      · exact ih _ (Nat.div_lt_self (by omega) (by decide)) x hx
/-- No nought at the end. -/
def Norm (l : List Nat) : Prop := l = [] ∨ l.getD (l.length - 1) 0 ≠ 0
theorem nat_pos {l : List Nat} (h : Norm l) (hne : l ≠ []) : nat l ≠ 0 := by
  rcases h with h | h
  · exact absurd h hne
  · have hl : 0 < l.length := List.length_pos_iff.2 hne
    have h1 := pre_len l
    obtain ⟨k, hk⟩ : ∃ k, l.length = k + 1 := ⟨l.length - 1, by omega⟩
    rw [hk, pre] at h1
    rw [hk, Nat.add_sub_cancel] at h
    have : 0 < B32 ^ k * l.getD k 0 := Nat.mul_pos (Nat.pow_pos (by decide)) (by omega)
    omega
theorem Norm.tail {x : Nat} {l : List Nat} (h : Norm (x :: l)) : Norm l := by
  rcases h with h | h
  · cases h
  · by_cases e : l = []
    · exact .inl e
    · right
      have hl : 0 < l.length := List.length_pos_iff.2 e
      obtain ⟨k, hk⟩ : ∃ k, l.length = k + 1 := ⟨l.length - 1, by omega⟩
      rw [List.length_cons, Nat.add_sub_cancel, hk, List.getD_cons_succ] at h
      rw [hk, Nat.add_sub_cancel]; exact h
theorem dig_nat : ∀ {l : List Nat}, Low l → Norm l → l = dig (nat l)
  | [], _, _ => by rw [nat, dig_zero]
  | x :: l, h, hn => by
    have h1 := nat_pos hn (by simp)
    have hx : x < B32 := h x (List.mem_cons_self ..)
    rw [dig_pos h1, nat, Nat.add_mul_mod_self_left, Nat.mod_eq_of_lt hx, Nat.add_mul_div_left _ _ (by decide), Nat.div_eq_of_lt hx, Nat.zero_add, ← dig_nat h.tail hn.tail]
theorem dig_norm (n : Nat) : Norm (dig n) := by
  induction n using Nat.strongRecOn with
  | ind n ih =>
    by_cases h : n = 0
    · subst h; rw [dig_zero]; exact .inl rfl
    · right
      have hi := ih (n / B32) (Nat.div_lt_self (by omega) (by decide))
      rw [dig_pos h, List.length_cons, Nat.add_sub_cancel]
      rcases hi with hi | hi
      · rw [hi]
        have h0 : n / B32 = 0 := by have := nat_dig (n / B32); rw [hi] at this; exact this.symm
        simp only [List.length_nil, List.getD_cons_zero]
        have := Nat.mod_add_div n B32; rw [h0] at this; omega
      · have hne : dig (n / B32) ≠ [] := fun e => by rw [e] at hi; exact hi rfl
        obtain ⟨k, hk⟩ : ∃ k, (dig (n / B32)).length = k + 1 := ⟨(dig (n / B32)).length - 1, by have := List.length_pos_iff.2 hne; omega⟩
        rw [hk, List.getD_cons_succ]
        rw [hk, Nat.add_sub_cancel] at hi; exact hi
theorem dig_len {n k : Nat} : (dig n).length ≤ k ↔ n < B32 ^ k := by
  constructor
  · intro h
    have h1 := nat_lt (dig_low n)
    rw [nat_dig] at h1
    exact Nat.lt_of_lt_of_le h1 (Nat.pow_le_pow_right (by decide) h)
  · intro h
    rcases dig_norm n with e | e
    · rw [e]; exact Nat.zero_le _
    · rcases Nat.lt_or_ge k (dig n).length with hlt | hge
      · exfalso
        obtain ⟨j, hj⟩ : ∃ j, (dig n).length = j + 1 := ⟨(dig n).length - 1, by omega⟩
        have h1 := pre_len (dig n)
        rw [nat_dig, hj, pre] at h1
        rw [hj, Nat.add_sub_cancel] at e
        have h2 : B32 ^ j * 1 ≤ B32 ^ j * (dig n).getD j 0 := Nat.mul_le_mul_left _ (by omega)
        have h3 : B32 ^ k ≤ B32 ^ j := Nat.pow_le_pow_right (by decide) (by omega)
        omega
      · exact hge
theorem dig_len_lt {a b : Nat} (h : (dig a).length < (dig b).length) : a < b := by
  have h1 := dig_len (n := a) (k := (dig a).length)
  have h2 := dig_len (n := b) (k := (dig a).length)
  have h3 := h1.1 (Nat.le_refl _)
  have h4 : ¬ b < B32 ^ (dig a).length := fun e => by have := h2.2 e; omega
  omega
end Go.Proofs.YthbbalkhmofndaaGreatDoor
namespace Go.Proofs.YthbbalkhmofndaaGreatDoor
set_option maxRecDepth 100000

theorem add_step {a b p c x y s c' i : Nat} (h : a + b = p + B32 ^ i * c) (hs : x + y + c = s + B32 * c') : (a + B32 ^ i * x) + (b + B32 ^ i * y) = (p + B32 ^ i * s) + B32 ^ (i + 1) * c' := by
  have e : B32 ^ i * (x + y + c) = B32 ^ i * (s + B32 * c') := by rw [hs]
  rw [Nat.mul_add, Nat.mul_add, Nat.mul_add, ← Nat.mul_assoc, ← Nat.pow_succ, Nat.succ_eq_add_one] at e
  omega
theorem sub_step {a b p c x y s c' i : Nat} (h : p + b = a + B32 ^ i * c) (hs : s + y + c = x + B32 * c') : (p + B32 ^ i * s) + (b + B32 ^ i * y) = (a + B32 ^ i * x) + B32 ^ (i + 1) * c' := by
  have e : B32 ^ i * (s + y + c) = B32 ^ i * (x + B32 * c') := by rw [hs]
  rw [Nat.mul_add, Nat.mul_add, Nat.mul_add, ← Nat.mul_assoc, ← Nat.pow_succ, Nat.succ_eq_add_one] at e
  omega
/-- What is left of a row of noughts: digits that came one behind the other. -/
theorem pre_put (l : List Nat) {i : Nat} (v : Nat) (hi : i < l.length) : pre (l.set i v) (i + 1) = pre l i + B32 ^ i * v := by
  rw [pre, getD_set l v hi, pre_set_lo l i v i (Nat.le_refl _)]
theorem sub_end {p a b n c : Nat} (h : p + b = a + B32 ^ n * c) (hp : p < B32 ^ n) (hba : b ≤ a) : c = 0 ∧ p + b = a := by
  rcases Nat.eq_zero_or_pos c with e | e
  · exact ⟨e, by rw [e] at h; omega⟩
  · exfalso
    have : B32 ^ n * 1 ≤ B32 ^ n * c := Nat.mul_le_mul_left _ e
    omega

/-- One digit times one more, in its place. -/
theorem mul_step {o o' P x y c lo hi old i k pb : Nat} (h : o + B32 ^ (i + k) * c = P + x * (B32 ^ i * pb)) (hset : o' + B32 ^ (i + k) * old = o + B32 ^ (i + k) * lo) (hs : c + x * y + old = lo + B32 * hi) :
    o' + B32 ^ (i + (k + 1)) * hi = P + x * (B32 ^ i * (pb + B32 ^ k * y)) := by
  have e : B32 ^ (i + k) * (c + x * y + old) = B32 ^ (i + k) * (lo + B32 * hi) := by rw [hs]
  rw [Nat.mul_add, Nat.mul_add, Nat.mul_add, ← Nat.mul_assoc _ B32, ← Nat.pow_succ, Nat.succ_eq_add_one] at e
  have e2 : x * (B32 ^ i * (pb + B32 ^ k * y)) = x * (B32 ^ i * pb) + B32 ^ (i + k) * (x * y) := by
    rw [Nat.mul_add, Nat.mul_add, ← Nat.mul_assoc (B32 ^ i), ← Nat.pow_add]
    rw [Nat.mul_left_comm x (B32 ^ (i + k)) y]
  rw [e2, show i + (k + 1) = i + k + 1 from rfl]
  omega
theorem mul_room {c x y old : Nat} (hc : c < B32) (hx : x < B32) (hy : y < B32) (ho : old < B32) : c + x * y + old < 18446744073709551616 := by
  have h1 : x ≤ 4294967295 := by unfold B32 at hx; omega
  have h2 : y ≤ 4294967295 := by unfold B32 at hy; omega
  have h3 : x * y ≤ 4294967295 * 4294967295 := Nat.mul_le_mul h1 h2
  unfold B32 at hc ho
  omega
theorem mul_end {o o' a x b c i m : Nat} (h : o + B32 ^ (i + m) * c = a * b + x * (B32 ^ i * b)) (hset : o' = o + B32 ^ (i + m) * c) : o' = (a + B32 ^ i * x) * b := by
  rw [hset, h, Nat.add_mul, Nat.mul_comm (B32 ^ i) x, Nat.mul_assoc]

/-- Parted by a digit, from above. -/
theorem div_step {q q' a by' r r' d x i : Nat} {n : Nat} (h : q * by' + B32 ^ (i + 1) * r + (a + B32 ^ i * x) = n) (hq : q' = q + B32 ^ i * d) (hs : r * B32 + x = d * by' + r') : q' * by' + B32 ^ i * r' + a = n := by
  have e : B32 ^ i * (r * B32 + x) = B32 ^ i * (d * by' + r') := by rw [hs]
  rw [Nat.mul_add, Nat.mul_add] at e
  have e2 : B32 ^ (i + 1) * r = B32 ^ i * (r * B32) := by rw [Nat.pow_succ, Nat.mul_assoc, Nat.mul_comm B32 r]
  rw [hq, Nat.add_mul, Nat.mul_assoc]
  omega
theorem nat_put0 (l : List Nat) {i : Nat} (v : Nat) (hi : i < l.length) (h0 : l.getD i 0 = 0) : nat (l.set i v) = nat l + B32 ^ i * v := by
  have := nat_set l v hi
  rw [h0] at this; simpa using this
/-- A number of digits, times ten, and one more. -/
theorem ten_step {p p' c x lo hi k a d : Nat} (h : p + B32 ^ k * c = 10 * a + d) (hs : c + 10 * x = lo + B32 * hi) (hp : p' = p + B32 ^ k * lo) : p' + B32 ^ (k + 1) * hi = 10 * (a + B32 ^ k * x) + d := by
  have e : B32 ^ k * (c + 10 * x) = B32 ^ k * (lo + B32 * hi) := by rw [hs]
  rw [Nat.mul_add, Nat.mul_add, ← Nat.mul_assoc _ B32, ← Nat.pow_succ, Nat.succ_eq_add_one, Nat.mul_left_comm] at e
  rw [Nat.mul_add, hp]
  omega

/-- Noughts at the end, cut off. -/
theorem nat_cut {l : List Nat} {n : Nat} (hn : n ≤ l.length) (h : ∀ j, n ≤ j → j < l.length → l.getD j 0 = 0) : nat (l.take n) = nat l := by
  rw [nat_take l hn, ← pre_len l]
  have := pre_tail (l := l) (m := []) (i := n) (n := l.length) hn (fun j h1 h2 => by rw [h j h1 h2]; rfl)
  rw [pre_nil, pre_nil] at this
  omega
/-- The decimal digits, the lowest first. -/
def decs (n : Nat) : List Nat := if h : n = 0 then [] else n % 10 :: decs (n / 10)
termination_by n
decreasing_by exact Nat.div_lt_self (by omega) (by decide)
theorem decs_zero : decs 0 = [] := by rw [decs]; simp
theorem decs_pos {n : Nat} (h : n ≠ 0) : decs n = n % 10 :: decs (n / 10) := by rw [decs, dif_neg h]
/-- What decimal digits say, the highest first. -/
def says : Nat → List Nat → Nat
  | n, [] => n
  | n, d :: l => says (10 * n + d) l
theorem says_append : ∀ (l m : List Nat) (n : Nat), says n (l ++ m) = says (says n l) m
  | [], _, _ => rfl
  | d :: l, m, n => by rw [List.cons_append, says, says_append l m]; rfl
theorem says_decs (n : Nat) : says 0 (decs n).reverse = n := by
  induction n using Nat.strongRecOn with
  | ind n ih =>
    by_cases h : n = 0
    · subst h; rw [decs_zero]; rfl
    · rw [decs_pos h, List.reverse_cons, says_append, ih _ (Nat.div_lt_self (by omega) (by decide))]
      show 10 * (n / 10) + n % 10 = n
      omega
theorem decs_lt (n : Nat) : ∀ d ∈ decs n, d < 10 := by
  induction n using Nat.strongRecOn with
  | ind n ih =>
    by_cases h : n = 0
    · subst h; rw [decs_zero]; intro d hd; cases hd
    · rw [decs_pos h]
      intro d hd
      rcases List.mem_cons.1 hd with rfl | hd
      · exact Nat.mod_lt _ (by decide)
      · exact ih _ (Nat.div_lt_self (by omega) (by decide)) d hd
theorem decs_len {n k : Nat} (h : n < 10 ^ k) : (decs n).length ≤ k := by
  induction k generalizing n with
  | zero => obtain rfl : n = 0 := by simp at h; exact h
            rw [decs_zero]; exact Nat.le_refl _
  | succ k ih =>
    by_cases h0 : n = 0
    · subst h0; rw [decs_zero]; exact Nat.zero_le _
    · rw [decs_pos h0, List.length_cons]
      have := ih (n := n / 10) (by rw [Nat.pow_succ] at h; exact Nat.div_lt_of_lt_mul (by omega))
      omega
/-- The highest one is none. -/
theorem decs_top {n : Nat} (h : n ≠ 0) : ∃ d l, (decs n).reverse = d :: l ∧ d ≠ 0 := by
  induction n using Nat.strongRecOn with
  | ind n ih =>
    rw [decs_pos h, List.reverse_cons]
    by_cases h0 : n / 10 = 0
    · rw [h0, decs_zero]; exact ⟨n % 10, [], rfl, by omega⟩
    · obtain ⟨d, l, e, hd⟩ := ih _ (Nat.div_lt_self (by omega) (by decide)) h0
      rw [e]; exact ⟨d, l ++ [n % 10], rfl, hd⟩
end Go.Proofs.YthbbalkhmofndaaGreatDoor
namespace Go.Proofs.YthbbalkhmofndaaGreatDoor
set_option maxRecDepth 100000
open Go.RowKit

def u32s (l : List Nat) : List Value := l.map fun (x : Nat) => Value.int .u32 (x : Int)
theorem u32s_len (l : List Nat) : (u32s l).length = l.length := List.length_map _
theorem u32s_get {l : List Nat} {i : Nat} (h : i < l.length) : (u32s l)[i]? = some (.int .u32 ((l.getD i 0 : Nat) : Int)) := by
  unfold u32s; rw [List.getElem?_map, List.getD_eq_getElem?_getD, List.getElem?_eq_getElem h]; rfl
theorem u32s_ones (l : List Nat) : ∀ u ∈ u32s l, u.oneCell' = true := by
  intro u hu; obtain ⟨x, _, rfl⟩ := List.mem_map.1 hu; rfl
theorem u32s_set (l : List Nat) (i v : Nat) : u32s (l.set i v) = (u32s l).set i (.int .u32 (v : Int)) := by unfold u32s; rw [List.map_set]
theorem u32s_append (l m : List Nat) : u32s (l ++ m) = u32s l ++ u32s m := List.map_append
theorem u32s_take (l : List Nat) (n : Nat) : u32s (l.take n) = (u32s l).take n := List.map_take
theorem u32s_zeros (n : Nat) : u32s (List.replicate n 0) = List.replicate n (.int .u32 0) := List.map_replicate

/-- A slice's address and length: it reads as these digits. -/
structure LimbsIn (w : World) (B : Nat → Prop) (A : Option Addr) (n c : Nat) (l : List Nat) : Prop where
  reads : ∃ F, Reads w B F 1 A n (u32s l)
  low : Low l
  cap : n ≤ c
  max : c ≤ maxLen
theorem LimbsIn.len {w : World} {B : Nat → Prop} {A : Option Addr} {n c : Nat} {l : List Nat} (h : LimbsIn w B A n c l) : l.length = n := by
  obtain ⟨F, hr⟩ := h.reads
  have := hr.1
  rw [u32s_len] at this; omega
theorem LimbsIn.keep {w w' : World} {B : Nat → Prop} {A : Option Addr} {n c : Nat} {l : List Nat} (h : LimbsIn w B A n c l) (hk : Keeps NoB w w') : LimbsIn w' B A n c l := by
  obtain ⟨F, hr⟩ := h.reads
  exact ⟨⟨F, hr.keep hk (fun _ _ => id)⟩, h.low, h.cap, h.max⟩
theorem LimbsIn.far {w w' : World} {B fp : Nat → Prop} {A : Option Addr} {n c : Nat} {l : List Nat} (h : LimbsIn w B A n c l) (hk : Keeps fp w w') (hf : ∀ k, B k → ¬ fp k) : LimbsIn w' B A n c l := by
  obtain ⟨F, hr⟩ := h.reads
  exact ⟨⟨F, hr.keep hk hf⟩, h.low, h.cap, h.max⟩
theorem LimbsIn.more {w : World} {B B' : Nat → Prop} {A : Option Addr} {n c : Nat} {l : List Nat} (h : LimbsIn w B A n c l) (hB : ∀ k, k < w.heap.size → B k → B' k) : LimbsIn w B' A n c l := by
  obtain ⟨F, hr⟩ := h.reads
  exact ⟨⟨F, hr.more hB⟩, h.low, h.cap, h.max⟩
theorem LimbsIn.drew {w : World} {B : Nat → Prop} {A : Option Addr} {n c : Nat} {l : List Nat} (h : LimbsIn w B A n c l) : LimbsIn w.drew B A n c l := h.keep (Keeps.refl NoB w).drew
theorem LimbsIn.at {w : World} {B : Nat → Prop} {A : Option Addr} {n c : Nat} {l : List Nat} (h : LimbsIn w B A n c l) (hn : 0 < n) : ∃ b o, A = some ⟨b, o, none⟩ ∧ b < w.heap.size ∧ ∀ i, i < n → w.cell? ⟨b, o + i, none⟩ = some (.int .u32 ((l.getD i 0 : Nat) : Int)) := by
  have hl := h.len
  obtain ⟨F, hr⟩ := h.reads
  obtain ⟨⟨b, o, sp⟩, hA, hs, _, hb, hc⟩ := hr.2 hn
  simp only at hs
  subst hs
  exact ⟨b, o, hA, hb, fun i hi => (hc i _ (u32s_get (by omega))).1⟩
theorem LimbsIn.nil (w : World) (B : Nat → Prop) (A : Option Addr) (c : Nat) (hc : c ≤ maxLen) : LimbsIn w B A 0 c [] := ⟨⟨false, Reads.zero _ _ _ _ _⟩, Low.nil, Nat.zero_le _, hc⟩
theorem LimbsIn.of_slab {w : World} {e : TypeId} {A : Option Addr} {n c : Nat} {l : List Nat} (h : Slab w e 1 A n c (u32s l)) (hl : Low l) : LimbsIn w (rowB A) A n c l := ⟨⟨_, h.reads⟩, hl, h.2.1, h.2.2.1⟩
theorem Reads.upto {w : World} {B : Nat → Prop} {F : Bool} {A : Option Addr} {n k : Nat} {xs : List Value} (h : Reads w B F 1 A n xs) (hk : k ≤ n) : Reads w B F 1 A k (xs.take k) := by
  have hl := h.1
  refine ⟨by rw [List.length_take, hl]; omega, fun h0 => ?_⟩
  obtain ⟨ad, hA, hs, hb, hlt, hc⟩ := h.2 (by omega)
  refine ⟨ad, hA, hs, hb, hlt, fun j u hu => hc j u ?_⟩
  rw [List.getElem?_take] at hu
  split at hu
  · exact hu
  · cases hu
theorem LimbsIn.upto {w : World} {B : Nat → Prop} {A : Option Addr} {n k c : Nat} {l : List Nat} (h : LimbsIn w B A n c l) (hk : k ≤ n) : LimbsIn w B A k c (l.take k) := by
  obtain ⟨F, hr⟩ := h.reads
  exact ⟨⟨F, by rw [u32s_take]; exact hr.upto hk⟩, h.low.take k, Nat.le_trans hk h.cap, h.max⟩

/-- The integers that may be. -/
@[irreducible] def Big : Nat := B32 ^ 32
theorem Big_eq : Big = B32 ^ 32 := by unfold Big; rfl
theorem dig_big {n : Nat} : (dig n).length ≤ 32 ↔ n < Big := Big_eq ▸ dig_len
/-- A term's sign and digits are those of an integer. -/
structure IA (w : World) (B : Nat → Prop) (ng : Bool) (A : Option Addr) (n c : Nat) (z : Int) : Prop where
  limbs : LimbsIn w B A n c (dig z.natAbs)
  sign : ng = decide (z < 0)
  room : z.natAbs < Big
theorem IA.keep {w w' : World} {B : Nat → Prop} {ng : Bool} {A : Option Addr} {n c : Nat} {z : Int} (h : IA w B ng A n c z) (hk : Keeps NoB w w') : IA w' B ng A n c z := ⟨h.limbs.keep hk, h.sign, h.room⟩
theorem IA.far {w w' : World} {B fp : Nat → Prop} {ng : Bool} {A : Option Addr} {n c : Nat} {z : Int} (h : IA w B ng A n c z) (hk : Keeps fp w w') (hf : ∀ k, B k → ¬ fp k) : IA w' B ng A n c z := ⟨h.limbs.far hk hf, h.sign, h.room⟩
theorem IA.more {w : World} {B B' : Nat → Prop} {ng : Bool} {A : Option Addr} {n c : Nat} {z : Int} (h : IA w B ng A n c z) (hB : ∀ k, k < w.heap.size → B k → B' k) : IA w B' ng A n c z := ⟨h.limbs.more hB, h.sign, h.room⟩
theorem IA.len {w : World} {B : Nat → Prop} {ng : Bool} {A : Option Addr} {n c : Nat} {z : Int} (h : IA w B ng A n c z) : n ≤ 32 := by
  rw [← h.limbs.len]; exact dig_big.2 h.room

/-- Right. -/
def rightB (kd : Int) (ng : Bool) (l : List Nat) (tx : ByteArray) (nm : Int) (im tm : Nat) : Bool :=
  decide (kd = 1) && (decide (tx = ByteArray.empty) && (decide (nm = 0) && (decide (im + tm = 0) && (decide (l.length ≤ 32) && (if l.length = 0 then !ng else decide (l.getD (l.length - 1) 0 ≠ 0))))))
theorem right_IA {w : World} {B : Nat → Prop} {A : Option Addr} {n c : Nat} {kd nm : Int} {ng : Bool} {l : List Nat} {tx : ByteArray} {im tm : Nat} (h : rightB kd ng l tx nm im tm = true) (hl : LimbsIn w B A n c l) :
    kd = 1 ∧ tx = ByteArray.empty ∧ nm = 0 ∧ im = 0 ∧ tm = 0 ∧ IA w B ng A n c (if ng then -(nat l : Int) else nat l) ∧ l = dig (nat l) ∧ (ng = true → nat l ≠ 0) := by
  unfold rightB at h
  simp only [Bool.and_eq_true, decide_eq_true_eq] at h
  obtain ⟨rfl, rfl, rfl, h4, h5, h6⟩ := h
  have hn : Norm l := by
    split at h6
    · exact .inl (List.eq_nil_of_length_eq_zero ‹_›)
    · exact .inr (of_decide_eq_true h6)
  have hd := dig_nat hl.low hn
  have hz : ng = true → nat l ≠ 0 := by
    intro hng
    split at h6
    · rw [hng] at h6; cases h6
    · exact nat_pos hn (fun e => by subst e; simp at *)
  have ha : (if ng then -(nat l : Int) else (nat l : Int)).natAbs = nat l := by split <;> omega
  refine ⟨rfl, rfl, rfl, by omega, by omega, ⟨by rw [ha, ← hd]; exact hl, ?_, ?_⟩, hd, hz⟩
  · cases ng with
    | true => have := hz rfl; simp <;> omega
    | false => simp <;> omega
  · rw [ha]
    rw [Big_eq]
    exact Nat.lt_of_lt_of_le (nat_lt hl.low) (Nat.pow_le_pow_right (by decide) h5)
theorem IA_right {w : World} {B : Nat → Prop} {A : Option Addr} {n c : Nat} {ng : Bool} {z : Int} (h : IA w B ng A n c z) : rightB 1 ng (dig z.natAbs) ByteArray.empty 0 0 0 = true := by
  have h5 := h.len
  have hl := h.limbs.len
  unfold rightB
  simp only [Bool.and_eq_true, decide_eq_true_eq]
  refine ⟨trivial, trivial, trivial, trivial, by omega, ?_⟩
  split
  · rename_i h0
    rw [h.sign]
    have : z.natAbs = 0 := by rw [← nat_dig z.natAbs, List.eq_nil_of_length_eq_zero h0]; rfl
    simp; omega
  · rename_i h0
    rcases dig_norm z.natAbs with e | e
    · rw [e] at h0; exact absurd rfl h0
    · exact decide_eq_true e
end Go.Proofs.YthbbalkhmofndaaGreatDoor
namespace Go.Proofs.YthbbalkhmofndaaGreatDoor
set_option maxRecDepth 100000
open Go.RowKit
theorem key_inj {s t : ByteArray} (h : s.toList = t.toList) : s = t := by
  rw [Lib.toList_data, Lib.toList_data] at h
  cases s; cases t
  simp only [ByteArray.mk.injEq] at *
  exact Array.toList_inj.1 h
theorem strs_ne {s t : ByteArray} (h : s ≠ t) : (s.toList == t.toList) = false := by
  have h2 : ¬ s.toList = t.toList := fun e => h (key_inj e)
  simp [h2]

set_option maxRecDepth 100000 in
theorem right_any (kd nm : Int) (ng : Bool) (la ia ta : Option Addr) (ln lc im ic tm tc : Nat) (tx : ByteArray) (l : List Nat) (w : World) (B : Nat → Prop) (hl : LimbsIn w B la ln lc l) (hi : im ≤ 140737488355328) (ht : tm ≤ 140737488355328) :
    Calls Tryz.prog 11 #[.agg #[.int .u8 kd, .bool ng, .slice la ln lc, .string tx, .int .i64 nm, .slice ia im ic, .slice ta tm tc]] w fun e w' => e = .returned (.bool (rightB kd ng l tx nm im tm)) ∧ Keeps NoB w w' := by
  have hlen := hl.len
  have hn : ln ≤ maxLen := Nat.le_trans hl.cap hl.max
  have R := hide (show rightB kd ng l tx nm im tm = rightB kd ng l tx nm im tm from rfl)
  unfold maxLen at hn
  have HL := hide hl; clear hl
  generalize hr : rightB kd ng l tx nm im tm = r
  have HR := hide hr
  by_cases h1 : kd = 1
  · subst h1
    by_cases h2 : tx = ByteArray.empty
    · subst h2
      by_cases h3 : nm = 0
      · subst h3
        by_cases h4 : im + tm = 0
        · obtain ⟨rfl, rfl⟩ : im = 0 ∧ tm = 0 := by omega
          clear h4
          by_cases h5 : ln ≤ 32
          · by_cases h6 : ln = 0
            · obtain rfl : r = !ng := by rw [← hr]; unfold rightB; simp [hlen, h6]
              subst h6
              clear hr R
              cases ng
              · go_enter Tryz.func11, Tryz.ntmps11
                go_wp2
                go_ret
                exact ⟨rfl, (Keeps.refl _ _).alloc _⟩
              · go_enter Tryz.func11, Tryz.ntmps11
                go_wp2
                go_ret
                exact ⟨rfl, (Keeps.refl _ _).alloc _⟩
            · obtain ⟨b, o, rfl, hb, hc⟩ := HL.out.at (by omega)
              obtain ⟨k, hkk⟩ : ∃ k, ln = k + 1 := ⟨ln - 1, by omega⟩
              have hk := hc k (by omega)
              have hk1 : (ln : Int) - 1 = (k : Int) := by omega
              have hk2 : (k : Int) < (ln : Int) := by omega
              have hk0 : (0 : Int) ≤ (k : Int) := by omega
              have hk3 : k < ln := by omega
              obtain rfl : r = decide (l.getD k 0 ≠ 0) := by rw [← hr]; unfold rightB; rw [hlen, hkk]; simp; omega
              generalize l.getD k 0 = x at *
              have b5 : decide ((ln : Int) ≤ 32) = true := by simp; omega
              have b6 : ((ln : Int) == 0) = false := by simp; omega
              have b7 : decide (0 < (ln : Int)) = true := by simp; omega
              clear hr R hc hkk h5
              by_cases hx : x = 0
              · subst hx
                go_enter Tryz.func11, Tryz.ntmps11
                go_wp2
                go_ret
                exact ⟨rfl, (Keeps.refl _ _).alloc _⟩
              · have b8 : ((x : Int) == 0) = false := by simp; omega
                have b9 : ((x : Int) != 0) = true := by simp; omega
                rw [show decide (x ≠ 0) = true from decide_eq_true hx]
                clear hx
                go_enter Tryz.func11, Tryz.ntmps11
                go_wp2
                go_ret
                exact ⟨rfl, (Keeps.refl _ _).alloc _⟩
          · obtain rfl : r = false := by rw [← hr]; unfold rightB; simp [hlen, h5]
            have b5 : decide ((ln : Int) ≤ 32) = false := by simp; omega
            clear hr R h5
            go_enter Tryz.func11, Tryz.ntmps11
            go_wp2
            go_ret
            exact ⟨rfl, (Keeps.refl _ _).alloc _⟩
        · obtain rfl : r = false := by rw [← hr]; unfold rightB; simp only [h4, decide_false, Bool.false_and, Bool.and_false]
          have b4 : (((im : Int) + tm) == 0) = false := beq_eq_false_iff_ne.2 (by omega)
          have b5 : wrap64 ((im : Int) + tm) = (im : Int) + tm := by unfold wrap64; omega
          clear hr R
          go_enter Tryz.func11, Tryz.ntmps11
          go_wp2
          go_ret
          exact ⟨rfl, (Keeps.refl _ _).alloc _⟩
      · obtain rfl : r = false := by rw [← hr]; unfold rightB; simp [h3]
        have b3 : (nm == 0) = false := by simp [h3]
        clear hr R
        go_enter Tryz.func11, Tryz.ntmps11
        go_wp2
        go_ret
        exact ⟨rfl, (Keeps.refl _ _).alloc _⟩
    · obtain rfl : r = false := by rw [← hr]; unfold rightB; simp [h2]
      have b2 : (tx.toList == []) = false := by have := strs_ne h2; rw [Lib.toList_data ByteArray.empty] at this; exact this
      clear hr R
      go_enter Tryz.func11, Tryz.ntmps11
      go_wp2
      go_ret
      exact ⟨rfl, (Keeps.refl _ _).alloc _⟩
  · obtain rfl : r = false := by rw [← hr]; unfold rightB; simp [h1]
    have b1 : (kd == 1) = false := by simp [h1]
    clear hr R
    go_enter Tryz.func11, Tryz.ntmps11
    go_wp2
    go_ret
    exact ⟨rfl, (Keeps.refl _ _).alloc _⟩

theorem Tryz.info44 : (Tryz.prog.info? 44).map (fun i => (i.zero, i.size, i.bytes)) = some (some (.int .u32 0), 1, 4) := by kernel_rfl
set_option maxRecDepth 100000 in
theorem clone_limbs (A : Option Addr) (n c : Nat) (l : List Nat) (w : World) (B : Nat → Prop) (h : LimbsIn w B A n c l) (hb : Roomy n 4) :
    Calls Tryz.prog 65 #[.slice A n c] w fun e w' => ∃ A' c', e = .returned (.slice A' n c') ∧ Slab w' 44 1 A' n c' (u32s l) ∧ (∀ k, rowB A' k → w.heap.size ≤ k) ∧ Keeps NoB w w' := by
  obtain ⟨i0, hi0, hz0, hz1, hz2⟩ := info_parts Tryz.info44
  have q := fun (w : World) (a : Option Addr) (n c n' c' : Nat) => Lib.run_eql_slice_nil (P := Tryz.prog) w 23 44 a n c n' c' Tryz.underlying23
  obtain ⟨F, hr⟩ := h.reads
  have hlow := hide h.low
  rcases A with _ | ad
  · have hn : n = 0 := by
      rcases Nat.eq_zero_or_pos n with h | h
      · exact h
      · obtain ⟨ad, h, _⟩ := hr.2 h; cases h
    subst hn
    obtain rfl : l = [] := List.eq_nil_of_length_eq_zero h.len
    go_enter Tryz.func65, Tryz.ntmps65
    go_wp2
    go_ret
    exact ⟨none, 0, rfl, Slab.nil _ _ _, (fun k ⟨o, h⟩ => by cases h), Keeps.refl _ _⟩
  · clear h
    go_enter Tryz.func65, Tryz.ntmps65
    go_wp2_with (at_builtin; go_must (refine wpList_append_reads _ rfl (.tmp 5) (.tmp 6) 23 rfl w.heap.size 44 i0 _ 1 4 Tryz.underlying23 hi0 hz0 hz1 hz2 rfl (by omega) (.slice (some ⟨w.heap.size, 0, none⟩) 0 0) 0 [] rfl ?z1 B F (some ad) n c (u32s l) rfl ?z2 (u32s_ones l) ?z3 ?z4 ?z5 ?_))
    case z1 => exact World.ownsRow_made w #[] 0 (Nat.le_refl _) (Nat.zero_le _) rfl
    case z2 => exact hr.keep ((Keeps.refl NoB w).alloc _) (fun _ _ => id)
    case z3 => rw [Nat.zero_add]; exact hb.len (by omega)
    case z4 => rw [Nat.zero_add]; exact hb
    case z5 => simp
    intro v' w' hown hg _
    obtain ⟨A', c', hv, hs⟩ := Slab.of_own hown
    subst hv
    have hfr : ∀ k, rowB A' k → w.heap.size ≤ k := by
      rintro k ⟨o, rfl⟩
      rcases hown.2 with ⟨hv, _⟩ | ⟨g, cap, cur, hv, hb, _⟩
      · injection hv with hv _ _; cases hv
      · injection hv with hv _ _; injection hv with hv; injection hv with hv _ _; omega
    have HFR := hide hfr; clear hfr
    have H := hide hs; clear hown hs
    have hbel : Below w.heap.size w w' := ((Below.refl _ _).alloc (Nat.le_refl _) _).grown hg (by simp) (fun k h => by simp [Value.ownBlock] at h; omega)
    have HB := hide hbel; clear hbel hg
    go_wp2
    go_ret
    exact ⟨A', c', by simp, by simpa using H.out, HFR.out, Keeps.of_below HB.out _⟩
end Go.Proofs.YthbbalkhmofndaaGreatDoor
namespace Go.Proofs.YthbbalkhmofndaaGreatDoor
set_option maxRecDepth 100000
open Go.RowKit

/-- What is returned where z is an integer that may be. -/
def YesP (w : World) (z : Int) (e : Ending) (w' : World) : Prop := ∃ ng A n c, e = .returned (.tuple #[.agg #[.int .u8 1, .bool ng, .slice A n c, .string { data := #[] }, .int .i64 0, .slice none 0 0, .slice none 0 0], .bool true]) ∧ IA w' (fun k => w.heap.size ≤ k) ng A n c z ∧ Keeps NoB w w'
def NoP (w : World) (e : Ending) (w' : World) : Prop := e = .returned (.tuple #[.agg #[.int .u8 0, .bool false, .slice none 0 0, .string { data := #[] }, .int .i64 0, .slice none 0 0, .slice none 0 0], .bool false]) ∧ Keeps NoB w w'

/-- From m on there are noughts alone. -/
def Noughts (l : List Nat) (m : Nat) : Prop := ∀ j, m ≤ j → j < l.length → l.getD j 0 = 0
theorem Noughts.step {l : List Nat} {m k : Nat} (h : Noughts l m) (hk : m = k + 1) (h0 : l.getD k 0 = 0) : Noughts l k := fun j h1 h2 => by
  by_cases e : j = k
  · subst e; exact h0
  · exact h j (by omega) h2
theorem Noughts.norm {l : List Nat} {m k : Nat} (hm : m ≤ l.length) (hk : m = k + 1) (h0 : l.getD k 0 ≠ 0) : Norm (l.take m) := by
  right
  rw [List.length_take, Nat.min_eq_left hm, hk, Nat.add_sub_cancel, List.getD_eq_getElem?_getD, List.getElem?_take_of_lt (by omega), ← List.getD_eq_getElem?_getD]
  exact h0
theorem Noughts.dig {l : List Nat} {m : Nat} (h : Noughts l m) (hm : m ≤ l.length) (hl : Low l) (hn : Norm (l.take m)) : l.take m = dig (nat l) := by
  rw [dig_nat (hl.take m) hn, nat_cut hm h]

def lenV : Value → Nat
  | .slice _ m _ => m
  | _ => 0
def sgn (neg : Bool) (n : Nat) : Int := if neg then -(n : Int) else n
theorem sgn_abs (neg : Bool) (n : Nat) : (sgn neg n).natAbs = n := by unfold sgn; split <;> omega
theorem sgn_neg (neg : Bool) (n : Nat) : decide (sgn neg n < 0) = (neg && decide (0 < n)) := by
  unfold sgn
  cases neg with
  | true => rw [Bool.true_and, if_pos rfl]; exact decide_eq_decide.2 (by omega)
  | false => rw [Bool.false_and, if_neg (by decide)]; exact decide_eq_false (by omega)
theorem dig_pos_len {n : Nat} : 0 < (dig n).length ↔ 0 < n := by
  constructor
  · intro h
    rcases Nat.eq_zero_or_pos n with e | e
    · rw [e, dig_zero] at h; exact absurd h (by decide)
    · exact e
  · intro h
    rw [dig_pos (by omega)]; simp

/-- What is left when the loop is done. -/
theorem made_left {w : World} {A : Option Addr} {n c m : Nat} {l : List Nat} {B : Nat → Prop} (h : LimbsIn w B A n c l) (hm : m ≤ n) (hz : Noughts l m) (hn : Norm (l.take m)) : LimbsIn w B A m c (dig (nat l)) ∧ (m ≤ 32 ↔ nat l < Big) ∧ (0 < m ↔ 0 < nat l) := by
  have hlen := h.len
  have e := hz.dig (by omega) h.low hn
  have hm2 : (dig (nat l)).length = m := by rw [← e, List.length_take]; omega
  refine ⟨e ▸ h.upto hm, ?_, ?_⟩
  · rw [← hm2]; exact dig_big
  · rw [← hm2]; exact dig_pos_len

theorem Blk.put7 {w : World} {g : Nat} {t : TypeId} {z0 z1 z2 z3 z4 z5 z6 : Value} (h : Blk w g t #[z0, z1, z2, z3, z4, z5, z6]) (v0 v1 v2 v3 v4 v5 v6 : Value) :
    Blk (((((((w.setCell ⟨g, 0, none⟩ v0).setCell ⟨g, 1, none⟩ v1).setCell ⟨g, 2, none⟩ v2).setCell ⟨g, 3, none⟩ v3).setCell ⟨g, 4, none⟩ v4).setCell ⟨g, 5, none⟩ v5).setCell ⟨g, 6, none⟩ v6) g t #[v0, v1, v2, v3, v4, v5, v6] := by
  have := ((((((h.put 0 v0).put 1 v1).put 2 v2).put 3 v3).put 4 v4).put 5 v5).put 6 v6
  simpa using this
theorem Keeps.set7 {w0 w : World} {g : Nat} (h : Keeps NoB w0 w) (hg : w0.heap.size ≤ g) (v0 v1 v2 v3 v4 v5 v6 : Value) :
    Keeps NoB w0 (((((((w.setCell ⟨g, 0, none⟩ v0).setCell ⟨g, 1, none⟩ v1).setCell ⟨g, 2, none⟩ v2).setCell ⟨g, 3, none⟩ v3).setCell ⟨g, 4, none⟩ v4).setCell ⟨g, 5, none⟩ v5).setCell ⟨g, 6, none⟩ v6) :=
  ((((((h.setCell (p := ⟨g, 0, none⟩) (.inr hg) v0).setCell (p := ⟨g, 1, none⟩) (.inr hg) v1).setCell (p := ⟨g, 2, none⟩) (.inr hg) v2).setCell (p := ⟨g, 3, none⟩) (.inr hg) v3).setCell (p := ⟨g, 4, none⟩) (.inr hg) v4).setCell (p := ⟨g, 5, none⟩) (.inr hg) v5).setCell (p := ⟨g, 6, none⟩) (.inr hg) v6

theorem Keeps.set7' {w : World} {g : Nat} (v0 v1 v2 v3 v4 v5 v6 : Value) :
    Keeps (fun k => k = g) w (((((((w.setCell ⟨g, 0, none⟩ v0).setCell ⟨g, 1, none⟩ v1).setCell ⟨g, 2, none⟩ v2).setCell ⟨g, 3, none⟩ v3).setCell ⟨g, 4, none⟩ v4).setCell ⟨g, 5, none⟩ v5).setCell ⟨g, 6, none⟩ v6) :=
  (((((((Keeps.refl (fun k => k = g) w).setCell (p := ⟨g, 0, none⟩) (.inl rfl) v0).setCell (p := ⟨g, 1, none⟩) (.inl rfl) v1).setCell (p := ⟨g, 2, none⟩) (.inl rfl) v2).setCell (p := ⟨g, 3, none⟩) (.inl rfl) v3).setCell (p := ⟨g, 4, none⟩) (.inl rfl) v4).setCell (p := ⟨g, 5, none⟩) (.inl rfl) v5).setCell (p := ⟨g, 6, none⟩) (.inl rfl) v6
set_option maxRecDepth 100000 in
theorem made_yes (A : Option Addr) (n c : Nat) (neg : Bool) (l : List Nat) (w : World) (B : Nat → Prop) (h : LimbsIn w B A n c l) (hz : nat l < Big) :
    Calls Tryz.prog 31 #[.slice A n c, .bool neg] w (YesP w (sgn neg (nat l))) := by
  have HL := hide h
  have hlen := h.len
  have hcap := h.cap
  have hmax := h.max
  have HZ := hide hz
  unfold maxLen at hmax
  clear h hz
  go_enter Tryz.func31, Tryz.ntmps31
  go_wp2
  go_loop [0] (fun s => ∃ m : Nat, s = .slice A m c ∧ m ≤ n ∧ Hid (Noughts l m)) (fun s => lenV s)
  case atStart => exact ⟨n, rfl, Nat.le_refl _, hide (fun j h1 h2 => by omega)⟩
  case round =>
    obtain ⟨m, rfl, hm, hno⟩ := hrel
    cases neg
    case false =>
      by_cases h0 : m = 0
      · subst h0
        obtain ⟨hd, h32, hp⟩ := made_left HL.out (Nat.zero_le _) hno.out (.inl rfl)
        have hp0 : nat l = 0 := by rcases Nat.eq_zero_or_pos (nat l) with e | e; exact e; exact absurd (hp.2 e) (by omega)
        have HD := hide (hd.keep ((Keeps.refl NoB w).alloc (.cells #[.int .u8 0, .bool false, .slice none 0 0, .string { data := #[] }, .int .i64 0, .slice none 0 0, .slice none 0 0] 26))); clear hd h32 hp hno
        have HB := hide (Blk.new w 26 #[.int .u8 0, .bool false, .slice none 0 0, .string { data := #[] }, .int .i64 0, .slice none 0 0, .slice none 0 0])
        go_wp2_with (go_at_call 65; refine (clone_limbs _ _ _ _ _ _ HD.out (by unfold Roomy; omega)).mono ?_; rintro e w2 ⟨A2, c2, rfl, hs2, hf2, hk2⟩; have HL2 := hide hs2; have HF2 := hide hf2; have HB2 := hide (HB.out.keep hk2 id); have HK2 := hide (((Keeps.refl NoB w).alloc _).trans' hk2 (fun _ _ h => h) (fun _ _ h => h)); clear hs2 hf2 hk2 HB; have z0 : w2.cell? ⟨w.heap.size, 0, none⟩ = some (.int .u8 0) := HB2.out.cell 0; have z1 : w2.cell? ⟨w.heap.size, 1, none⟩ = some (.bool false) := HB2.out.cell 1; have z2 : w2.cell? ⟨w.heap.size, 2, none⟩ = some (.slice none 0 0) := HB2.out.cell 2; have z3 : w2.cell? ⟨w.heap.size, 3, none⟩ = some (.string { data := #[] }) := HB2.out.cell 3; have z4 : w2.cell? ⟨w.heap.size, 4, none⟩ = some (.int .i64 0) := HB2.out.cell 4; have z5 : w2.cell? ⟨w.heap.size, 5, none⟩ = some (.slice none 0 0) := HB2.out.cell 5; have z6 : w2.cell? ⟨w.heap.size, 6, none⟩ = some (.slice none 0 0) := HB2.out.cell 6; have f0 : w2.frozen? ⟨w.heap.size, 0, none⟩ = false := HB2.out.free 0; have f1 : w2.frozen? ⟨w.heap.size, 1, none⟩ = false := HB2.out.free 1; have f2 : w2.frozen? ⟨w.heap.size, 2, none⟩ = false := HB2.out.free 2; have f3 : w2.frozen? ⟨w.heap.size, 3, none⟩ = false := HB2.out.free 3; have f4 : w2.frozen? ⟨w.heap.size, 4, none⟩ = false := HB2.out.free 4; have f5 : w2.frozen? ⟨w.heap.size, 5, none⟩ = false := HB2.out.free 5; have f6 : w2.frozen? ⟨w.heap.size, 6, none⟩ = false := HB2.out.free 6)
        have HBf := hide (HB2.out.put7 (.int .u8 1) (.bool false) (.slice A2 0 c2) (.string { data := #[] }) (.int .i64 0) (.slice none 0 0) (.slice none 0 0))
        have HKf := hide (HK2.out.set7 (Nat.le_refl _) (.int .u8 1) (.bool false) (.slice A2 0 c2) (.string { data := #[] }) (.int .i64 0) (.slice none 0 0) (.slice none 0 0))
        have HLf := hide (HL2.out.keep (Keeps.set7' (g := w.heap.size) (.int .u8 1) (.bool false) (.slice A2 0 c2) (.string { data := #[] }) (.int .i64 0) (.slice none 0 0) (.slice none 0 0)) (fun k hk e => absurd (HF2.out k hk) (by simp; omega)))
        have HFf := hide (show ∀ k, rowB A2 k → w.heap.size ≤ k from fun k hk => by have := HF2.out k hk; simp at this; omega)
        clear z0 z1 z2 z3 z4 z5 z6 f0 f1 f2 f3 f4 f5 f6 HB2 HK2 HL2 HF2
        generalize (((((((w2.setCell ⟨w.heap.size, 0, none⟩ (.int .u8 1)).setCell ⟨w.heap.size, 1, none⟩ (.bool false)).setCell ⟨w.heap.size, 2, none⟩ (.slice A2 0 c2)).setCell ⟨w.heap.size, 3, none⟩ (.string { data := #[] })).setCell ⟨w.heap.size, 4, none⟩ (.int .i64 0)).setCell ⟨w.heap.size, 5, none⟩ (.slice none 0 0)).setCell ⟨w.heap.size, 6, none⟩ (.slice none 0 0)) = wf at *
        have d0 : wf.cell? ⟨w.heap.size, 0, none⟩ = some (.int .u8 1) := HBf.out.cell 0
        have d1 : wf.cell? ⟨w.heap.size, 1, none⟩ = some (.bool false) := HBf.out.cell 1
        have d2 : wf.cell? ⟨w.heap.size, 2, none⟩ = some (.slice A2 0 c2) := HBf.out.cell 2
        have d3 : wf.cell? ⟨w.heap.size, 3, none⟩ = some (.string { data := #[] }) := HBf.out.cell 3
        have d4 : wf.cell? ⟨w.heap.size, 4, none⟩ = some (.int .i64 0) := HBf.out.cell 4
        have d5 : wf.cell? ⟨w.heap.size, 5, none⟩ = some (.slice none 0 0) := HBf.out.cell 5
        have d6 : wf.cell? ⟨w.heap.size, 6, none⟩ = some (.slice none 0 0) := HBf.out.cell 6
        refine bodyPost_ret (v := .tuple #[.agg #[.int .u8 1, .bool false, .slice A2 0 c2, .string { data := #[] }, .int .i64 0, .slice none 0 0, .slice none 0 0], .bool true]) (by simp [results, Tryz.results31, go_sem, d0, d1, d2, d3, d4, d5, d6]) rfl ?_
        exact ⟨false, A2, 0, c2, rfl, ⟨by rw [sgn_abs]; exact (LimbsIn.of_slab HLf.out (dig_low _)).more (fun k _ hk => HFf.out k hk), by rw [sgn_neg, hp0]; simp, by rw [sgn_abs]; exact HZ.out⟩, HKf.out⟩
      · obtain ⟨b, o, rfl, hb, hc⟩ := (HL.out.keep ((Keeps.refl NoB w).alloc (.cells #[.int .u8 0, .bool false, .slice none 0 0, .string { data := #[] }, .int .i64 0, .slice none 0 0, .slice none 0 0] 26))).at (by omega)
        obtain ⟨k, hkk⟩ : ∃ k, m = k + 1 := ⟨m - 1, by omega⟩
        have hk := hc k (by omega)
        have hk1 : (m : Int) - 1 = (k : Int) := by omega
        have hk2 : (k : Int) < (m : Int) := by omega
        have hk0 : (0 : Int) ≤ (k : Int) := by omega
        have hk3 : k < m := by omega
        have hk4 : k ≤ c := by omega
        have hk5 : (k : Int) ≤ (c : Int) := by omega
        have hm0 : decide (0 < (m : Int)) = true := by simp; omega
        have HX := hide (show l.getD k 0 = l.getD k 0 from rfl)
        by_cases hx : l.getD k 0 = 0
        · have HX0 := hide hx
          rw [hx] at hk
          clear hx HX hc
          go_wp2
          go_round
          case rel => exact ⟨k, rfl, by omega, hide (hno.out.step hkk HX0.out)⟩
          case measure => simp [lenV]; omega
        · obtain ⟨hd, h32, hp⟩ := made_left HL.out hm hno.out (Noughts.norm (by omega) hkk hx)
          generalize l.getD k 0 = x at *
          have hb1 : ((x : Int) == 0) = false := by simp; omega
          have hp0 : 0 < nat l := hp.1 (by omega)
          have h32' : (m : Int) ≤ 32 := by have := h32.2 HZ.out; omega
          have hm32 : decide ((32 : Int) < (m : Int)) = false := by simp; omega
          have HD := hide (hd.keep ((Keeps.refl NoB w).alloc (.cells #[.int .u8 0, .bool false, .slice none 0 0, .string { data := #[] }, .int .i64 0, .slice none 0 0, .slice none 0 0] 26)))
          have HM := hide (show Roomy m 4 from by unfold Roomy; omega)
          clear hd h32 hp hno hx HX hc h32' hkk
          have HB := hide (Blk.new w 26 #[.int .u8 0, .bool false, .slice none 0 0, .string { data := #[] }, .int .i64 0, .slice none 0 0, .slice none 0 0])
          go_wp2_with (go_at_call 65; refine (clone_limbs _ _ _ _ _ _ HD.out HM.out).mono ?_; rintro e w2 ⟨A2, c2, rfl, hs2, hf2, hk2⟩; have HL2 := hide hs2; have HF2 := hide hf2; have HB2 := hide (HB.out.keep hk2 id); have HK2 := hide (((Keeps.refl NoB w).alloc _).trans' hk2 (fun _ _ h => h) (fun _ _ h => h)); clear hs2 hf2 hk2 HB; have z0 : w2.cell? ⟨w.heap.size, 0, none⟩ = some (.int .u8 0) := HB2.out.cell 0; have z1 : w2.cell? ⟨w.heap.size, 1, none⟩ = some (.bool false) := HB2.out.cell 1; have z2 : w2.cell? ⟨w.heap.size, 2, none⟩ = some (.slice none 0 0) := HB2.out.cell 2; have z3 : w2.cell? ⟨w.heap.size, 3, none⟩ = some (.string { data := #[] }) := HB2.out.cell 3; have z4 : w2.cell? ⟨w.heap.size, 4, none⟩ = some (.int .i64 0) := HB2.out.cell 4; have z5 : w2.cell? ⟨w.heap.size, 5, none⟩ = some (.slice none 0 0) := HB2.out.cell 5; have z6 : w2.cell? ⟨w.heap.size, 6, none⟩ = some (.slice none 0 0) := HB2.out.cell 6; have f0 : w2.frozen? ⟨w.heap.size, 0, none⟩ = false := HB2.out.free 0; have f1 : w2.frozen? ⟨w.heap.size, 1, none⟩ = false := HB2.out.free 1; have f2 : w2.frozen? ⟨w.heap.size, 2, none⟩ = false := HB2.out.free 2; have f3 : w2.frozen? ⟨w.heap.size, 3, none⟩ = false := HB2.out.free 3; have f4 : w2.frozen? ⟨w.heap.size, 4, none⟩ = false := HB2.out.free 4; have f5 : w2.frozen? ⟨w.heap.size, 5, none⟩ = false := HB2.out.free 5; have f6 : w2.frozen? ⟨w.heap.size, 6, none⟩ = false := HB2.out.free 6)
          have HBf := hide (HB2.out.put7 (.int .u8 1) (.bool false) (.slice A2 m c2) (.string { data := #[] }) (.int .i64 0) (.slice none 0 0) (.slice none 0 0))
          have HKf := hide (HK2.out.set7 (Nat.le_refl _) (.int .u8 1) (.bool false) (.slice A2 m c2) (.string { data := #[] }) (.int .i64 0) (.slice none 0 0) (.slice none 0 0))
          have HLf := hide (HL2.out.keep (Keeps.set7' (g := w.heap.size) (.int .u8 1) (.bool false) (.slice A2 m c2) (.string { data := #[] }) (.int .i64 0) (.slice none 0 0) (.slice none 0 0)) (fun k hk e => absurd (HF2.out k hk) (by simp; omega)))
          have HFf := hide (show ∀ k, rowB A2 k → w.heap.size ≤ k from fun k hk => by have := HF2.out k hk; simp at this; omega)
          clear z0 z1 z2 z3 z4 z5 z6 f0 f1 f2 f3 f4 f5 f6 HB2 HK2 HL2 HF2
          generalize (((((((w2.setCell ⟨w.heap.size, 0, none⟩ (.int .u8 1)).setCell ⟨w.heap.size, 1, none⟩ (.bool false)).setCell ⟨w.heap.size, 2, none⟩ (.slice A2 m c2)).setCell ⟨w.heap.size, 3, none⟩ (.string { data := #[] })).setCell ⟨w.heap.size, 4, none⟩ (.int .i64 0)).setCell ⟨w.heap.size, 5, none⟩ (.slice none 0 0)).setCell ⟨w.heap.size, 6, none⟩ (.slice none 0 0)) = wf at *
          have d0 : wf.cell? ⟨w.heap.size, 0, none⟩ = some (.int .u8 1) := HBf.out.cell 0
          have d1 : wf.cell? ⟨w.heap.size, 1, none⟩ = some (.bool false) := HBf.out.cell 1
          have d2 : wf.cell? ⟨w.heap.size, 2, none⟩ = some (.slice A2 m c2) := HBf.out.cell 2
          have d3 : wf.cell? ⟨w.heap.size, 3, none⟩ = some (.string { data := #[] }) := HBf.out.cell 3
          have d4 : wf.cell? ⟨w.heap.size, 4, none⟩ = some (.int .i64 0) := HBf.out.cell 4
          have d5 : wf.cell? ⟨w.heap.size, 5, none⟩ = some (.slice none 0 0) := HBf.out.cell 5
          have d6 : wf.cell? ⟨w.heap.size, 6, none⟩ = some (.slice none 0 0) := HBf.out.cell 6
          refine bodyPost_ret (v := .tuple #[.agg #[.int .u8 1, .bool false, .slice A2 m c2, .string { data := #[] }, .int .i64 0, .slice none 0 0, .slice none 0 0], .bool true]) (by simp [results, Tryz.results31, go_sem, d0, d1, d2, d3, d4, d5, d6]) rfl ?_
          exact ⟨false, A2, m, c2, rfl, ⟨by rw [sgn_abs]; exact (LimbsIn.of_slab HLf.out (dig_low _)).more (fun k _ hk => HFf.out k hk), by rw [sgn_neg, decide_eq_true hp0]; rfl, by rw [sgn_abs]; exact HZ.out⟩, HKf.out⟩
    case true =>
      by_cases h0 : m = 0
      · subst h0
        obtain ⟨hd, h32, hp⟩ := made_left HL.out (Nat.zero_le _) hno.out (.inl rfl)
        have hp0 : nat l = 0 := by rcases Nat.eq_zero_or_pos (nat l) with e | e; exact e; exact absurd (hp.2 e) (by omega)
        have HD := hide (hd.keep ((Keeps.refl NoB w).alloc (.cells #[.int .u8 0, .bool false, .slice none 0 0, .string { data := #[] }, .int .i64 0, .slice none 0 0, .slice none 0 0] 26))); clear hd h32 hp hno
        have HB := hide (Blk.new w 26 #[.int .u8 0, .bool false, .slice none 0 0, .string { data := #[] }, .int .i64 0, .slice none 0 0, .slice none 0 0])
        go_wp2_with (go_at_call 65; refine (clone_limbs _ _ _ _ _ _ HD.out (by unfold Roomy; omega)).mono ?_; rintro e w2 ⟨A2, c2, rfl, hs2, hf2, hk2⟩; have HL2 := hide hs2; have HF2 := hide hf2; have HB2 := hide (HB.out.keep hk2 id); have HK2 := hide (((Keeps.refl NoB w).alloc _).trans' hk2 (fun _ _ h => h) (fun _ _ h => h)); clear hs2 hf2 hk2 HB; have z0 : w2.cell? ⟨w.heap.size, 0, none⟩ = some (.int .u8 0) := HB2.out.cell 0; have z1 : w2.cell? ⟨w.heap.size, 1, none⟩ = some (.bool false) := HB2.out.cell 1; have z2 : w2.cell? ⟨w.heap.size, 2, none⟩ = some (.slice none 0 0) := HB2.out.cell 2; have z3 : w2.cell? ⟨w.heap.size, 3, none⟩ = some (.string { data := #[] }) := HB2.out.cell 3; have z4 : w2.cell? ⟨w.heap.size, 4, none⟩ = some (.int .i64 0) := HB2.out.cell 4; have z5 : w2.cell? ⟨w.heap.size, 5, none⟩ = some (.slice none 0 0) := HB2.out.cell 5; have z6 : w2.cell? ⟨w.heap.size, 6, none⟩ = some (.slice none 0 0) := HB2.out.cell 6; have f0 : w2.frozen? ⟨w.heap.size, 0, none⟩ = false := HB2.out.free 0; have f1 : w2.frozen? ⟨w.heap.size, 1, none⟩ = false := HB2.out.free 1; have f2 : w2.frozen? ⟨w.heap.size, 2, none⟩ = false := HB2.out.free 2; have f3 : w2.frozen? ⟨w.heap.size, 3, none⟩ = false := HB2.out.free 3; have f4 : w2.frozen? ⟨w.heap.size, 4, none⟩ = false := HB2.out.free 4; have f5 : w2.frozen? ⟨w.heap.size, 5, none⟩ = false := HB2.out.free 5; have f6 : w2.frozen? ⟨w.heap.size, 6, none⟩ = false := HB2.out.free 6)
        have HBf := hide (HB2.out.put7 (.int .u8 1) (.bool false) (.slice A2 0 c2) (.string { data := #[] }) (.int .i64 0) (.slice none 0 0) (.slice none 0 0))
        have HKf := hide (HK2.out.set7 (Nat.le_refl _) (.int .u8 1) (.bool false) (.slice A2 0 c2) (.string { data := #[] }) (.int .i64 0) (.slice none 0 0) (.slice none 0 0))
        have HLf := hide (HL2.out.keep (Keeps.set7' (g := w.heap.size) (.int .u8 1) (.bool false) (.slice A2 0 c2) (.string { data := #[] }) (.int .i64 0) (.slice none 0 0) (.slice none 0 0)) (fun k hk e => absurd (HF2.out k hk) (by simp; omega)))
        have HFf := hide (show ∀ k, rowB A2 k → w.heap.size ≤ k from fun k hk => by have := HF2.out k hk; simp at this; omega)
        clear z0 z1 z2 z3 z4 z5 z6 f0 f1 f2 f3 f4 f5 f6 HB2 HK2 HL2 HF2
        generalize (((((((w2.setCell ⟨w.heap.size, 0, none⟩ (.int .u8 1)).setCell ⟨w.heap.size, 1, none⟩ (.bool false)).setCell ⟨w.heap.size, 2, none⟩ (.slice A2 0 c2)).setCell ⟨w.heap.size, 3, none⟩ (.string { data := #[] })).setCell ⟨w.heap.size, 4, none⟩ (.int .i64 0)).setCell ⟨w.heap.size, 5, none⟩ (.slice none 0 0)).setCell ⟨w.heap.size, 6, none⟩ (.slice none 0 0)) = wf at *
        have d0 : wf.cell? ⟨w.heap.size, 0, none⟩ = some (.int .u8 1) := HBf.out.cell 0
        have d1 : wf.cell? ⟨w.heap.size, 1, none⟩ = some (.bool false) := HBf.out.cell 1
        have d2 : wf.cell? ⟨w.heap.size, 2, none⟩ = some (.slice A2 0 c2) := HBf.out.cell 2
        have d3 : wf.cell? ⟨w.heap.size, 3, none⟩ = some (.string { data := #[] }) := HBf.out.cell 3
        have d4 : wf.cell? ⟨w.heap.size, 4, none⟩ = some (.int .i64 0) := HBf.out.cell 4
        have d5 : wf.cell? ⟨w.heap.size, 5, none⟩ = some (.slice none 0 0) := HBf.out.cell 5
        have d6 : wf.cell? ⟨w.heap.size, 6, none⟩ = some (.slice none 0 0) := HBf.out.cell 6
        refine bodyPost_ret (v := .tuple #[.agg #[.int .u8 1, .bool false, .slice A2 0 c2, .string { data := #[] }, .int .i64 0, .slice none 0 0, .slice none 0 0], .bool true]) (by simp [results, Tryz.results31, go_sem, d0, d1, d2, d3, d4, d5, d6]) rfl ?_
        exact ⟨false, A2, 0, c2, rfl, ⟨by rw [sgn_abs]; exact (LimbsIn.of_slab HLf.out (dig_low _)).more (fun k _ hk => HFf.out k hk), by rw [sgn_neg, hp0]; simp, by rw [sgn_abs]; exact HZ.out⟩, HKf.out⟩
      · obtain ⟨b, o, rfl, hb, hc⟩ := (HL.out.keep ((Keeps.refl NoB w).alloc (.cells #[.int .u8 0, .bool false, .slice none 0 0, .string { data := #[] }, .int .i64 0, .slice none 0 0, .slice none 0 0] 26))).at (by omega)
        obtain ⟨k, hkk⟩ : ∃ k, m = k + 1 := ⟨m - 1, by omega⟩
        have hk := hc k (by omega)
        have hk1 : (m : Int) - 1 = (k : Int) := by omega
        have hk2 : (k : Int) < (m : Int) := by omega
        have hk0 : (0 : Int) ≤ (k : Int) := by omega
        have hk3 : k < m := by omega
        have hk4 : k ≤ c := by omega
        have hk5 : (k : Int) ≤ (c : Int) := by omega
        have hm0 : decide (0 < (m : Int)) = true := by simp; omega
        have HX := hide (show l.getD k 0 = l.getD k 0 from rfl)
        by_cases hx : l.getD k 0 = 0
        · have HX0 := hide hx
          rw [hx] at hk
          clear hx HX hc
          go_wp2
          go_round
          case rel => exact ⟨k, rfl, by omega, hide (hno.out.step hkk HX0.out)⟩
          case measure => simp [lenV]; omega
        · obtain ⟨hd, h32, hp⟩ := made_left HL.out hm hno.out (Noughts.norm (by omega) hkk hx)
          generalize l.getD k 0 = x at *
          have hb1 : ((x : Int) == 0) = false := by simp; omega
          have hp0 : 0 < nat l := hp.1 (by omega)
          have h32' : (m : Int) ≤ 32 := by have := h32.2 HZ.out; omega
          have hm32 : decide ((32 : Int) < (m : Int)) = false := by simp; omega
          have HD := hide (hd.keep ((Keeps.refl NoB w).alloc (.cells #[.int .u8 0, .bool false, .slice none 0 0, .string { data := #[] }, .int .i64 0, .slice none 0 0, .slice none 0 0] 26)))
          have HM := hide (show Roomy m 4 from by unfold Roomy; omega)
          clear hd h32 hp hno hx HX hc h32' hkk
          have HB := hide (Blk.new w 26 #[.int .u8 0, .bool false, .slice none 0 0, .string { data := #[] }, .int .i64 0, .slice none 0 0, .slice none 0 0])
          go_wp2_with (go_at_call 65; refine (clone_limbs _ _ _ _ _ _ HD.out HM.out).mono ?_; rintro e w2 ⟨A2, c2, rfl, hs2, hf2, hk2⟩; have HL2 := hide hs2; have HF2 := hide hf2; have HB2 := hide (HB.out.keep hk2 id); have HK2 := hide (((Keeps.refl NoB w).alloc _).trans' hk2 (fun _ _ h => h) (fun _ _ h => h)); clear hs2 hf2 hk2 HB; have z0 : w2.cell? ⟨w.heap.size, 0, none⟩ = some (.int .u8 0) := HB2.out.cell 0; have z1 : w2.cell? ⟨w.heap.size, 1, none⟩ = some (.bool false) := HB2.out.cell 1; have z2 : w2.cell? ⟨w.heap.size, 2, none⟩ = some (.slice none 0 0) := HB2.out.cell 2; have z3 : w2.cell? ⟨w.heap.size, 3, none⟩ = some (.string { data := #[] }) := HB2.out.cell 3; have z4 : w2.cell? ⟨w.heap.size, 4, none⟩ = some (.int .i64 0) := HB2.out.cell 4; have z5 : w2.cell? ⟨w.heap.size, 5, none⟩ = some (.slice none 0 0) := HB2.out.cell 5; have z6 : w2.cell? ⟨w.heap.size, 6, none⟩ = some (.slice none 0 0) := HB2.out.cell 6; have f0 : w2.frozen? ⟨w.heap.size, 0, none⟩ = false := HB2.out.free 0; have f1 : w2.frozen? ⟨w.heap.size, 1, none⟩ = false := HB2.out.free 1; have f2 : w2.frozen? ⟨w.heap.size, 2, none⟩ = false := HB2.out.free 2; have f3 : w2.frozen? ⟨w.heap.size, 3, none⟩ = false := HB2.out.free 3; have f4 : w2.frozen? ⟨w.heap.size, 4, none⟩ = false := HB2.out.free 4; have f5 : w2.frozen? ⟨w.heap.size, 5, none⟩ = false := HB2.out.free 5; have f6 : w2.frozen? ⟨w.heap.size, 6, none⟩ = false := HB2.out.free 6)
          have HBf := hide (HB2.out.put7 (.int .u8 1) (.bool true) (.slice A2 m c2) (.string { data := #[] }) (.int .i64 0) (.slice none 0 0) (.slice none 0 0))
          have HKf := hide (HK2.out.set7 (Nat.le_refl _) (.int .u8 1) (.bool true) (.slice A2 m c2) (.string { data := #[] }) (.int .i64 0) (.slice none 0 0) (.slice none 0 0))
          have HLf := hide (HL2.out.keep (Keeps.set7' (g := w.heap.size) (.int .u8 1) (.bool true) (.slice A2 m c2) (.string { data := #[] }) (.int .i64 0) (.slice none 0 0) (.slice none 0 0)) (fun k hk e => absurd (HF2.out k hk) (by simp; omega)))
          have HFf := hide (show ∀ k, rowB A2 k → w.heap.size ≤ k from fun k hk => by have := HF2.out k hk; simp at this; omega)
          clear z0 z1 z2 z3 z4 z5 z6 f0 f1 f2 f3 f4 f5 f6 HB2 HK2 HL2 HF2
          generalize (((((((w2.setCell ⟨w.heap.size, 0, none⟩ (.int .u8 1)).setCell ⟨w.heap.size, 1, none⟩ (.bool true)).setCell ⟨w.heap.size, 2, none⟩ (.slice A2 m c2)).setCell ⟨w.heap.size, 3, none⟩ (.string { data := #[] })).setCell ⟨w.heap.size, 4, none⟩ (.int .i64 0)).setCell ⟨w.heap.size, 5, none⟩ (.slice none 0 0)).setCell ⟨w.heap.size, 6, none⟩ (.slice none 0 0)) = wf at *
          have d0 : wf.cell? ⟨w.heap.size, 0, none⟩ = some (.int .u8 1) := HBf.out.cell 0
          have d1 : wf.cell? ⟨w.heap.size, 1, none⟩ = some (.bool true) := HBf.out.cell 1
          have d2 : wf.cell? ⟨w.heap.size, 2, none⟩ = some (.slice A2 m c2) := HBf.out.cell 2
          have d3 : wf.cell? ⟨w.heap.size, 3, none⟩ = some (.string { data := #[] }) := HBf.out.cell 3
          have d4 : wf.cell? ⟨w.heap.size, 4, none⟩ = some (.int .i64 0) := HBf.out.cell 4
          have d5 : wf.cell? ⟨w.heap.size, 5, none⟩ = some (.slice none 0 0) := HBf.out.cell 5
          have d6 : wf.cell? ⟨w.heap.size, 6, none⟩ = some (.slice none 0 0) := HBf.out.cell 6
          refine bodyPost_ret (v := .tuple #[.agg #[.int .u8 1, .bool true, .slice A2 m c2, .string { data := #[] }, .int .i64 0, .slice none 0 0, .slice none 0 0], .bool true]) (by simp [results, Tryz.results31, go_sem, d0, d1, d2, d3, d4, d5, d6]) rfl ?_
          exact ⟨true, A2, m, c2, rfl, ⟨by rw [sgn_abs]; exact (LimbsIn.of_slab HLf.out (dig_low _)).more (fun k _ hk => HFf.out k hk), by rw [sgn_neg, decide_eq_true hp0]; rfl, by rw [sgn_abs]; exact HZ.out⟩, HKf.out⟩

set_option maxRecDepth 100000 in
theorem made_no (A : Option Addr) (n c : Nat) (neg : Bool) (l : List Nat) (w : World) (B : Nat → Prop) (h : LimbsIn w B A n c l) (hz : Big ≤ nat l) :
    Calls Tryz.prog 31 #[.slice A n c, .bool neg] w (NoP w) := by
  have HL := hide h
  have hlen := h.len
  have hcap := h.cap
  have hmax := h.max
  have HZ := hide hz
  unfold maxLen at hmax
  clear h hz
  go_enter Tryz.func31, Tryz.ntmps31
  go_wp2
  go_loop [0] (fun s => ∃ m : Nat, s = .slice A m c ∧ m ≤ n ∧ Hid (Noughts l m)) (fun s => lenV s)
  case atStart => exact ⟨n, rfl, Nat.le_refl _, hide (fun j h1 h2 => by omega)⟩
  case round =>
    obtain ⟨m, rfl, hm, hno⟩ := hrel
    have hm1 : m ≠ 0 := by
      rintro rfl
      obtain ⟨hd, h32, hp⟩ := made_left HL.out (Nat.zero_le _) hno.out (.inl rfl)
      have := h32.1 (by omega)
      have := HZ.out
      omega
    obtain ⟨b, o, rfl, hb, hc⟩ := (HL.out.keep ((Keeps.refl NoB w).alloc (.cells #[.int .u8 0, .bool false, .slice none 0 0, .string { data := #[] }, .int .i64 0, .slice none 0 0, .slice none 0 0] 26))).at (by omega)
    obtain ⟨k, hkk⟩ : ∃ k, m = k + 1 := ⟨m - 1, by omega⟩
    have hk := hc k (by omega)
    have hk1 : (m : Int) - 1 = (k : Int) := by omega
    have hk2 : (k : Int) < (m : Int) := by omega
    have hk0 : (0 : Int) ≤ (k : Int) := by omega
    have hk3 : k < m := by omega
    have hk4 : k ≤ c := by omega
    have hk5 : (k : Int) ≤ (c : Int) := by omega
    have hm0 : decide (0 < (m : Int)) = true := by simp; omega
    have HX := hide (show l.getD k 0 = l.getD k 0 from rfl)
    by_cases hx : l.getD k 0 = 0
    · have HX0 := hide hx
      rw [hx] at hk
      clear hx HX hc
      go_wp2
      go_round
      case rel => exact ⟨k, rfl, by omega, hide (hno.out.step hkk HX0.out)⟩
      case measure => simp [lenV]; omega
    · obtain ⟨hd, h32, hp⟩ := made_left HL.out hm hno.out (Noughts.norm (by omega) hkk hx)
      generalize l.getD k 0 = x at *
      have hb1 : ((x : Int) == 0) = false := by simp; omega
      have h32' : 32 < m := by
        rcases Nat.lt_or_ge 32 m with e | e
        · exact e
        · exact absurd (h32.1 e) (by have := HZ.out; omega)
      have hm32 : decide ((32 : Int) < (m : Int)) = true := by simp; omega
      clear hd h32 hp hno hx HX hc h32' hkk
      have HB := hide (Blk.new w 26 #[.int .u8 0, .bool false, .slice none 0 0, .string { data := #[] }, .int .i64 0, .slice none 0 0, .slice none 0 0])
      have HK := hide ((Keeps.refl NoB w).alloc (.cells #[.int .u8 0, .bool false, .slice none 0 0, .string { data := #[] }, .int .i64 0, .slice none 0 0, .slice none 0 0] 26))
      go_wp2
      generalize w.alloc (.cells #[.int .u8 0, .bool false, .slice none 0 0, .string { data := #[] }, .int .i64 0, .slice none 0 0, .slice none 0 0] 26) = w7 at *
      have d0 : w7.cell? ⟨w.heap.size, 0, none⟩ = some (.int .u8 0) := HB.out.cell 0
      have d1 : w7.cell? ⟨w.heap.size, 1, none⟩ = some (.bool false) := HB.out.cell 1
      have d2 : w7.cell? ⟨w.heap.size, 2, none⟩ = some (.slice none 0 0) := HB.out.cell 2
      have d3 : w7.cell? ⟨w.heap.size, 3, none⟩ = some (.string { data := #[] }) := HB.out.cell 3
      have d4 : w7.cell? ⟨w.heap.size, 4, none⟩ = some (.int .i64 0) := HB.out.cell 4
      have d5 : w7.cell? ⟨w.heap.size, 5, none⟩ = some (.slice none 0 0) := HB.out.cell 5
      have d6 : w7.cell? ⟨w.heap.size, 6, none⟩ = some (.slice none 0 0) := HB.out.cell 6
      refine bodyPost_ret (v := .tuple #[.agg #[.int .u8 0, .bool false, .slice none 0 0, .string { data := #[] }, .int .i64 0, .slice none 0 0, .slice none 0 0], .bool false]) (by simp [results, Tryz.results31, go_sem, d0, d1, d2, d3, d4, d5, d6]) rfl ?_
      exact ⟨rfl, HK.out⟩
end Go.Proofs.YthbbalkhmofndaaGreatDoor
namespace Go.Proofs.YthbbalkhmofndaaGreatDoor
set_option maxRecDepth 100000
open Go.RowKit

/-- An integer is returned. -/
def IntP (w : World) (z : Int) (e : Ending) (w' : World) : Prop := ∃ ng A n c, e = .returned (.agg #[.int .u8 1, .bool ng, .slice A n c, .string { data := #[] }, .int .i64 0, .slice none 0 0, .slice none 0 0]) ∧ IA w' (fun k => w.heap.size ≤ k) ng A n c z ∧ Keeps NoB w w'

theorem limbs_two {w : World} {g : Nat} {x y : Int} {a b : Nat} (h : Blk w g 44 #[.int .u32 x, .int .u32 y]) (hx : x = a) (hy : y = b) (ha : a < B32) (hb : b < B32) : LimbsIn w (fun k => k = g) (some ⟨g, 0, none⟩) 2 2 [a, b] := by
  subst hx hy
  have hs : Slab w 44 1 (some ⟨g, 0, none⟩) 2 2 (u32s [a, b]) := Slab.mk' rfl (Nat.le_refl _) (by decide) h (by simp) (fun j hj => by
    rcases (by omega : j = 0 ∨ j = 1) with rfl | rfl <;> rfl)
  exact (LimbsIn.of_slab hs (fun z hz => by simp at hz; rcases hz with rfl | rfl <;> assumption)).more (fun k _ ⟨o, e⟩ => by injection e with e; injection e with e; exact e.symm)
theorem Blk.new2' (w : World) (o : Obj) (t : TypeId) (cs : Array Value) : Blk ((w.alloc o).alloc (.cells cs t)) (w.heap.size + 1) t cs := by
  have := Blk.new (w.alloc o) t cs
  simpa using this
theorem nat_two (M : Nat) : nat [M % B32, M / B32] = M := by
  show M % B32 + B32 * (M / B32 + B32 * 0) = M
  have := Nat.mod_add_div M B32
  omega
theorem big_pow : 18446744073709551616 ≤ Big := by
  rw [Big_eq]
  exact Nat.le_trans (show 18446744073709551616 ≤ B32 ^ 2 by decide) (Nat.pow_le_pow_right (by decide) (by decide))
theorem small_big {M : Nat} (h : M < 18446744073709551616) : M < Big := Nat.lt_of_lt_of_le h big_pow

set_option maxRecDepth 100000 in
theorem of_any (z : Int) (h1 : -9223372036854775808 ≤ z) (h2 : z ≤ 9223372036854775807) (w : World) : Calls Tryz.prog 29 #[.int .i64 z] w (IntP w z) := by
  by_cases hz : z < 0
  · obtain ⟨M, rfl⟩ : ∃ M : Nat, z = -(M : Int) := ⟨z.natAbs, by omega⟩
    have hz0 : 0 < M := by omega
    have hz1 : decide (-(M : Int) < 0) = true := by simp only [hz, decide_true]
    have hz2 : decide (0 < (M : Int)) = true := by simp; exact hz0
    have e1 : IntKind.u64.wrap (-(M : Int)) = 18446744073709551616 - (M : Int) := by unfold IntKind.wrap; simp [IntKind.bits, IntKind.signed]; omega
    have e2 : IntKind.u64.wrap (-(18446744073709551616 - (M : Int))) = (M : Int) := by unfold IntKind.wrap; simp [IntKind.bits, IntKind.signed]; omega
    clear hz
    have hw1 : ((M : Int) % 4294967296) = ((M % B32 : Nat) : Int) := by unfold B32; omega
    have HM := hide (show nat [M % B32, M / B32] < Big from by rw [nat_two]; exact small_big (by omega))
    have HL := hide (fun (W : World) (g : Nat) (x y : Int) (hb : Blk W g 44 #[.int .u32 x, .int .u32 y]) (hx : x = ((M % B32 : Nat) : Int)) (hy : y = ((M / B32 : Nat) : Int)) => (limbs_two hb hx hy (Nat.mod_lt _ (by decide)) (by unfold B32; omega) : LimbsIn W (fun k => k = g) (some ⟨g, 0, none⟩) 2 2 [M % B32, M / B32]))
    clear hw1
    go_enter Tryz.func29, Tryz.ntmps29
    go_wp2_with (go_at_call 31; refine (made_yes _ _ _ true _ _ _ (HL.out _ _ _ _ (Blk.new2' _ _ _ _) (by unfold B32; omega) (by unfold B32; omega)) HM.out).mono ?_; rintro e w2 ⟨ng, A, n, c, rfl, hi, hk⟩; have HI := hide hi; have HB2 := hide (((Blk.new w 26 #[.int .u8 0, .bool false, .slice none 0 0, .string { data := #[] }, .int .i64 0, .slice none 0 0, .slice none 0 0]).alloc _).keep hk id); have HK2 := hide ((((Keeps.refl NoB w).alloc _).alloc _).trans' hk (fun _ _ h => h) (fun _ _ h => h)); clear hi hk; have hlt := HB2.out.lt; have z0 : w2.cell? ⟨w.heap.size, 0, none⟩ = some (.int .u8 0) := HB2.out.cell 0; have z1 : w2.cell? ⟨w.heap.size, 1, none⟩ = some (.bool false) := HB2.out.cell 1; have z2 : w2.cell? ⟨w.heap.size, 2, none⟩ = some (.slice none 0 0) := HB2.out.cell 2; have z3 : w2.cell? ⟨w.heap.size, 3, none⟩ = some (.string { data := #[] }) := HB2.out.cell 3; have z4 : w2.cell? ⟨w.heap.size, 4, none⟩ = some (.int .i64 0) := HB2.out.cell 4; have z5 : w2.cell? ⟨w.heap.size, 5, none⟩ = some (.slice none 0 0) := HB2.out.cell 5; have z6 : w2.cell? ⟨w.heap.size, 6, none⟩ = some (.slice none 0 0) := HB2.out.cell 6; have f0 : w2.frozen? ⟨w.heap.size, 0, none⟩ = false := HB2.out.free 0; have f1 : w2.frozen? ⟨w.heap.size, 1, none⟩ = false := HB2.out.free 1; have f2 : w2.frozen? ⟨w.heap.size, 2, none⟩ = false := HB2.out.free 2; have f3 : w2.frozen? ⟨w.heap.size, 3, none⟩ = false := HB2.out.free 3; have f4 : w2.frozen? ⟨w.heap.size, 4, none⟩ = false := HB2.out.free 4; have f5 : w2.frozen? ⟨w.heap.size, 5, none⟩ = false := HB2.out.free 5; have f6 : w2.frozen? ⟨w.heap.size, 6, none⟩ = false := HB2.out.free 6)
    have HBf := hide ((HB2.out.put7 (.int .u8 1) (.bool ng) (.slice A n c) (.string { data := #[] }) (.int .i64 0) (.slice none 0 0) (.slice none 0 0)).alloc (.cells #[.int .u8 1, .bool ng, .slice A n c, .string { data := #[] }, .int .i64 0, .slice none 0 0, .slice none 0 0] 26))
    have HKf := hide ((HK2.out.set7 (Nat.le_refl _) (.int .u8 1) (.bool ng) (.slice A n c) (.string { data := #[] }) (.int .i64 0) (.slice none 0 0) (.slice none 0 0)).alloc (.cells #[.int .u8 1, .bool ng, .slice A n c, .string { data := #[] }, .int .i64 0, .slice none 0 0, .slice none 0 0] 26))
    have HIf := hide (((HI.out.far (Keeps.set7' (g := w.heap.size) (.int .u8 1) (.bool ng) (.slice A n c) (.string { data := #[] }) (.int .i64 0) (.slice none 0 0) (.slice none 0 0)) (fun k hk e => by simp at hk; omega)).keep ((Keeps.refl NoB _).alloc (.cells #[.int .u8 1, .bool ng, .slice A n c, .string { data := #[] }, .int .i64 0, .slice none 0 0, .slice none 0 0] 26))).more (B' := fun k => w.heap.size ≤ k) (fun k _ hk => by simp at hk; omega))
    clear z0 z1 z2 z3 z4 z5 z6 f0 f1 f2 f3 f4 f5 f6 HB2 HK2 HI hlt
    generalize (((((((w2.setCell ⟨w.heap.size, 0, none⟩ (.int .u8 1)).setCell ⟨w.heap.size, 1, none⟩ (.bool ng)).setCell ⟨w.heap.size, 2, none⟩ (.slice A n c)).setCell ⟨w.heap.size, 3, none⟩ (.string { data := #[] })).setCell ⟨w.heap.size, 4, none⟩ (.int .i64 0)).setCell ⟨w.heap.size, 5, none⟩ (.slice none 0 0)).setCell ⟨w.heap.size, 6, none⟩ (.slice none 0 0)).alloc (.cells #[.int .u8 1, .bool ng, .slice A n c, .string { data := #[] }, .int .i64 0, .slice none 0 0, .slice none 0 0] 26) = wf at *
    have d0 : wf.cell? ⟨w.heap.size, 0, none⟩ = some (.int .u8 1) := HBf.out.cell 0
    have d1 : wf.cell? ⟨w.heap.size, 1, none⟩ = some (.bool ng) := HBf.out.cell 1
    have d2 : wf.cell? ⟨w.heap.size, 2, none⟩ = some (.slice A n c) := HBf.out.cell 2
    have d3 : wf.cell? ⟨w.heap.size, 3, none⟩ = some (.string { data := #[] }) := HBf.out.cell 3
    have d4 : wf.cell? ⟨w.heap.size, 4, none⟩ = some (.int .i64 0) := HBf.out.cell 4
    have d5 : wf.cell? ⟨w.heap.size, 5, none⟩ = some (.slice none 0 0) := HBf.out.cell 5
    have d6 : wf.cell? ⟨w.heap.size, 6, none⟩ = some (.slice none 0 0) := HBf.out.cell 6
    refine bodyPost_ret (v := .agg #[.int .u8 1, .bool ng, .slice A n c, .string { data := #[] }, .int .i64 0, .slice none 0 0, .slice none 0 0]) (by simp [results, Tryz.results29, go_sem, d0, d1, d2, d3, d4, d5, d6]) rfl ?_
    refine ⟨ng, A, n, c, rfl, ?_, HKf.out⟩
    have hh := HIf.out
    rw [nat_two] at hh
    exact hh
  · obtain ⟨M, rfl⟩ : ∃ M : Nat, z = (M : Int) := ⟨z.natAbs, by omega⟩
    have hz1 : decide ((M : Int) < 0) = false := by simp
    have e1 : IntKind.u64.wrap (M : Int) = (M : Int) := by unfold IntKind.wrap; simp [IntKind.bits, IntKind.signed]; omega
    clear hz
    have hw1 : ((M : Int) % 4294967296) = ((M % B32 : Nat) : Int) := by unfold B32; omega
    have HM := hide (show nat [M % B32, M / B32] < Big from by rw [nat_two]; exact small_big (by omega))
    have HL := hide (fun (W : World) (g : Nat) (x y : Int) (hb : Blk W g 44 #[.int .u32 x, .int .u32 y]) (hx : x = ((M % B32 : Nat) : Int)) (hy : y = ((M / B32 : Nat) : Int)) => (limbs_two hb hx hy (Nat.mod_lt _ (by decide)) (by unfold B32; omega) : LimbsIn W (fun k => k = g) (some ⟨g, 0, none⟩) 2 2 [M % B32, M / B32]))
    clear hw1
    go_enter Tryz.func29, Tryz.ntmps29
    go_wp2_with (go_at_call 31; refine (made_yes _ _ _ false _ _ _ (HL.out _ _ _ _ (Blk.new2' _ _ _ _) (by unfold B32; omega) (by unfold B32; omega)) HM.out).mono ?_; rintro e w2 ⟨ng, A, n, c, rfl, hi, hk⟩; have HI := hide hi; have HB2 := hide (((Blk.new w 26 #[.int .u8 0, .bool false, .slice none 0 0, .string { data := #[] }, .int .i64 0, .slice none 0 0, .slice none 0 0]).alloc _).keep hk id); have HK2 := hide ((((Keeps.refl NoB w).alloc _).alloc _).trans' hk (fun _ _ h => h) (fun _ _ h => h)); clear hi hk; have hlt := HB2.out.lt; have z0 : w2.cell? ⟨w.heap.size, 0, none⟩ = some (.int .u8 0) := HB2.out.cell 0; have z1 : w2.cell? ⟨w.heap.size, 1, none⟩ = some (.bool false) := HB2.out.cell 1; have z2 : w2.cell? ⟨w.heap.size, 2, none⟩ = some (.slice none 0 0) := HB2.out.cell 2; have z3 : w2.cell? ⟨w.heap.size, 3, none⟩ = some (.string { data := #[] }) := HB2.out.cell 3; have z4 : w2.cell? ⟨w.heap.size, 4, none⟩ = some (.int .i64 0) := HB2.out.cell 4; have z5 : w2.cell? ⟨w.heap.size, 5, none⟩ = some (.slice none 0 0) := HB2.out.cell 5; have z6 : w2.cell? ⟨w.heap.size, 6, none⟩ = some (.slice none 0 0) := HB2.out.cell 6; have f0 : w2.frozen? ⟨w.heap.size, 0, none⟩ = false := HB2.out.free 0; have f1 : w2.frozen? ⟨w.heap.size, 1, none⟩ = false := HB2.out.free 1; have f2 : w2.frozen? ⟨w.heap.size, 2, none⟩ = false := HB2.out.free 2; have f3 : w2.frozen? ⟨w.heap.size, 3, none⟩ = false := HB2.out.free 3; have f4 : w2.frozen? ⟨w.heap.size, 4, none⟩ = false := HB2.out.free 4; have f5 : w2.frozen? ⟨w.heap.size, 5, none⟩ = false := HB2.out.free 5; have f6 : w2.frozen? ⟨w.heap.size, 6, none⟩ = false := HB2.out.free 6)
    have HBf := hide ((HB2.out.put7 (.int .u8 1) (.bool ng) (.slice A n c) (.string { data := #[] }) (.int .i64 0) (.slice none 0 0) (.slice none 0 0)).alloc (.cells #[.int .u8 1, .bool ng, .slice A n c, .string { data := #[] }, .int .i64 0, .slice none 0 0, .slice none 0 0] 26))
    have HKf := hide ((HK2.out.set7 (Nat.le_refl _) (.int .u8 1) (.bool ng) (.slice A n c) (.string { data := #[] }) (.int .i64 0) (.slice none 0 0) (.slice none 0 0)).alloc (.cells #[.int .u8 1, .bool ng, .slice A n c, .string { data := #[] }, .int .i64 0, .slice none 0 0, .slice none 0 0] 26))
    have HIf := hide (((HI.out.far (Keeps.set7' (g := w.heap.size) (.int .u8 1) (.bool ng) (.slice A n c) (.string { data := #[] }) (.int .i64 0) (.slice none 0 0) (.slice none 0 0)) (fun k hk e => by simp at hk; omega)).keep ((Keeps.refl NoB _).alloc (.cells #[.int .u8 1, .bool ng, .slice A n c, .string { data := #[] }, .int .i64 0, .slice none 0 0, .slice none 0 0] 26))).more (B' := fun k => w.heap.size ≤ k) (fun k _ hk => by simp at hk; omega))
    clear z0 z1 z2 z3 z4 z5 z6 f0 f1 f2 f3 f4 f5 f6 HB2 HK2 HI hlt
    generalize (((((((w2.setCell ⟨w.heap.size, 0, none⟩ (.int .u8 1)).setCell ⟨w.heap.size, 1, none⟩ (.bool ng)).setCell ⟨w.heap.size, 2, none⟩ (.slice A n c)).setCell ⟨w.heap.size, 3, none⟩ (.string { data := #[] })).setCell ⟨w.heap.size, 4, none⟩ (.int .i64 0)).setCell ⟨w.heap.size, 5, none⟩ (.slice none 0 0)).setCell ⟨w.heap.size, 6, none⟩ (.slice none 0 0)).alloc (.cells #[.int .u8 1, .bool ng, .slice A n c, .string { data := #[] }, .int .i64 0, .slice none 0 0, .slice none 0 0] 26) = wf at *
    have d0 : wf.cell? ⟨w.heap.size, 0, none⟩ = some (.int .u8 1) := HBf.out.cell 0
    have d1 : wf.cell? ⟨w.heap.size, 1, none⟩ = some (.bool ng) := HBf.out.cell 1
    have d2 : wf.cell? ⟨w.heap.size, 2, none⟩ = some (.slice A n c) := HBf.out.cell 2
    have d3 : wf.cell? ⟨w.heap.size, 3, none⟩ = some (.string { data := #[] }) := HBf.out.cell 3
    have d4 : wf.cell? ⟨w.heap.size, 4, none⟩ = some (.int .i64 0) := HBf.out.cell 4
    have d5 : wf.cell? ⟨w.heap.size, 5, none⟩ = some (.slice none 0 0) := HBf.out.cell 5
    have d6 : wf.cell? ⟨w.heap.size, 6, none⟩ = some (.slice none 0 0) := HBf.out.cell 6
    refine bodyPost_ret (v := .agg #[.int .u8 1, .bool ng, .slice A n c, .string { data := #[] }, .int .i64 0, .slice none 0 0, .slice none 0 0]) (by simp [results, Tryz.results29, go_sem, d0, d1, d2, d3, d4, d5, d6]) rfl ?_
    refine ⟨ng, A, n, c, rfl, ?_, HKf.out⟩
    have hh := HIf.out
    rw [nat_two] at hh
    exact hh
end Go.Proofs.YthbbalkhmofndaaGreatDoor
namespace Go.Proofs.YthbbalkhmofndaaGreatDoor
set_option maxRecDepth 100000
open Go.RowKit

def AmP (w : World) (x y : Nat) (e : Ending) (w' : World) : Prop := ∃ r : Int, e = .returned (.int .i64 r) ∧ -9223372036854775807 ≤ r ∧ r ≤ 9223372036854775807 ∧ (r < 0 ↔ x < y) ∧ (0 < r ↔ y < x) ∧ Keeps NoB w w'
def SameFrom (w : World) (l m : List Nat) (k : Nat) (wr : World) : Prop := Keeps NoB w wr ∧ ∀ j, k ≤ j → j < l.length → l.getD j 0 = m.getD j 0
theorem SameFrom.step {w wr w' : World} {l m : List Nat} {k : Nat} (h : SameFrom w l m (k + 1) wr) (e : l.getD k 0 = m.getD k 0) (hk : Keeps NoB w w') : SameFrom w l m k w' := ⟨hk, fun j h1 h2 => by
  by_cases hj : j = k
  · subst hj; exact e
  · exact h.2 j (by omega) h2⟩
theorem SameFrom.below {w wr : World} {l m : List Nat} {k n : Nat} (h : SameFrom w l m (k + 1) wr) (hl : Low l) (hm : Low m) (h1 : l.length = n) (h2 : m.length = n) (hk : k < n) (e : l.getD k 0 < m.getD k 0) : nat l < nat m := by
  have := pre_below hl (n := n) hk e (fun j a b => h.2 j (by omega) (by omega))
  rw [pre_ge _ _ (by omega), pre_ge _ _ (by omega)] at this
  exact this
theorem SameFrom.above {w wr : World} {l m : List Nat} {k n : Nat} (h : SameFrom w l m (k + 1) wr) (hl : Low l) (hm : Low m) (h1 : l.length = n) (h2 : m.length = n) (hk : k < n) (e : m.getD k 0 < l.getD k 0) : nat m < nat l := by
  have := pre_below hm (n := n) hk e (fun j a b => (h.2 j (by omega) (by omega)).symm)
  rw [pre_ge _ _ (by omega), pre_ge _ _ (by omega)] at this
  exact this
theorem SameFrom.all {w wr : World} {l m : List Nat} {n : Nat} (h : SameFrom w l m 0 wr) (h1 : l.length = n) (h2 : m.length = n) : nat l = nat m := by
  have := pre_congr (l := l) (m := m) (i := n) (fun j hj => h.2 j (Nat.zero_le _) (by omega))
  rw [pre_ge _ _ (by omega), pre_ge _ _ (by omega)] at this
  exact this

set_option maxRecDepth 100000 in
theorem amounts_any (A A' : Option Addr) (n c n' c' x y : Nat) (w : World) (B B' : Nat → Prop) (h : LimbsIn w B A n c (dig x)) (h' : LimbsIn w B' A' n' c' (dig y)) :
    Calls Tryz.prog 71 #[.slice A n c, .slice A' n' c'] w (AmP w x y) := by
  have hl := h.len; have hl' := h'.len
  have hm := Nat.le_trans h.cap h.max
  have hm' := Nat.le_trans h'.cap h'.max
  unfold maxLen at hm hm'
  have HL := hide h; have HL' := hide h'
  clear h h'
  by_cases hne : n = n'
  · subst hne
    have HX := hide (nat_dig x); have HY := hide (nat_dig y)
    generalize dig x = l at *
    generalize dig y = m at *
    go_enter Tryz.func71, Tryz.ntmps71
    go_wp2
    go_loopw [5] (fun i wr => ∃ k : Nat, k ≤ n ∧ i = .int .i64 ((k : Int) - 1) ∧ SameFrom w l m k wr) (fun i _ => (intOf i + 1).toNat)
    case atStart => exact ⟨n, Nat.le_refl _, rfl, Keeps.refl _ _, fun j h1 h2 => by omega⟩
    case round =>
      obtain ⟨k, hk, rfl, hinv⟩ := hrel
      have HI := hide hinv; clear hinv
      rcases k with _ | k
      · go_wp2_with (go_quiet (fail))
        go_ret
        exact ⟨0, rfl, by omega, by omega, by have := HI.out.all hl hl'; rw [HX.out, HY.out] at this; omega, by have := HI.out.all hl hl'; rw [HX.out, HY.out] at this; omega, HI.out.1⟩
      · obtain ⟨b, o, rfl, hb, hc⟩ := (HL.out.keep HI.out.1).at (by omega)
        obtain ⟨b', o', rfl, hb', hc'⟩ := (HL'.out.keep HI.out.1).at (by omega)
        have q := hc k (by omega)
        have q' := hc' k (by omega)
        have hk0 : (0 : Int) ≤ (k : Int) := by omega
        have hk1 : (k : Int) < (n : Int) := by omega
        have hk2 : ((k + 1 : Nat) : Int) - 1 = (k : Int) := by omega
        have hk3 : k < n := by omega
        rw [hk2]
        have HB := hide (fun e => HI.out.below HL.out.low HL'.out.low hl hl' hk3 e)
        have HA := hide (fun e => HI.out.above HL.out.low HL'.out.low hl hl' hk3 e)
        have HS := hide (fun e w' hk => HI.out.step (w' := w') e hk)
        rw [HX.out, HY.out] at HB HA
        clear hc hc'
        generalize l.getD k 0 = u at *
        generalize m.getD k 0 = v at *
        rcases Nat.lt_trichotomy u v with e | e | e
        · have HE := hide (HB.out e)
          have e1 : decide (u < v) = true := decide_eq_true e
          clear HB HA HS e hk2
          go_wp2_with (go_quiet (fail))
          go_ret
          exact ⟨-1, rfl, by omega, by omega, by have := HE.out; omega, by have := HE.out; omega, HI.out.1.drewN _⟩
        · subst e
          clear HB HA hk2
          go_wp2_with (go_quiet (fail))
          go_roundw
          case rel => exact ⟨k, by omega, by go_num, HS.out rfl _ (HI.out.1.drewN _)⟩
          case measure => simp [intOf]
        · have HE := hide (HA.out e)
          have e1 : decide (u < v) = false := decide_eq_false (by omega)
          have e2 : decide (v < u) = true := decide_eq_true e
          clear HB HA HS e hk2
          go_wp2_with (go_quiet (fail))
          go_ret
          exact ⟨1, rfl, by omega, by omega, by have := HE.out; omega, by have := HE.out; omega, (HI.out.1.drewN _).drewN _⟩
  · have hb : ((n : Int) != (n' : Int)) = true := by simp; omega
    have h1 := dig_len_lt (a := x) (b := y)
    have h2 := dig_len_lt (a := y) (b := x)
    rw [hl, hl'] at h1
    rw [hl', hl] at h2
    have H1 := hide h1; have H2 := hide h2
    clear h1 h2
    go_enter Tryz.func71, Tryz.ntmps71
    go_wp2
    go_ret
    exact ⟨(n : Int) - n', rfl, by omega, by omega, ⟨fun h => H1.out (by omega), fun h => by
      rcases Nat.lt_or_ge n n' with e | e
      · omega
      · have := H2.out (by omega); omega⟩, ⟨fun h => H2.out (by omega), fun h => by
      rcases Nat.lt_or_ge n' n with e | e
      · omega
      · have := H1.out (by omega); omega⟩, Keeps.refl _ _⟩
end Go.Proofs.YthbbalkhmofndaaGreatDoor
namespace Go.Proofs.YthbbalkhmofndaaGreatDoor
set_option maxRecDepth 100000
open Go.RowKit

def signI (ng : Bool) : Int := if ng then -1 else 1
set_option maxRecDepth 100000 in
theorem sign_any (kd nm : Int) (ng : Bool) (la ia ta : Option Addr) (ln lc im ic tm tc : Nat) (tx : ByteArray) (w : World) :
    Calls Tryz.prog 70 #[.agg #[.int .u8 kd, .bool ng, .slice la ln lc, .string tx, .int .i64 nm, .slice ia im ic, .slice ta tm tc]] w fun e w' => e = .returned (.int .i64 (signI ng)) ∧ Keeps NoB w w' := by
  cases ng
  · go_enter Tryz.func70, Tryz.ntmps70
    go_wp2
    go_ret
    exact ⟨rfl, (Keeps.refl _ _).alloc _⟩
  · go_enter Tryz.func70, Tryz.ntmps70
    go_wp2
    go_ret
    exact ⟨rfl, (Keeps.refl _ _).alloc _⟩
def cmpZ (x y : Int) : Int := if x < y then -1 else if y < x then 1 else 0
theorem IA.right {w : World} {B : Nat → Prop} {ng : Bool} {A : Option Addr} {n c : Nat} {z : Int} (h : IA w B ng A n c z) (ia ta : Option Addr) (ic tc : Nat) :
    Calls Tryz.prog 11 #[.agg #[.int .u8 1, .bool ng, .slice A n c, .string { data := #[] }, .int .i64 0, .slice ia 0 ic, .slice ta 0 tc]] w fun e w' => e = .returned (.bool true) ∧ Keeps NoB w w' := by
  have := right_any 1 0 ng A ia ta n c 0 ic 0 tc ByteArray.empty _ w B h.limbs (by omega) (by omega)
  rw [IA_right h] at this
  exact this

theorem cmp_law {ng : Bool} {x y : Int} (h1 : ng = decide (x < 0)) (h2 : ng = decide (y < 0)) (r : Int) (hr1 : r < 0 ↔ x.natAbs < y.natAbs) (hr2 : 0 < r ↔ y.natAbs < x.natAbs) : (if (if 1 < r then 1 else r) < -1 then -1 else if 1 < r then 1 else r) * signI ng = cmpZ x y := by
  rw [show (if (if 1 < r then 1 else r) < -1 then -1 else if 1 < r then 1 else r) = max (min r 1) (-1) from by (repeat' split) <;> omega]
  cases ng with
  | true =>
    have e1 : x < 0 := of_decide_eq_true h1.symm
    have e2 : y < 0 := of_decide_eq_true h2.symm
    simp only [signI, if_true]
    unfold cmpZ
    rcases Int.lt_trichotomy x y with e | e | e
    · rw [if_pos e]; omega
    · subst e; rw [if_neg (by omega), if_neg (by omega)]; omega
    · rw [if_neg (by omega), if_pos e]; omega
  | false =>
    have e1 : ¬ x < 0 := of_decide_eq_false h1.symm
    have e2 : ¬ y < 0 := of_decide_eq_false h2.symm
    simp only [signI, Bool.false_eq_true, if_false]
    unfold cmpZ
    rcases Int.lt_trichotomy x y with e | e | e
    · rw [if_pos e]; omega
    · subst e; rw [if_neg (by omega), if_neg (by omega)]; omega
    · rw [if_neg (by omega), if_pos e]; omega
set_option maxRecDepth 100000 in
theorem compare_same (ng ng' : Bool) (A A' ia ta ia' ta' : Option Addr) (n c n' c' ic tc ic' tc' : Nat) (x y : Int) (hg : ng = ng') (w : World) (B B' : Nat → Prop) (h : IA w B ng A n c x) (h' : IA w B' ng' A' n' c' y) :
    Calls Tryz.prog 39 #[.agg #[.int .u8 1, .bool ng, .slice A n c, .string { data := #[] }, .int .i64 0, .slice ia 0 ic, .slice ta 0 tc], .agg #[.int .u8 1, .bool ng', .slice A' n' c', .string { data := #[] }, .int .i64 0, .slice ia' 0 ic', .slice ta' 0 tc']] w fun e w' => e = .returned (.int .i64 (cmpZ x y)) ∧ Keeps NoB w w' := by
  have hs := h.sign; have hs' := h'.sign
  have HI := hide h; have HI' := hide h'
  clear h h'
  have hb : ((signI ng) != (signI ng')) = false := by rw [hg]; simp
  have HC := hide (cmp_law (x := x) (y := y) hs (hg.trans hs'))
  generalize hq : signI ng = q at *
  generalize hq' : signI ng' = q' at *
  have HQ := hide hq; have HQ' := hide hq'
  clear hs hs' hq hq' hg
  go_enter Tryz.func39, Tryz.ntmps39
  have HX0 := hide ((Blk.new w 26 #[.int .u8 1, .bool ng, .slice A n c, .string { data := #[] }, .int .i64 0, .slice ia 0 ic, .slice ta 0 tc]).alloc (.cells #[.int .u8 1, .bool ng', .slice A' n' c', .string { data := #[] }, .int .i64 0, .slice ia' 0 ic', .slice ta' 0 tc'] 26))
  have HY0 := hide (Blk.new2' w (.cells #[.int .u8 1, .bool ng, .slice A n c, .string { data := #[] }, .int .i64 0, .slice ia 0 ic, .slice ta 0 tc] 26) 26 #[.int .u8 1, .bool ng', .slice A' n' c', .string { data := #[] }, .int .i64 0, .slice ia' 0 ic', .slice ta' 0 tc'])
  have HK0 := hide (((Keeps.refl NoB w).alloc (.cells #[.int .u8 1, .bool ng, .slice A n c, .string { data := #[] }, .int .i64 0, .slice ia 0 ic, .slice ta 0 tc] 26)).alloc (.cells #[.int .u8 1, .bool ng', .slice A' n' c', .string { data := #[] }, .int .i64 0, .slice ia' 0 ic', .slice ta' 0 tc'] 26))
  have HR1 := hide True.intro
  go_wp2_with first | (clear HR1; go_at_call 11; refine ((HI.out.keep HK0.out).right _ _ _ _).mono ?_; rintro e w1 ⟨rfl, hk1⟩; have HK1 := hide (HK0.out.trans' hk1 (fun _ _ => id) (fun _ _ => id)); have HX1 := hide (HX0.out.keep hk1 id); have HY1 := hide (HY0.out.keep hk1 id); clear hk1 HX0 HY0 HK0; obtain ⟨y0, y1, y2, y3, y4, y5, y6⟩ := Blk.c7 (show Blk w1 (w.heap.size + 1) _ #[.int .u8 1, .bool ng', .slice A' n' c', .string { data := #[] }, .int .i64 0, .slice ia' 0 ic', .slice ta' 0 tc'] from HY1.out)) | (go_at_call 11; refine ((HI'.out.keep HK1.out).right _ _ _ _).mono ?_; rintro e w2 ⟨rfl, hk2⟩; have HK2 := hide (HK1.out.trans' hk2 (fun _ _ => id) (fun _ _ => id)); have HX2 := hide (HX1.out.keep hk2 id); have HY2 := hide (HY1.out.keep hk2 id); clear hk2 HX1 HY1 HK1 y0 y1 y2 y3 y4 y5 y6) | fail
  generalize w.heap.size = g at *
  refine order_begin (fun W => Keeps NoB w2.drew W) (fun _ => true) (by kernel_rfl) 7 rfl ?_
  have HX := hide (HX2.out.drew); have HY := hide (HY2.out.drew); have HK := hide (HK2.out.drew)
  clear HX2 HY2 HK2
  generalize w2.drew = W0 at *
  have HS : Keeps NoB W0 W0 := Keeps.refl _ _
  refine order_pure (i := 0) rfl (by kernel_rfl) (fun _ _ _ h => h) (.inl ⟨rfl, fun _ => by go_simp; rfl⟩) ?_
  try simp only [Act.put, List.setIfInBounds_toArray, List.set_cons_succ, List.set_cons_zero]
  refine order_pure (i := 3) rfl (by kernel_rfl) (fun _ _ _ h => h) (.inl ⟨rfl, fun _ => by go_simp; rfl⟩) ?_
  try simp only [Act.put, List.setIfInBounds_toArray, List.set_cons_succ, List.set_cons_zero]
  refine order_held (i := 1) rfl (by kernel_rfl) (fun _ _ _ h => h) (.inl ⟨rfl, fun W hW => by
    have q0 : W.cell? ⟨g, 0, none⟩ = some (.int .u8 1) := hW.cell id (HX.out.cell 0)
    have q1 : W.cell? ⟨g, 1, none⟩ = some (.bool ng) := hW.cell id (HX.out.cell 1)
    have q2 : W.cell? ⟨g, 2, none⟩ = some (.slice A n c) := hW.cell id (HX.out.cell 2)
    have q3 : W.cell? ⟨g, 3, none⟩ = some (.string { data := #[] }) := hW.cell id (HX.out.cell 3)
    have q4 : W.cell? ⟨g, 4, none⟩ = some (.int .i64 0) := hW.cell id (HX.out.cell 4)
    have q5 : W.cell? ⟨g, 5, none⟩ = some (.slice ia 0 ic) := hW.cell id (HX.out.cell 5)
    have q6 : W.cell? ⟨g, 6, none⟩ = some (.slice ta 0 tc) := hW.cell id (HX.out.cell 6)
    go_simp; rfl⟩) HS ?_
  try simp only [Act.put, List.setIfInBounds_toArray, List.set_cons_succ, List.set_cons_zero]
  refine order_held (i := 4) rfl (by kernel_rfl) (fun _ _ _ h => h) (.inl ⟨rfl, fun W hW => by
    have q0 : W.cell? ⟨g + 1, 0, none⟩ = some (.int .u8 1) := hW.cell id (HY.out.cell 0)
    have q1 : W.cell? ⟨g + 1, 1, none⟩ = some (.bool ng') := hW.cell id (HY.out.cell 1)
    have q2 : W.cell? ⟨g + 1, 2, none⟩ = some (.slice A' n' c') := hW.cell id (HY.out.cell 2)
    have q3 : W.cell? ⟨g + 1, 3, none⟩ = some (.string { data := #[] }) := hW.cell id (HY.out.cell 3)
    have q4 : W.cell? ⟨g + 1, 4, none⟩ = some (.int .i64 0) := hW.cell id (HY.out.cell 4)
    have q5 : W.cell? ⟨g + 1, 5, none⟩ = some (.slice ia' 0 ic') := hW.cell id (HY.out.cell 5)
    have q6 : W.cell? ⟨g + 1, 6, none⟩ = some (.slice ta' 0 tc') := hW.cell id (HY.out.cell 6)
    go_simp; rfl⟩) HS ?_
  try simp only [Act.put, List.setIfInBounds_toArray, List.set_cons_succ, List.set_cons_zero]
  refine order_one (i := 2) rfl (by kernel_rfl) (fun K hK => ?_)
  go_simp
  refine (sign_any _ _ _ _ _ _ _ _ _ _ _ _ _ W0).mono ?_
  rintro e w3 ⟨rfl, hk3⟩
  refine hK _ _ (fun _ hS => hS.trans' hk3 (fun _ _ => id) (fun _ _ => id)) ?_
  clear hK
  try simp only [Act.put, List.setIfInBounds_toArray, List.set_cons_succ, List.set_cons_zero]
  refine order_one (i := 5) rfl (by kernel_rfl) (fun K hK => ?_)
  go_simp
  refine (sign_any _ _ _ _ _ _ _ _ _ _ _ _ _ w3).mono ?_
  rintro e w4 ⟨rfl, hk4⟩
  refine hK _ _ (fun _ hS => hS.trans' hk4 (fun _ _ => id) (fun _ _ => id)) ?_
  clear hK
  try simp only [Act.put, List.setIfInBounds_toArray, List.set_cons_succ, List.set_cons_zero]
  rw [HQ.out, HQ'.out]
  refine order_pure (i := 6) rfl (by kernel_rfl) (fun _ _ _ h => h) (.inl ⟨rfl, fun _ => by go_simp; rfl⟩) ?_
  try simp only [Act.put, List.setIfInBounds_toArray, List.set_cons_succ, List.set_cons_zero]
  refine order_done (by kernel_rfl) ?_
  have HX4 := hide ((HX.out.keep hk3 id).keep hk4 id); have HY4 := hide ((HY.out.keep hk3 id).keep hk4 id); have HK4 := hide ((HK.out.trans' hk3 (fun _ _ => id) (fun _ _ => id)).trans' hk4 (fun _ _ => id) (fun _ _ => id))
  clear hk3 hk4 HX HY HK HS
  go_wp2
  refine order_begin (fun W => Keeps NoB w4.drew W) (fun _ => true) (by kernel_rfl) 12 rfl ?_
  have HX := hide (HX4.out.drew); have HY := hide (HY4.out.drew); have HK := hide (HK4.out.drew)
  clear HX4 HY4 HK4
  generalize w4.drew = W0 at *
  have HS : Keeps NoB W0 W0 := Keeps.refl _ _
  refine order_pure (i := 0) rfl (by kernel_rfl) (fun _ _ _ h => h) (.inl ⟨rfl, fun _ => by go_simp; rfl⟩) ?_
  try simp only [Act.put, List.setIfInBounds_toArray, List.set_cons_succ, List.set_cons_zero]
  refine order_pure (i := 2) rfl (by kernel_rfl) (fun _ _ _ h => h) (.inl ⟨rfl, fun _ => by go_simp; rfl⟩) ?_
  try simp only [Act.put, List.setIfInBounds_toArray, List.set_cons_succ, List.set_cons_zero]
  refine order_pure (i := 7) rfl (by kernel_rfl) (fun _ _ _ h => h) (.inl ⟨rfl, fun _ => by go_simp; rfl⟩) ?_
  try simp only [Act.put, List.setIfInBounds_toArray, List.set_cons_succ, List.set_cons_zero]
  refine order_held (i := 1) rfl (by kernel_rfl) (fun _ _ _ h => h) (.inl ⟨rfl, fun W hW => by
    have q0 : W.cell? ⟨g, 2, none⟩ = some (.slice A n c) := hW.cell id (HX.out.cell 2)
    go_simp; rfl⟩) HS ?_
  try simp only [Act.put, List.setIfInBounds_toArray, List.set_cons_succ, List.set_cons_zero]
  refine order_held (i := 3) rfl (by kernel_rfl) (fun _ _ _ h => h) (.inl ⟨rfl, fun W hW => by
    have q0 : W.cell? ⟨g + 1, 2, none⟩ = some (.slice A' n' c') := hW.cell id (HY.out.cell 2)
    go_simp; rfl⟩) HS ?_
  try simp only [Act.put, List.setIfInBounds_toArray, List.set_cons_succ, List.set_cons_zero]
  refine order_held (i := 8) rfl (by kernel_rfl) (fun _ _ _ h => h) (.inl ⟨rfl, fun W hW => by
    have q0 : W.cell? ⟨g, 0, none⟩ = some (.int .u8 1) := hW.cell id (HX.out.cell 0)
    have q1 : W.cell? ⟨g, 1, none⟩ = some (.bool ng) := hW.cell id (HX.out.cell 1)
    have q2 : W.cell? ⟨g, 2, none⟩ = some (.slice A n c) := hW.cell id (HX.out.cell 2)
    have q3 : W.cell? ⟨g, 3, none⟩ = some (.string { data := #[] }) := hW.cell id (HX.out.cell 3)
    have q4 : W.cell? ⟨g, 4, none⟩ = some (.int .i64 0) := hW.cell id (HX.out.cell 4)
    have q5 : W.cell? ⟨g, 5, none⟩ = some (.slice ia 0 ic) := hW.cell id (HX.out.cell 5)
    have q6 : W.cell? ⟨g, 6, none⟩ = some (.slice ta 0 tc) := hW.cell id (HX.out.cell 6)
    go_simp; rfl⟩) HS ?_
  try simp only [Act.put, List.setIfInBounds_toArray, List.set_cons_succ, List.set_cons_zero]
  refine order_one (i := 4) rfl (by kernel_rfl) (fun K hK => ?_)
  go_simp
  refine (amounts_any _ _ _ _ _ _ _ _ _ _ _ ((HI.out.keep HK.out).limbs) ((HI'.out.keep HK.out).limbs)).mono ?_
  rintro e w5 ⟨r, rfl, hr1, hr2, hr3, hr4, hk5⟩
  refine hK _ _ (fun _ hS => hS.trans' hk5 (fun _ _ => id) (fun _ _ => id)) ?_
  clear hK
  try simp only [Act.put, List.setIfInBounds_toArray, List.set_cons_succ, List.set_cons_zero]
  refine order_pure (i := 5) rfl (by kernel_rfl) (fun _ _ _ h => h) (.inl ⟨rfl, fun _ => by go_simp; rfl⟩) ?_
  try simp only [Act.put, List.setIfInBounds_toArray, List.set_cons_succ, List.set_cons_zero]
  refine order_pure (i := 6) rfl (by kernel_rfl) (fun _ _ _ h => h) (.inl ⟨rfl, fun _ => by go_simp; rfl⟩) ?_
  try simp only [Act.put, List.setIfInBounds_toArray, List.set_cons_succ, List.set_cons_zero]
  refine order_one (i := 9) rfl (by kernel_rfl) (fun K hK => ?_)
  go_simp
  refine (sign_any _ _ _ _ _ _ _ _ _ _ _ _ _ w5).mono ?_
  rintro e w6 ⟨rfl, hk6⟩
  refine hK _ _ (fun _ hS => hS.trans' hk6 (fun _ _ => id) (fun _ _ => id)) ?_
  clear hK
  try simp only [Act.put, List.setIfInBounds_toArray, List.set_cons_succ, List.set_cons_zero]
  rw [HQ.out]
  have hc := HC.out r hr3 hr4
  have HK6 := hide ((HK.out.trans' hk5 (fun _ _ => id) (fun _ _ => id)).trans' hk6 (fun _ _ => id) (fun _ _ => id))
  clear hk5 hk6 hr3 hr4 HX HY HK
  obtain ⟨z, hzz⟩ : ∃ z, z = cmpZ x y := ⟨_, rfl⟩
  have hz0 : IntKind.i64.wrap z = z := by rw [hzz]; unfold cmpZ; (repeat' split) <;> decide
  rw [← hzz] at hc
  have HZ := hide hzz; have HZ0 := hide hz0
  clear hzz hz0
  generalize (if (if 1 < r then 1 else r) < -1 then -1 else if 1 < r then 1 else r) = M at *
  generalize (if 1 < r then 1 else r) = M' at *
  clear HC
  refine order_pure (i := 10) rfl (by kernel_rfl) (fun _ _ _ h => h) (.inl ⟨rfl, fun _ => by go_simp; rfl⟩) ?_
  try simp only [Act.put, List.setIfInBounds_toArray, List.set_cons_succ, List.set_cons_zero]
  refine order_one (i := 11) rfl (by kernel_rfl) (fun K hK => ?_)
  go_simp
  refine hK _ _ (fun _ h => h) ?_
  clear hK
  try simp only [Act.put, List.setIfInBounds_toArray, List.set_cons_succ, List.set_cons_zero]
  refine order_done (by kernel_rfl) ?_
  go_wp2
  go_ret
  refine ⟨?_, HK6.out⟩
  show Ending.returned (.int .i64 (IntKind.i64.wrap z)) = _
  rw [HZ0.out, HZ.out]
set_option maxRecDepth 100000 in
theorem compare_other (ng ng' : Bool) (A A' ia ta ia' ta' : Option Addr) (n c n' c' ic tc ic' tc' : Nat) (x y : Int) (hg : ¬ ng = ng') (w : World) (B B' : Nat → Prop) (h : IA w B ng A n c x) (h' : IA w B' ng' A' n' c' y) :
    Calls Tryz.prog 39 #[.agg #[.int .u8 1, .bool ng, .slice A n c, .string { data := #[] }, .int .i64 0, .slice ia 0 ic, .slice ta 0 tc], .agg #[.int .u8 1, .bool ng', .slice A' n' c', .string { data := #[] }, .int .i64 0, .slice ia' 0 ic', .slice ta' 0 tc']] w fun e w' => e = .returned (.int .i64 (cmpZ x y)) ∧ Keeps NoB w w' := by
  have hs := h.sign; have hs' := h'.sign
  have HI := hide h; have HI' := hide h'
  clear h h'
  have he : cmpZ x y = signI ng := by
    unfold cmpZ signI
    rw [hs, hs'] at hg
    cases ng <;> cases ng' <;> simp_all <;> omega
  have hb : ((signI ng) != (signI ng')) = true := by unfold signI; cases ng <;> cases ng' <;> simp_all
  rw [he]
  clear he hs hs' hg
  generalize hq : signI ng = q at *
  generalize hq' : signI ng' = q' at *
  have HQ := hide hq; have HQ' := hide hq'
  clear hq hq'
  go_enter Tryz.func39, Tryz.ntmps39
  have HX0 := hide ((Blk.new w 26 #[.int .u8 1, .bool ng, .slice A n c, .string { data := #[] }, .int .i64 0, .slice ia 0 ic, .slice ta 0 tc]).alloc (.cells #[.int .u8 1, .bool ng', .slice A' n' c', .string { data := #[] }, .int .i64 0, .slice ia' 0 ic', .slice ta' 0 tc'] 26))
  have HY0 := hide (Blk.new2' w (.cells #[.int .u8 1, .bool ng, .slice A n c, .string { data := #[] }, .int .i64 0, .slice ia 0 ic, .slice ta 0 tc] 26) 26 #[.int .u8 1, .bool ng', .slice A' n' c', .string { data := #[] }, .int .i64 0, .slice ia' 0 ic', .slice ta' 0 tc'])
  have HK0 := hide (((Keeps.refl NoB w).alloc (.cells #[.int .u8 1, .bool ng, .slice A n c, .string { data := #[] }, .int .i64 0, .slice ia 0 ic, .slice ta 0 tc] 26)).alloc (.cells #[.int .u8 1, .bool ng', .slice A' n' c', .string { data := #[] }, .int .i64 0, .slice ia' 0 ic', .slice ta' 0 tc'] 26))
  have HR1 := hide True.intro
  go_wp2_with first | (clear HR1; go_at_call 11; refine ((HI.out.keep HK0.out).right _ _ _ _).mono ?_; rintro e w1 ⟨rfl, hk1⟩; have HK1 := hide (HK0.out.trans' hk1 (fun _ _ => id) (fun _ _ => id)); have HX1 := hide (HX0.out.keep hk1 id); have HY1 := hide (HY0.out.keep hk1 id); clear hk1 HX0 HY0 HK0; obtain ⟨y0, y1, y2, y3, y4, y5, y6⟩ := Blk.c7 (show Blk w1 (w.heap.size + 1) _ #[.int .u8 1, .bool ng', .slice A' n' c', .string { data := #[] }, .int .i64 0, .slice ia' 0 ic', .slice ta' 0 tc'] from HY1.out)) | (go_at_call 11; refine ((HI'.out.keep HK1.out).right _ _ _ _).mono ?_; rintro e w2 ⟨rfl, hk2⟩; have HK2 := hide (HK1.out.trans' hk2 (fun _ _ => id) (fun _ _ => id)); have HX2 := hide (HX1.out.keep hk2 id); have HY2 := hide (HY1.out.keep hk2 id); clear hk2 HX1 HY1 HK1 y0 y1 y2 y3 y4 y5 y6) | fail
  generalize w.heap.size = g at *
  refine order_begin (fun W => Keeps NoB w2.drew W) (fun _ => true) (by kernel_rfl) 7 rfl ?_
  have HX := hide (HX2.out.drew); have HY := hide (HY2.out.drew); have HK := hide (HK2.out.drew)
  clear HX2 HY2 HK2
  generalize w2.drew = W0 at *
  have HS : Keeps NoB W0 W0 := Keeps.refl _ _
  refine order_pure (i := 0) rfl (by kernel_rfl) (fun _ _ _ h => h) (.inl ⟨rfl, fun _ => by go_simp; rfl⟩) ?_
  try simp only [Act.put, List.setIfInBounds_toArray, List.set_cons_succ, List.set_cons_zero]
  refine order_pure (i := 3) rfl (by kernel_rfl) (fun _ _ _ h => h) (.inl ⟨rfl, fun _ => by go_simp; rfl⟩) ?_
  try simp only [Act.put, List.setIfInBounds_toArray, List.set_cons_succ, List.set_cons_zero]
  refine order_held (i := 1) rfl (by kernel_rfl) (fun _ _ _ h => h) (.inl ⟨rfl, fun W hW => by
    have q0 : W.cell? ⟨g, 0, none⟩ = some (.int .u8 1) := hW.cell id (HX.out.cell 0)
    have q1 : W.cell? ⟨g, 1, none⟩ = some (.bool ng) := hW.cell id (HX.out.cell 1)
    have q2 : W.cell? ⟨g, 2, none⟩ = some (.slice A n c) := hW.cell id (HX.out.cell 2)
    have q3 : W.cell? ⟨g, 3, none⟩ = some (.string { data := #[] }) := hW.cell id (HX.out.cell 3)
    have q4 : W.cell? ⟨g, 4, none⟩ = some (.int .i64 0) := hW.cell id (HX.out.cell 4)
    have q5 : W.cell? ⟨g, 5, none⟩ = some (.slice ia 0 ic) := hW.cell id (HX.out.cell 5)
    have q6 : W.cell? ⟨g, 6, none⟩ = some (.slice ta 0 tc) := hW.cell id (HX.out.cell 6)
    go_simp; rfl⟩) HS ?_
  try simp only [Act.put, List.setIfInBounds_toArray, List.set_cons_succ, List.set_cons_zero]
  refine order_held (i := 4) rfl (by kernel_rfl) (fun _ _ _ h => h) (.inl ⟨rfl, fun W hW => by
    have q0 : W.cell? ⟨g + 1, 0, none⟩ = some (.int .u8 1) := hW.cell id (HY.out.cell 0)
    have q1 : W.cell? ⟨g + 1, 1, none⟩ = some (.bool ng') := hW.cell id (HY.out.cell 1)
    have q2 : W.cell? ⟨g + 1, 2, none⟩ = some (.slice A' n' c') := hW.cell id (HY.out.cell 2)
    have q3 : W.cell? ⟨g + 1, 3, none⟩ = some (.string { data := #[] }) := hW.cell id (HY.out.cell 3)
    have q4 : W.cell? ⟨g + 1, 4, none⟩ = some (.int .i64 0) := hW.cell id (HY.out.cell 4)
    have q5 : W.cell? ⟨g + 1, 5, none⟩ = some (.slice ia' 0 ic') := hW.cell id (HY.out.cell 5)
    have q6 : W.cell? ⟨g + 1, 6, none⟩ = some (.slice ta' 0 tc') := hW.cell id (HY.out.cell 6)
    go_simp; rfl⟩) HS ?_
  try simp only [Act.put, List.setIfInBounds_toArray, List.set_cons_succ, List.set_cons_zero]
  refine order_one (i := 2) rfl (by kernel_rfl) (fun K hK => ?_)
  go_simp
  refine (sign_any _ _ _ _ _ _ _ _ _ _ _ _ _ W0).mono ?_
  rintro e w3 ⟨rfl, hk3⟩
  refine hK _ _ (fun _ hS => hS.trans' hk3 (fun _ _ => id) (fun _ _ => id)) ?_
  clear hK
  try simp only [Act.put, List.setIfInBounds_toArray, List.set_cons_succ, List.set_cons_zero]
  refine order_one (i := 5) rfl (by kernel_rfl) (fun K hK => ?_)
  go_simp
  refine (sign_any _ _ _ _ _ _ _ _ _ _ _ _ _ w3).mono ?_
  rintro e w4 ⟨rfl, hk4⟩
  refine hK _ _ (fun _ hS => hS.trans' hk4 (fun _ _ => id) (fun _ _ => id)) ?_
  clear hK
  try simp only [Act.put, List.setIfInBounds_toArray, List.set_cons_succ, List.set_cons_zero]
  rw [HQ.out, HQ'.out]
  refine order_pure (i := 6) rfl (by kernel_rfl) (fun _ _ _ h => h) (.inl ⟨rfl, fun _ => by go_simp; rfl⟩) ?_
  try simp only [Act.put, List.setIfInBounds_toArray, List.set_cons_succ, List.set_cons_zero]
  refine order_done (by kernel_rfl) ?_
  have HX4 := hide ((HX.out.keep hk3 id).keep hk4 id); have HY4 := hide ((HY.out.keep hk3 id).keep hk4 id); have HK4 := hide ((HK.out.trans' hk3 (fun _ _ => id) (fun _ _ => id)).trans' hk4 (fun _ _ => id) (fun _ _ => id))
  clear hk3 hk4 HX HY HK HS
  obtain ⟨x0, x1, x2, x3, x4, x5, x6⟩ := Blk.c7 (show Blk w4 (g) _ #[.int .u8 1, .bool ng, .slice A n c, .string { data := #[] }, .int .i64 0, .slice ia 0 ic, .slice ta 0 tc] from HX4.out)
  go_wp2_with (go_at_call 70; refine (sign_any _ _ _ _ _ _ _ _ _ _ _ _ _ w4).mono ?_; rintro e w5 ⟨rfl, hk5⟩; rw [HQ.out])
  go_ret
  exact ⟨rfl, HK4.out.trans' hk5 (fun _ _ => id) (fun _ _ => id)⟩
set_option maxRecDepth 100000 in
theorem compare_any (ng ng' : Bool) (A A' ia ta ia' ta' : Option Addr) (n c n' c' ic tc ic' tc' : Nat) (x y : Int) (w : World) (B B' : Nat → Prop) (h : IA w B ng A n c x) (h' : IA w B' ng' A' n' c' y) :
    Calls Tryz.prog 39 #[.agg #[.int .u8 1, .bool ng, .slice A n c, .string { data := #[] }, .int .i64 0, .slice ia 0 ic, .slice ta 0 tc], .agg #[.int .u8 1, .bool ng', .slice A' n' c', .string { data := #[] }, .int .i64 0, .slice ia' 0 ic', .slice ta' 0 tc']] w fun e w' => e = .returned (.int .i64 (cmpZ x y)) ∧ Keeps NoB w w' := by
  by_cases hg : ng = ng'
  · exact compare_same ng ng' A A' ia ta ia' ta' n c n' c' ic tc ic' tc' x y hg w B B' h h'
  · exact compare_other ng ng' A A' ia ta ia' ta' n c n' c' ic tc ic' tc' x y hg w B B' h h'
end Go.Proofs.YthbbalkhmofndaaGreatDoor
