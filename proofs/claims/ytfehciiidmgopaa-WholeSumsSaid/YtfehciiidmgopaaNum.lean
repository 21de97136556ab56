/- Numbers written in digits of 2^32, the lowest first: plain facts. -/
import Derived.Test.YtfehciiidmgopaaBase
namespace Go.Proofs.Ytfehciiidmgopaa

abbrev B32 : Nat := 4294967296
def nat : List Nat → Nat
  | [] => 0
  | x :: l => x + B32 * nat l
/-- The first i digits (0 where there is none). -/
def pre (l : List Nat) : Nat → Nat
  | 0 => 0
  | i + 1 => pre l i + B32 ^ i * l.getD i 0
def Low (l : List Nat) : Prop := ∀ x ∈ l, x < B32
theorem Low.nil : Low [] := fun _ h => by cases h
theorem Low.tail {x : Nat} {l : List Nat} (h : Low (x :: l)) : Low l := fun y hy => h y (List.mem_cons_of_mem _ hy)
theorem Low.get {l : List Nat} (h : Low l) (i : Nat) : l.getD i 0 < B32 := by
  rw [List.getD_eq_getElem?_getD]
  by_cases hi : i < l.length
  · rw [List.getElem?_eq_getElem hi]; exact h _ (List.getElem_mem hi)
  · rw [List.getElem?_eq_none (by omega)]; decide
theorem Low.append {l m : List Nat} (h : Low l) (k : Low m) : Low (l ++ m) := fun x hx => (List.mem_append.1 hx).elim (h x) (k x)
theorem Low.take {l : List Nat} (h : Low l) (n : Nat) : Low (l.take n) := fun x hx => h x (List.mem_of_mem_take hx)
theorem Low.set {l : List Nat} (h : Low l) (n v : Nat) (hv : v < B32) : Low (l.set n v) := fun x hx => (List.mem_or_eq_of_mem_set hx).elim (h x) (fun e => e ▸ hv)
theorem Low.zeros (n : Nat) : Low (List.replicate n 0) := fun x hx => by rw [List.eq_of_mem_replicate hx]; decide

theorem pre_cons (x : Nat) (l : List Nat) : ∀ i, pre (x :: l) (i + 1) = x + B32 * pre l i
  | 0 => by simp [pre]
  | i + 1 => by
    rw [pre, pre_cons x l i, pre, List.getD_cons_succ, Nat.pow_succ, Nat.mul_add]
    have : B32 ^ i * B32 * l.getD i 0 = B32 * (B32 ^ i * l.getD i 0) := by rw [Nat.mul_comm (B32 ^ i) B32, Nat.mul_assoc]
    omega
theorem pre_nil : ∀ i, pre [] i = 0
  | 0 => rfl
  | i + 1 => by rw [pre, pre_nil i]; simp
theorem pre_ge : ∀ (l : List Nat) (i : Nat), l.length ≤ i → pre l i = nat l
  | [], i, _ => by rw [pre_nil]; rfl
  | x :: l, 0, h => by simp at h
  | x :: l, i + 1, h => by rw [pre_cons, pre_ge l i (by simpa using h)]; rfl
theorem pre_len (l : List Nat) : pre l l.length = nat l := pre_ge l _ (Nat.le_refl _)
theorem pre_lt {l : List Nat} (h : Low l) : ∀ i, pre l i < B32 ^ i
  | 0 => by simp [pre]
  | i + 1 => by
    have h1 := pre_lt h i
    have h2 : B32 ^ i * l.getD i 0 ≤ B32 ^ i * (B32 - 1) := Nat.mul_le_mul_left _ (by have := h.get i; omega)
    have h3 : B32 ^ i * (B32 - 1) + B32 ^ i = B32 ^ (i + 1) := by rw [Nat.pow_succ, ← Nat.mul_succ]; rfl
    rw [pre]; omega
theorem nat_lt {l : List Nat} (h : Low l) : nat l < B32 ^ l.length := pre_len l ▸ pre_lt h _
theorem pre_mono (l : List Nat) {i j : Nat} (h : i ≤ j) : pre l i ≤ pre l j := by
  induction h with
  | refl => exact Nat.le_refl _
  | step _ ih => exact Nat.le_trans ih (Nat.le_add_right _ _)
theorem pre_congr {l m : List Nat} : ∀ {i : Nat}, (∀ j, j < i → l.getD j 0 = m.getD j 0) → pre l i = pre m i
  | 0, _ => rfl
  | i + 1, h => by rw [pre, pre, pre_congr (fun j hj => h j (by omega)), h i (by omega)]
/-- Above the i-th they are the same. -/
theorem pre_tail {l m : List Nat} {i : Nat} : ∀ {n : Nat}, i ≤ n → (∀ j, i ≤ j → j < n → l.getD j 0 = m.getD j 0) → pre l n + pre m i = pre m n + pre l i := by
  intro n
  induction n with
  | zero =>
    intro h _
    obtain rfl : i = 0 := by omega
    rfl
  | succ n ih =>
    intro h hh
    by_cases e : i = n + 1
    · subst e; omega
    · have := ih (by omega) (fun j h1 h2 => hh j h1 (by omega))
      rw [pre, pre, hh n (by omega) (by omega)]; omega
/-- The first digit from above that differs tells which is below. -/
theorem pre_below {l m : List Nat} {i n : Nat} (hl : Low l) (hi : i < n) (hlt : l.getD i 0 < m.getD i 0) (h : ∀ j, i < j → j < n → l.getD j 0 = m.getD j 0) : pre l n < pre m n := by
  have h1 := pre_tail (l := l) (m := m) (i := i + 1) (n := n) (by omega) (fun j h1 h2 => h j (by omega) h2)
  have h2 := pre_lt hl i
  have h3 : B32 ^ i * (l.getD i 0 + 1) ≤ B32 ^ i * m.getD i 0 := Nat.mul_le_mul_left _ hlt
  rw [Nat.mul_add, Nat.mul_one] at h3
  rw [pre, pre] at h1
  omega
theorem pre_take (l : List Nat) (n : Nat) : ∀ i, i ≤ n → pre (l.take n) i = pre l i := fun i hi => pre_congr fun j hj => by
  rw [List.getD_eq_getElem?_getD, List.getD_eq_getElem?_getD, List.getElem?_take_of_lt (by omega)]
theorem nat_take (l : List Nat) {n : Nat} (hn : n ≤ l.length) : nat (l.take n) = pre l n := by
  rw [← pre_take l n n (Nat.le_refl _), pre_ge _ _ (by simp; omega)]
theorem pre_set_lo (l : List Nat) (k v : Nat) : ∀ i, i ≤ k → pre (l.set k v) i = pre l i := fun i hi => pre_congr fun j hj => by
  rw [List.getD_eq_getElem?_getD, List.getD_eq_getElem?_getD, List.getElem?_set_ne (by omega)]
theorem getD_set (l : List Nat) {k : Nat} (v : Nat) (hk : k < l.length) : (l.set k v).getD k 0 = v := by
  rw [List.getD_eq_getElem?_getD, List.getElem?_set_self (by omega)]; rfl
theorem getD_set_ne (l : List Nat) {k j : Nat} (v : Nat) (hk : k ≠ j) : (l.set k v).getD j 0 = l.getD j 0 := by
  rw [List.getD_eq_getElem?_getD, List.getElem?_set_ne hk, ← List.getD_eq_getElem?_getD]
theorem pre_set (l : List Nat) {k : Nat} (v : Nat) (hk : k < l.length) {i : Nat} (hi : k < i) : pre (l.set k v) i + B32 ^ k * l.getD k 0 = pre l i + B32 ^ k * v := by
  have h1 := pre_tail (l := l.set k v) (m := l) (i := k + 1) (n := i) (by omega) (fun j h1 _ => getD_set_ne l v (by omega))
  rw [pre, pre, getD_set l v hk, pre_set_lo l k v k (Nat.le_refl _)] at h1
  omega
theorem nat_set (l : List Nat) {k : Nat} (v : Nat) (hk : k < l.length) : nat (l.set k v) + B32 ^ k * l.getD k 0 = nat l + B32 ^ k * v := by
  have := pre_set l v hk (i := l.length) hk
  rw [pre_ge _ _ (by simp), pre_len] at this
  exact this
theorem nat_append (l m : List Nat) : nat (l ++ m) = nat l + B32 ^ l.length * nat m := by
  induction l with
  | nil => simp [nat]
  | cons x l ih =>
    rw [List.cons_append, nat, nat, ih, List.length_cons, Nat.pow_succ, Nat.mul_add, Nat.mul_comm (B32 ^ l.length) B32, Nat.mul_assoc]
    omega
theorem nat_zeros : ∀ n, nat (List.replicate n 0) = 0
  | 0 => rfl
  | n + 1 => by rw [List.replicate_succ, nat, nat_zeros n]; rfl
theorem getD_zeros (n i : Nat) : (List.replicate n 0).getD i 0 = 0 := by
  rw [List.getD_eq_getElem?_getD, List.getElem?_replicate]; split <;> rfl

/-- The digits of a number. -/
def dig (n : Nat) : List Nat := if h : n = 0 then [] else n % B32 :: dig (n / B32)
termination_by n
decreasing_by exact Nat.div_lt_self (by omega) (by decide)
theorem dig_zero : dig 0 = [] := by rw [dig]; simp
theorem dig_pos {n : Nat} (h : n ≠ 0) : dig n = n % B32 :: dig (n / B32) := by rw [dig, dif_neg h]
theorem nat_dig (n : Nat) : nat (dig n) = n := by
  induction n using Nat.strongRecOn with
  | ind n ih =>
    by_cases h : n = 0
    · subst h; rw [dig_zero]; rfl
    · rw [dig_pos h, nat, ih _ (Nat.div_lt_self (by omega) (by decide))]
      have := Nat.mod_add_div n B32; omega
theorem dig_low (n : Nat) : Low (dig n) := by
  induction n using Nat.strongRecOn with
  | ind n ih =>
    by_cases h : n = 0
    · subst h; rw [dig_zero]; exact Low.nil
    · rw [dig_pos h]
      intro x hx
      rcases List.mem_cons.1 hx with rfl | hx
      · exact Nat.mod_lt _ (by decide)
      · exact ih _ (Nat.div_lt_self (by omega) (by decide)) x hx
/-- No nought at the end. -/
def Norm (l : List Nat) : Prop := l = [] ∨ l.getD (l.length - 1) 0 ≠ 0
theorem nat_pos {l : List Nat} (h : Norm l) (hne : l ≠ []) : nat l ≠ 0 := by
  rcases h with h | h
  · exact absurd h hne
  · have hl : 0 < l.length := List.length_pos_iff.2 hne
    have h1 := pre_len l
    obtain ⟨k, hk⟩ : ∃ k, l.length = k + 1 := ⟨l.length - 1, by omega⟩
    rw [hk, pre] at h1
    rw [hk, Nat.add_sub_cancel] at h
    have : 0 < B32 ^ k * l.getD k 0 := Nat.mul_pos (Nat.pow_pos (by decide)) (by omega)
    omega
theorem Norm.tail {x : Nat} {l : List Nat} (h : Norm (x :: l)) : Norm l := by
  rcases h with h | h
  · cases h
  · by_cases e : l = []
    · exact .inl e
    · right
      have hl : 0 < l.length := List.length_pos_iff.2 e
      obtain ⟨k, hk⟩ : ∃ k, l.length = k + 1 := ⟨l.length - 1, by omega⟩
      rw [List.length_cons, Nat.add_sub_cancel, hk, List.getD_cons_succ] at h
      rw [hk, Nat.add_sub_cancel]; exact h
theorem dig_nat : ∀ {l : List Nat}, Low l → Norm l → l = dig (nat l)
  | [], _, _ => by rw [nat, dig_zero]
  | x :: l, h, hn => by
    have h1 := nat_pos hn (by simp)
    have hx : x < B32 := h x (List.mem_cons_self ..)
    rw [dig_pos h1, nat, Nat.add_mul_mod_self_left, Nat.mod_eq_of_lt hx, Nat.add_mul_div_left _ _ (by decide), Nat.div_eq_of_lt hx, Nat.zero_add, ← dig_nat h.tail hn.tail]
theorem dig_norm (n : Nat) : Norm (dig n) := by
  induction n using Nat.strongRecOn with
  | ind n ih =>
    by_cases h : n = 0
    · subst h; rw [dig_zero]; exact .inl rfl
    · right
      have hi := ih (n / B32) (Nat.div_lt_self (by omega) (by decide))
      rw [dig_pos h, List.length_cons, Nat.add_sub_cancel]
      rcases hi with hi | hi
      · rw [hi]
        have h0 : n / B32 = 0 := by have := nat_dig (n / B32); rw [hi] at this; exact this.symm
        simp only [List.length_nil, List.getD_cons_zero]
        have := Nat.mod_add_div n B32; rw [h0] at this; omega
      · have hne : dig (n / B32) ≠ [] := fun e => by rw [e] at hi; exact hi rfl
        obtain ⟨k, hk⟩ : ∃ k, (dig (n / B32)).length = k + 1 := ⟨(dig (n / B32)).length - 1, by have := List.length_pos_iff.2 hne; omega⟩
        rw [hk, List.getD_cons_succ]
        rw [hk, Nat.add_sub_cancel] at hi; exact hi
theorem dig_len {n k : Nat} : (dig n).length ≤ k ↔ n < B32 ^ k := by
  constructor
  · intro h
    have h1 := nat_lt (dig_low n)
    rw [nat_dig] at h1
    exact Nat.lt_of_lt_of_le h1 (Nat.pow_le_pow_right (by decide) h)
  · intro h
    rcases dig_norm n with e | e
    · rw [e]; exact Nat.zero_le _
    · rcases Nat.lt_or_ge k (dig n).length with hlt | hge
      · exfalso
        obtain ⟨j, hj⟩ : ∃ j, (dig n).length = j + 1 := ⟨(dig n).length - 1, by omega⟩
        have h1 := pre_len (dig n)
        rw [nat_dig, hj, pre] at h1
        rw [hj, Nat.add_sub_cancel] at e
        have h2 : B32 ^ j * 1 ≤ B32 ^ j * (dig n).getD j 0 := Nat.mul_le_mul_left _ (by omega)
        have h3 : B32 ^ k ≤ B32 ^ j := Nat.pow_le_pow_right (by decide) (by omega)
        omega
      · exact hge
theorem dig_len_lt {a b : Nat} (h : (dig a).length < (dig b).length) : a < b := by
  have h1 := dig_len (n := a) (k := (dig a).length)
  have h2 := dig_len (n := b) (k := (dig a).length)
  have h3 := h1.1 (Nat.le_refl _)
  have h4 : ¬ b < B32 ^ (dig a).length := fun e => by have := h2.2 e; omega
  omega
end Go.Proofs.Ytfehciiidmgopaa
