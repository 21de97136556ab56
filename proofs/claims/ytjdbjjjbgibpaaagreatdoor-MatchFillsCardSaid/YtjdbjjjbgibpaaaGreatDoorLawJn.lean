/- Numbers written in digits of 2^32, the lowest first: plain facts. Sums, differences, products and quotients, digit by digit: plain facts. Integers in memory: words. -/
import Derived.Test.YtjdbjjjbgibpaaaGreatDoorTermLawJn
namespace Go.Proofs.YtjdbjjjbgibpaaaGreatDoor
set_option maxRecDepth 100000
set_option maxRecDepth 100000

abbrev B32 : Nat := 4294967296
def nat : List Nat → Nat
  | [] => 0
  | x :: l => x + B32 * nat l
/-- The first i digits (0 where there is none). -/
def pre (l : List Nat) : Nat → Nat
  | 0 => 0
  | i + 1 => pre l i + B32 ^ i * l.getD i 0
def Low (l : List Nat) : Prop := ∀ x ∈ l, x < B32
theorem Low.nil : Low [] := fun _ h => by cases h
theorem Low.tail {x : Nat} {l : List Nat} (h : Low (x :: l)) : Low l := fun y hy => h y (List.mem_cons_of_mem _ hy)
theorem Low.get {l : List Nat} (h : Low l) (i : Nat) : l.getD i 0 < B32 := by
  rw [List.getD_eq_getElem?_getD]
  by_cases hi : i < l.length
  · rw [List.getElem?_eq_getElem hi]; exact h _ (List.getElem_mem hi)
  · rw [List.getElem?_eq_none (by omega)]; decide
theorem Low.append {l m : List Nat} (h : Low l) (k : Low m) : Low (l ++ m) := fun x hx => (List.mem_append.1 hx).elim (h x) (k x)
theorem Low.take {l : List Nat} (h : Low l) (n : Nat) : Low (l.take n) := fun x hx => h x (List.mem_of_mem_take hx)
theorem Low.set {l : List Nat} (h : Low l) (n v : Nat) (hv : v < B32) : Low (l.set n v) := fun x hx => (List.mem_or_eq_of_mem_set hx).elim (h x) (fun e => e ▸ hv)
theorem pre_cons (x : Nat) (l : List Nat) : ∀ i, pre (x :: l) (i + 1) = x + B32 * pre l i
  | 0 => by simp [pre]
  | i + 1 => by
    rw [pre, pre_cons x l i, pre, List.getD_cons_succ, Nat.pow_succ, Nat.mul_add]
    have : B32 ^ i * B32 * l.getD i 0 = B32 * (B32 ^ i * l.getD i 0) := by rw [Nat.mul_comm (B32 ^ i) B32, Nat.mul_assoc]
    omega
theorem pre_nil : ∀ i, pre [] i = 0
  | 0 => rfl
  | i + 1 => by rw [pre, pre_nil i]; simp
theorem pre_ge : ∀ (l : List Nat) (i : Nat), l.length ≤ i → pre l i = nat l
  | [], i, _ => by rw [pre_nil]; rfl
  | x :: l, 0, h => by simp at h
  | x :: l, i + 1, h => by rw [pre_cons, pre_ge l i (by simpa using h)]; rfl
theorem pre_len (l : List Nat) : pre l l.length = nat l := pre_ge l _ (Nat.le_refl _)
theorem pre_lt {l : List Nat} (h : Low l) : ∀ i, pre l i < B32 ^ i
  | 0 => by simp [pre]
  | i + 1 => by
    have h1 := pre_lt h i
    have h2 : B32 ^ i * l.getD i 0 ≤ B32 ^ i * (B32 - 1) := Nat.mul_le_mul_left _ (by have := h.get i; omega)
    have h3 : B32 ^ i * (B32 - 1) + B32 ^ i = B32 ^ (i + 1) := by rw [Nat.pow_succ, ← Nat.mul_succ]; rfl
    rw [pre]; omega
theorem nat_lt {l : List Nat} (h : Low l) : nat l < B32 ^ l.length := pre_len l ▸ pre_lt h _
theorem pre_congr {l m : List Nat} : ∀ {i : Nat}, (∀ j, j < i → l.getD j 0 = m.getD j 0) → pre l i = pre m i
  | 0, _ => rfl
  | i + 1, h => by rw [pre, pre, pre_congr (fun j hj => h j (by omega)), h i (by omega)]
/-- Above the i-th they are the same. -/
theorem pre_tail {l m : List Nat} {i : Nat} : ∀ {n : Nat}, i ≤ n → (∀ j, i ≤ j → j < n → l.getD j 0 = m.getD j 0) → pre l n + pre m i = pre m n + pre l i := by
  intro n
  induction n with
  | zero =>
    intro h _
    obtain rfl : i = 0 := by omega
    rfl
  | succ n ih =>
    intro h hh
    by_cases e : i = n + 1
    · subst e; omega
    · have := ih (by omega) (fun j h1 h2 => hh j h1 (by omega))
      rw [pre, pre, hh n (by omega) (by omega)]; omega
/-- The first digit from above that differs tells which is below. -/
theorem pre_below {l m : List Nat} {i n : Nat} (hl : Low l) (hi : i < n) (hlt : l.getD i 0 < m.getD i 0) (h : ∀ j, i < j → j < n → l.getD j 0 = m.getD j 0) : pre l n < pre m n := by
  have h1 := pre_tail (l := l) (m := m) (i := i + 1) (n := n) (by omega) (fun j h1 h2 => h j (by omega) h2)
  have h2 := pre_lt hl i
  have h3 : B32 ^ i * (l.getD i 0 + 1) ≤ B32 ^ i * m.getD i 0 := Nat.mul_le_mul_left _ hlt
  rw [Nat.mul_add, Nat.mul_one] at h3
  rw [pre, pre] at h1
  omega
theorem pre_take (l : List Nat) (n : Nat) : ∀ i, i ≤ n → pre (l.take n) i = pre l i := fun i hi => pre_congr fun j hj => by
  rw [List.getD_eq_getElem?_getD, List.getD_eq_getElem?_getD, List.getElem?_take_of_lt (by omega)]
theorem nat_take (l : List Nat) {n : Nat} (hn : n ≤ l.length) : nat (l.take n) = pre l n := by
  rw [← pre_take l n n (Nat.le_refl _), pre_ge _ _ (by simp; omega)]
theorem getD_set_ne (l : List Nat) {k j : Nat} (v : Nat) (hk : k ≠ j) : (l.set k v).getD j 0 = l.getD j 0 := by
  rw [List.getD_eq_getElem?_getD, List.getElem?_set_ne hk, ← List.getD_eq_getElem?_getD]
/-- The digits of a number. -/
def dig (n : Nat) : List Nat := if h : n = 0 then [] else n % B32 :: dig (n / B32)
termination_by n
decreasing_by exact Nat.div_lt_self (by omega) (by decide)
theorem dig_zero : dig 0 = [] := by rw [dig]; simp
theorem dig_pos {n : Nat} (h : n ≠ 0) : dig n = n % B32 :: dig (n / B32) := by rw [dig, dif_neg h]
theorem nat_dig (n : Nat) : nat (dig n) = n := by
  induction n using Nat.strongRecOn with
  | ind n ih =>
    by_cases h : n = 0
    · subst h; rw [dig_zero]; rfl
    · rw [dig_pos h, nat, ih _ (Nat.div_lt_self (by omega) (by decide))]
      have := Nat.mod_add_div n B32; omega
theorem dig_low (n : Nat) : Low (dig n) := by
  induction n using Nat.strongRecOn with
  | ind n ih =>
    by_cases h : n = 0
    · subst h; rw [dig_zero]; exact Low.nil
    · rw [dig_pos h]
      intro x hx
      rcases List.mem_cons.1 hx with rfl | hx
      · exact Nat.mod_lt _ (by decide)
      · exact ih _ (Nat.div_lt_self (by omega) (by decide)) x hx
/-- No nought at the end. -/
def Norm (l : List Nat) : Prop := l = [] ∨ l.getD (l.length - 1) 0 ≠ 0
theorem nat_pos {l : List Nat} (h : Norm l) (hne : l ≠ []) : nat l ≠ 0 := by
  rcases h with h | h
  · exact absurd h hne
  · have hl : 0 < l.length := List.length_pos_iff.2 hne
    have h1 := pre_len l
    obtain ⟨k, hk⟩ : ∃ k, l.length = k + 1 := ⟨l.length - 1, by omega⟩
    rw [hk, pre] at h1
    rw [hk, Nat.add_sub_cancel] at h
    have : 0 < B32 ^ k * l.getD k 0 := Nat.mul_pos (Nat.pow_pos (by decide)) (by omega)
    omega
theorem Norm.tail {x : Nat} {l : List Nat} (h : Norm (x :: l)) : Norm l := by
  rcases h with h | h
  · cases h
  · by_cases e : l = []
    · exact .inl e
    · right
      have hl : 0 < l.length := List.length_pos_iff.2 e
      obtain ⟨k, hk⟩ : ∃ k, l.length = k + 1 := ⟨l.length - 1, by omega⟩
      rw [List.length_cons, Nat.add_sub_cancel, hk, List.getD_cons_succ] at h
      rw [hk, Nat.add_sub_cancel]; exact h
theorem dig_nat : ∀ {l : List Nat}, Low l → Norm l → l = dig (nat l)
  | [], _, _ => by rw [nat, dig_zero]
  | x :: l, h, hn => by
    have h1 := nat_pos hn (by simp)
    have hx : x < B32 := h x (List.mem_cons_self ..)
    rw [dig_pos h1, nat, Nat.add_mul_mod_self_left, Nat.mod_eq_of_lt hx, Nat.add_mul_div_left _ _ (by decide), Nat.div_eq_of_lt hx, Nat.zero_add, ← dig_nat h.tail hn.tail]
theorem dig_norm (n : Nat) : Norm (dig n) := by
  induction n using Nat.strongRecOn with
  | ind n ih =>
    by_cases h : n = 0
    · subst h; rw [dig_zero]; exact .inl rfl
    · right
      have hi := ih (n / B32) (Nat.div_lt_self (by omega) (by decide))
      rw [dig_pos h, List.length_cons, Nat.add_sub_cancel]
      rcases hi with hi | hi
      · rw [hi]
        have h0 : n / B32 = 0 := by have := nat_dig (n / B32); rw [hi] at this; exact this.symm
        simp only [List.length_nil, List.getD_cons_zero]
        have := Nat.mod_add_div n B32; rw [h0] at this; omega
      · have hne : dig (n / B32) ≠ [] := fun e => by rw [e] at hi; exact hi rfl
        obtain ⟨k, hk⟩ : ∃ k, (dig (n / B32)).length = k + 1 := ⟨(dig (n / B32)).length - 1, by have := List.length_pos_iff.2 hne; omega⟩
        rw [hk, List.getD_cons_succ]
        rw [hk, Nat.add_sub_cancel] at hi; exact hi
theorem dig_len {n k : Nat} : (dig n).length ≤ k ↔ n < B32 ^ k := by
  constructor
  · intro h
    have h1 := nat_lt (dig_low n)
    rw [nat_dig] at h1
    exact Nat.lt_of_lt_of_le h1 (Nat.pow_le_pow_right (by decide) h)
  · intro h
    rcases dig_norm n with e | e
    · rw [e]; exact Nat.zero_le _
    · rcases Nat.lt_or_ge k (dig n).length with hlt | hge
      · exfalso
        obtain ⟨j, hj⟩ : ∃ j, (dig n).length = j + 1 := ⟨(dig n).length - 1, by omega⟩
        have h1 := pre_len (dig n)
        rw [nat_dig, hj, pre] at h1
        rw [hj, Nat.add_sub_cancel] at e
        have h2 : B32 ^ j * 1 ≤ B32 ^ j * (dig n).getD j 0 := Nat.mul_le_mul_left _ (by omega)
        have h3 : B32 ^ k ≤ B32 ^ j := Nat.pow_le_pow_right (by decide) (by omega)
        omega
      · exact hge
theorem dig_len_lt {a b : Nat} (h : (dig a).length < (dig b).length) : a < b := by
  have h1 := dig_len (n := a) (k := (dig a).length)
  have h2 := dig_len (n := b) (k := (dig a).length)
  have h3 := h1.1 (Nat.le_refl _)
  have h4 : ¬ b < B32 ^ (dig a).length := fun e => by have := h2.2 e; omega
  omega
end Go.Proofs.YtjdbjjjbgibpaaaGreatDoor
namespace Go.Proofs.YtjdbjjjbgibpaaaGreatDoor
set_option maxRecDepth 100000
set_option maxRecDepth 100000

/-- Noughts at the end, cut off. -/
theorem nat_cut {l : List Nat} {n : Nat} (hn : n ≤ l.length) (h : ∀ j, n ≤ j → j < l.length → l.getD j 0 = 0) : nat (l.take n) = nat l := by
  rw [nat_take l hn, ← pre_len l]
  have := pre_tail (l := l) (m := []) (i := n) (n := l.length) hn (fun j h1 h2 => by rw [h j h1 h2]; rfl)
  rw [pre_nil, pre_nil] at this
  omega
/-- The decimal digits, the lowest first. -/
def decs (n : Nat) : List Nat := if h : n = 0 then [] else n % 10 :: decs (n / 10)
termination_by n
decreasing_by exact Nat.div_lt_self (by omega) (by decide)
/-- What decimal digits say, the highest first. -/
def says : Nat → List Nat → Nat
  | n, [] => n
  | n, d :: l => says (10 * n + d) l
end Go.Proofs.YtjdbjjjbgibpaaaGreatDoor
namespace Go.Proofs.YtjdbjjjbgibpaaaGreatDoor
set_option maxRecDepth 100000
set_option maxRecDepth 100000
open Go.RowKit

def u32s (l : List Nat) : List Value := l.map fun (x : Nat) => Value.int .u32 (x : Int)
theorem u32s_len (l : List Nat) : (u32s l).length = l.length := List.length_map _
theorem u32s_get {l : List Nat} {i : Nat} (h : i < l.length) : (u32s l)[i]? = some (.int .u32 ((l.getD i 0 : Nat) : Int)) := by
  unfold u32s; rw [List.getElem?_map, List.getD_eq_getElem?_getD, List.getElem?_eq_getElem h]; rfl
theorem u32s_set (l : List Nat) (i v : Nat) : u32s (l.set i v) = (u32s l).set i (.int .u32 (v : Int)) := by unfold u32s; rw [List.map_set]
theorem u32s_take (l : List Nat) (n : Nat) : u32s (l.take n) = (u32s l).take n := List.map_take
/-- A slice's address and length: it reads as these digits. -/
structure LimbsIn (w : World) (B : Nat → Prop) (A : Option Addr) (n c : Nat) (l : List Nat) : Prop where
  reads : ∃ F, Reads w B F 1 A n (u32s l)
  low : Low l
  cap : n ≤ c
  max : c ≤ maxLen
theorem LimbsIn.len {w : World} {B : Nat → Prop} {A : Option Addr} {n c : Nat} {l : List Nat} (h : LimbsIn w B A n c l) : l.length = n := by
  obtain ⟨F, hr⟩ := h.reads
  have := hr.1
  rw [u32s_len] at this; omega
theorem LimbsIn.keep {w w' : World} {B : Nat → Prop} {A : Option Addr} {n c : Nat} {l : List Nat} (h : LimbsIn w B A n c l) (hk : Keeps NoB w w') : LimbsIn w' B A n c l := by
  obtain ⟨F, hr⟩ := h.reads
  exact ⟨⟨F, hr.keep hk (fun _ _ => id)⟩, h.low, h.cap, h.max⟩
theorem LimbsIn.far {w w' : World} {B fp : Nat → Prop} {A : Option Addr} {n c : Nat} {l : List Nat} (h : LimbsIn w B A n c l) (hk : Keeps fp w w') (hf : ∀ k, B k → ¬ fp k) : LimbsIn w' B A n c l := by
  obtain ⟨F, hr⟩ := h.reads
  exact ⟨⟨F, hr.keep hk hf⟩, h.low, h.cap, h.max⟩
theorem LimbsIn.more {w : World} {B B' : Nat → Prop} {A : Option Addr} {n c : Nat} {l : List Nat} (h : LimbsIn w B A n c l) (hB : ∀ k, k < w.heap.size → B k → B' k) : LimbsIn w B' A n c l := by
  obtain ⟨F, hr⟩ := h.reads
  exact ⟨⟨F, hr.more hB⟩, h.low, h.cap, h.max⟩
theorem LimbsIn.drew {w : World} {B : Nat → Prop} {A : Option Addr} {n c : Nat} {l : List Nat} (h : LimbsIn w B A n c l) : LimbsIn w.drew B A n c l := h.keep (Keeps.refl NoB w).drew
theorem LimbsIn.at {w : World} {B : Nat → Prop} {A : Option Addr} {n c : Nat} {l : List Nat} (h : LimbsIn w B A n c l) (hn : 0 < n) : ∃ b o, A = some ⟨b, o, none⟩ ∧ b < w.heap.size ∧ ∀ i, i < n → w.cell? ⟨b, o + i, none⟩ = some (.int .u32 ((l.getD i 0 : Nat) : Int)) := by
  have hl := h.len
  obtain ⟨F, hr⟩ := h.reads
  obtain ⟨⟨b, o, sp⟩, hA, hs, _, hb, hc⟩ := hr.2 hn
  simp only at hs
  subst hs
  exact ⟨b, o, hA, hb, fun i hi => (hc i _ (u32s_get (by omega))).1⟩
theorem LimbsIn.nil (w : World) (B : Nat → Prop) (A : Option Addr) (c : Nat) (hc : c ≤ maxLen) : LimbsIn w B A 0 c [] := ⟨⟨false, Reads.zero _ _ _ _ _⟩, Low.nil, Nat.zero_le _, hc⟩
theorem LimbsIn.of_slab {w : World} {e : TypeId} {A : Option Addr} {n c : Nat} {l : List Nat} (h : Slab w e 1 A n c (u32s l)) (hl : Low l) : LimbsIn w (rowB A) A n c l := ⟨⟨_, h.reads⟩, hl, h.2.1, h.2.2.1⟩
theorem Reads.upto {w : World} {B : Nat → Prop} {F : Bool} {A : Option Addr} {n k : Nat} {xs : List Value} (h : Reads w B F 1 A n xs) (hk : k ≤ n) : Reads w B F 1 A k (xs.take k) := by
  have hl := h.1
  refine ⟨by rw [List.length_take, hl]; omega, fun h0 => ?_⟩
  obtain ⟨ad, hA, hs, hb, hlt, hc⟩ := h.2 (by omega)
  refine ⟨ad, hA, hs, hb, hlt, fun j u hu => hc j u ?_⟩
  rw [List.getElem?_take] at hu
  split at hu
  · exact hu
  · cases hu
theorem LimbsIn.upto {w : World} {B : Nat → Prop} {A : Option Addr} {n k c : Nat} {l : List Nat} (h : LimbsIn w B A n c l) (hk : k ≤ n) : LimbsIn w B A k c (l.take k) := by
  obtain ⟨F, hr⟩ := h.reads
  exact ⟨⟨F, by rw [u32s_take]; exact hr.upto hk⟩, h.low.take k, Nat.le_trans hk h.cap, h.max⟩

/-- The integers that may be. -/
@[irreducible] def Big : Nat := B32 ^ 32
theorem Big_eq : Big = B32 ^ 32 := by unfold Big; rfl
theorem dig_big {n : Nat} : (dig n).length ≤ 32 ↔ n < Big := Big_eq ▸ dig_len
/-- A term's sign and digits are those of an integer. -/
structure IA (w : World) (B : Nat → Prop) (ng : Bool) (A : Option Addr) (n c : Nat) (z : Int) : Prop where
  limbs : LimbsIn w B A n c (dig z.natAbs)
  sign : ng = decide (z < 0)
  room : z.natAbs < Big
theorem IA.keep {w w' : World} {B : Nat → Prop} {ng : Bool} {A : Option Addr} {n c : Nat} {z : Int} (h : IA w B ng A n c z) (hk : Keeps NoB w w') : IA w' B ng A n c z := ⟨h.limbs.keep hk, h.sign, h.room⟩
theorem IA.far {w w' : World} {B fp : Nat → Prop} {ng : Bool} {A : Option Addr} {n c : Nat} {z : Int} (h : IA w B ng A n c z) (hk : Keeps fp w w') (hf : ∀ k, B k → ¬ fp k) : IA w' B ng A n c z := ⟨h.limbs.far hk hf, h.sign, h.room⟩
theorem IA.more {w : World} {B B' : Nat → Prop} {ng : Bool} {A : Option Addr} {n c : Nat} {z : Int} (h : IA w B ng A n c z) (hB : ∀ k, k < w.heap.size → B k → B' k) : IA w B' ng A n c z := ⟨h.limbs.more hB, h.sign, h.room⟩
theorem IA.len {w : World} {B : Nat → Prop} {ng : Bool} {A : Option Addr} {n c : Nat} {z : Int} (h : IA w B ng A n c z) : n ≤ 32 := by
  rw [← h.limbs.len]; exact dig_big.2 h.room

/-- Right. -/
def rightB (kd : Int) (ng : Bool) (l : List Nat) (tx : ByteArray) (nm : Int) (im tm : Nat) : Bool :=
  decide (kd = 1) && (decide (tx = ByteArray.empty) && (decide (nm = 0) && (decide (im + tm = 0) && (decide (l.length ≤ 32) && (if l.length = 0 then !ng else decide (l.getD (l.length - 1) 0 ≠ 0))))))
theorem right_IA {w : World} {B : Nat → Prop} {A : Option Addr} {n c : Nat} {kd nm : Int} {ng : Bool} {l : List Nat} {tx : ByteArray} {im tm : Nat} (h : rightB kd ng l tx nm im tm = true) (hl : LimbsIn w B A n c l) :
    kd = 1 ∧ tx = ByteArray.empty ∧ nm = 0 ∧ im = 0 ∧ tm = 0 ∧ IA w B ng A n c (if ng then -(nat l : Int) else nat l) ∧ l = dig (nat l) ∧ (ng = true → nat l ≠ 0) := by
  unfold rightB at h
  simp only [Bool.and_eq_true, decide_eq_true_eq] at h
  obtain ⟨rfl, rfl, rfl, h4, h5, h6⟩ := h
  have hn : Norm l := by
    split at h6
    · exact .inl (List.eq_nil_of_length_eq_zero ‹_›)
    · exact .inr (of_decide_eq_true h6)
  have hd := dig_nat hl.low hn
  have hz : ng = true → nat l ≠ 0 := by
    intro hng
    split at h6
    · rw [hng] at h6; cases h6
    · exact nat_pos hn (fun e => by subst e; simp at *)
  have ha : (if ng then -(nat l : Int) else (nat l : Int)).natAbs = nat l := by split <;> omega
  refine ⟨rfl, rfl, rfl, by omega, by omega, ⟨by rw [ha, ← hd]; exact hl, ?_, ?_⟩, hd, hz⟩
  · cases ng with
    | true => have := hz rfl; simp <;> omega
    | false => simp <;> omega
  · rw [ha]
    rw [Big_eq]
    exact Nat.lt_of_lt_of_le (nat_lt hl.low) (Nat.pow_le_pow_right (by decide) h5)
theorem IA_right {w : World} {B : Nat → Prop} {A : Option Addr} {n c : Nat} {ng : Bool} {z : Int} (h : IA w B ng A n c z) : rightB 1 ng (dig z.natAbs) ByteArray.empty 0 0 0 = true := by
  have h5 := h.len
  have hl := h.limbs.len
  unfold rightB
  simp only [Bool.and_eq_true, decide_eq_true_eq]
  refine ⟨trivial, trivial, trivial, trivial, by omega, ?_⟩
  split
  · rename_i h0
    rw [h.sign]
    have : z.natAbs = 0 := by rw [← nat_dig z.natAbs, List.eq_nil_of_length_eq_zero h0]; rfl
    simp; omega
  · rename_i h0
    rcases dig_norm z.natAbs with e | e
    · rw [e] at h0; exact absurd rfl h0
    · exact decide_eq_true e
end Go.Proofs.YtjdbjjjbgibpaaaGreatDoor
