/- Integers in memory: words. -/
import Derived.Test.YtfehciiidmgopaaArith
import Derived.Test.YtfehciiidmgopaaMore
namespace Go.Proofs.Ytfehciiidmgopaa
open Go.RowKit

def u32s (l : List Nat) : List Value := l.map fun (x : Nat) => Value.int .u32 (x : Int)
theorem u32s_len (l : List Nat) : (u32s l).length = l.length := List.length_map _
theorem u32s_get {l : List Nat} {i : Nat} (h : i < l.length) : (u32s l)[i]? = some (.int .u32 ((l.getD i 0 : Nat) : Int)) := by
  unfold u32s; rw [List.getElem?_map, List.getD_eq_getElem?_getD, List.getElem?_eq_getElem h]; rfl
theorem u32s_ones (l : List Nat) : ∀ u ∈ u32s l, u.oneCell' = true := by
  intro u hu; obtain ⟨x, _, rfl⟩ := List.mem_map.1 hu; rfl
theorem u32s_set (l : List Nat) (i v : Nat) : u32s (l.set i v) = (u32s l).set i (.int .u32 (v : Int)) := by unfold u32s; rw [List.map_set]
theorem u32s_append (l m : List Nat) : u32s (l ++ m) = u32s l ++ u32s m := List.map_append
theorem u32s_take (l : List Nat) (n : Nat) : u32s (l.take n) = (u32s l).take n := List.map_take
theorem u32s_zeros (n : Nat) : u32s (List.replicate n 0) = List.replicate n (.int .u32 0) := List.map_replicate

/-- A slice's address and length: it reads as these digits. -/
structure LimbsIn (w : World) (B : Nat → Prop) (A : Option Addr) (n c : Nat) (l : List Nat) : Prop where
  reads : ∃ F, Reads w B F 1 A n (u32s l)
  low : Low l
  cap : n ≤ c
  max : c ≤ maxLen
theorem LimbsIn.len {w : World} {B : Nat → Prop} {A : Option Addr} {n c : Nat} {l : List Nat} (h : LimbsIn w B A n c l) : l.length = n := by
  obtain ⟨F, hr⟩ := h.reads
  have := hr.1
  rw [u32s_len] at this; omega
theorem LimbsIn.keep {w w' : World} {B : Nat → Prop} {A : Option Addr} {n c : Nat} {l : List Nat} (h : LimbsIn w B A n c l) (hk : Keeps NoB w w') : LimbsIn w' B A n c l := by
  obtain ⟨F, hr⟩ := h.reads
  exact ⟨⟨F, hr.keep hk (fun _ _ => id)⟩, h.low, h.cap, h.max⟩
theorem LimbsIn.far {w w' : World} {B fp : Nat → Prop} {A : Option Addr} {n c : Nat} {l : List Nat} (h : LimbsIn w B A n c l) (hk : Keeps fp w w') (hf : ∀ k, B k → ¬ fp k) : LimbsIn w' B A n c l := by
  obtain ⟨F, hr⟩ := h.reads
  exact ⟨⟨F, hr.keep hk hf⟩, h.low, h.cap, h.max⟩
theorem LimbsIn.more {w : World} {B B' : Nat → Prop} {A : Option Addr} {n c : Nat} {l : List Nat} (h : LimbsIn w B A n c l) (hB : ∀ k, k < w.heap.size → B k → B' k) : LimbsIn w B' A n c l := by
  obtain ⟨F, hr⟩ := h.reads
  exact ⟨⟨F, hr.more hB⟩, h.low, h.cap, h.max⟩
theorem LimbsIn.drew {w : World} {B : Nat → Prop} {A : Option Addr} {n c : Nat} {l : List Nat} (h : LimbsIn w B A n c l) : LimbsIn w.drew B A n c l := h.keep (Keeps.refl NoB w).drew
theorem LimbsIn.at {w : World} {B : Nat → Prop} {A : Option Addr} {n c : Nat} {l : List Nat} (h : LimbsIn w B A n c l) (hn : 0 < n) : ∃ b o, A = some ⟨b, o, none⟩ ∧ b < w.heap.size ∧ ∀ i, i < n → w.cell? ⟨b, o + i, none⟩ = some (.int .u32 ((l.getD i 0 : Nat) : Int)) := by
  have hl := h.len
  obtain ⟨F, hr⟩ := h.reads
  obtain ⟨⟨b, o, sp⟩, hA, hs, _, hb, hc⟩ := hr.2 hn
  simp only at hs
  subst hs
  exact ⟨b, o, hA, hb, fun i hi => (hc i _ (u32s_get (by omega))).1⟩
theorem LimbsIn.nil (w : World) (B : Nat → Prop) (A : Option Addr) (c : Nat) (hc : c ≤ maxLen) : LimbsIn w B A 0 c [] := ⟨⟨false, Reads.zero _ _ _ _ _⟩, Low.nil, Nat.zero_le _, hc⟩
theorem LimbsIn.of_slab {w : World} {e : TypeId} {A : Option Addr} {n c : Nat} {l : List Nat} (h : Slab w e 1 A n c (u32s l)) (hl : Low l) : LimbsIn w (rowB A) A n c l := ⟨⟨_, h.reads⟩, hl, h.2.1, h.2.2.1⟩
theorem Reads.upto {w : World} {B : Nat → Prop} {F : Bool} {A : Option Addr} {n k : Nat} {xs : List Value} (h : Reads w B F 1 A n xs) (hk : k ≤ n) : Reads w B F 1 A k (xs.take k) := by
  have hl := h.1
  refine ⟨by rw [List.length_take, hl]; omega, fun h0 => ?_⟩
  obtain ⟨ad, hA, hs, hb, hlt, hc⟩ := h.2 (by omega)
  refine ⟨ad, hA, hs, hb, hlt, fun j u hu => hc j u ?_⟩
  rw [List.getElem?_take] at hu
  split at hu
  · exact hu
  · cases hu
theorem LimbsIn.upto {w : World} {B : Nat → Prop} {A : Option Addr} {n k c : Nat} {l : List Nat} (h : LimbsIn w B A n c l) (hk : k ≤ n) : LimbsIn w B A k c (l.take k) := by
  obtain ⟨F, hr⟩ := h.reads
  exact ⟨⟨F, by rw [u32s_take]; exact hr.upto hk⟩, h.low.take k, Nat.le_trans hk h.cap, h.max⟩

/-- The integers that may be. -/
@[irreducible] def Big : Nat := B32 ^ 32
theorem Big_eq : Big = B32 ^ 32 := by unfold Big; rfl
theorem dig_big {n : Nat} : (dig n).length ≤ 32 ↔ n < Big := Big_eq ▸ dig_len
/-- A term's sign and digits are those of an integer. -/
structure IA (w : World) (B : Nat → Prop) (ng : Bool) (A : Option Addr) (n c : Nat) (z : Int) : Prop where
  limbs : LimbsIn w B A n c (dig z.natAbs)
  sign : ng = decide (z < 0)
  room : z.natAbs < Big
theorem IA.keep {w w' : World} {B : Nat → Prop} {ng : Bool} {A : Option Addr} {n c : Nat} {z : Int} (h : IA w B ng A n c z) (hk : Keeps NoB w w') : IA w' B ng A n c z := ⟨h.limbs.keep hk, h.sign, h.room⟩
theorem IA.far {w w' : World} {B fp : Nat → Prop} {ng : Bool} {A : Option Addr} {n c : Nat} {z : Int} (h : IA w B ng A n c z) (hk : Keeps fp w w') (hf : ∀ k, B k → ¬ fp k) : IA w' B ng A n c z := ⟨h.limbs.far hk hf, h.sign, h.room⟩
theorem IA.more {w : World} {B B' : Nat → Prop} {ng : Bool} {A : Option Addr} {n c : Nat} {z : Int} (h : IA w B ng A n c z) (hB : ∀ k, k < w.heap.size → B k → B' k) : IA w B' ng A n c z := ⟨h.limbs.more hB, h.sign, h.room⟩
theorem IA.len {w : World} {B : Nat → Prop} {ng : Bool} {A : Option Addr} {n c : Nat} {z : Int} (h : IA w B ng A n c z) : n ≤ 32 := by
  rw [← h.limbs.len]; exact dig_big.2 h.room

/-- Right. -/
def rightB (kd : Int) (ng : Bool) (l : List Nat) (tx : ByteArray) (nm : Int) (im tm : Nat) : Bool :=
  decide (kd = 1) && (decide (tx = ByteArray.empty) && (decide (nm = 0) && (decide (im + tm = 0) && (decide (l.length ≤ 32) && (if l.length = 0 then !ng else decide (l.getD (l.length - 1) 0 ≠ 0))))))
theorem right_IA {w : World} {B : Nat → Prop} {A : Option Addr} {n c : Nat} {kd nm : Int} {ng : Bool} {l : List Nat} {tx : ByteArray} {im tm : Nat} (h : rightB kd ng l tx nm im tm = true) (hl : LimbsIn w B A n c l) :
    kd = 1 ∧ tx = ByteArray.empty ∧ nm = 0 ∧ im = 0 ∧ tm = 0 ∧ IA w B ng A n c (if ng then -(nat l : Int) else nat l) ∧ l = dig (nat l) ∧ (ng = true → nat l ≠ 0) := by
  unfold rightB at h
  simp only [Bool.and_eq_true, decide_eq_true_eq] at h
  obtain ⟨rfl, rfl, rfl, h4, h5, h6⟩ := h
  have hn : Norm l := by
    split at h6
    · exact .inl (List.eq_nil_of_length_eq_zero ‹_›)
    · exact .inr (of_decide_eq_true h6)
  have hd := dig_nat hl.low hn
  have hz : ng = true → nat l ≠ 0 := by
    intro hng
    split at h6
    · rw [hng] at h6; cases h6
    · exact nat_pos hn (fun e => by subst e; simp at *)
  have ha : (if ng then -(nat l : Int) else (nat l : Int)).natAbs = nat l := by split <;> omega
  refine ⟨rfl, rfl, rfl, by omega, by omega, ⟨by rw [ha, ← hd]; exact hl, ?_, ?_⟩, hd, hz⟩
  · cases ng with
    | true => have := hz rfl; simp <;> omega
    | false => simp <;> omega
  · rw [ha]
    rw [Big_eq]
    exact Nat.lt_of_lt_of_le (nat_lt hl.low) (Nat.pow_le_pow_right (by decide) h5)
theorem IA_right {w : World} {B : Nat → Prop} {A : Option Addr} {n c : Nat} {ng : Bool} {z : Int} (h : IA w B ng A n c z) : rightB 1 ng (dig z.natAbs) ByteArray.empty 0 0 0 = true := by
  have h5 := h.len
  have hl := h.limbs.len
  unfold rightB
  simp only [Bool.and_eq_true, decide_eq_true_eq]
  refine ⟨trivial, trivial, trivial, trivial, by omega, ?_⟩
  split
  · rename_i h0
    rw [h.sign]
    have : z.natAbs = 0 := by rw [← nat_dig z.natAbs, List.eq_nil_of_length_eq_zero h0]; rfl
    simp; omega
  · rename_i h0
    rcases dig_norm z.natAbs with e | e
    · rw [e] at h0; exact absurd rfl h0
    · exact decide_eq_true e
end Go.Proofs.Ytfehciiidmgopaa
