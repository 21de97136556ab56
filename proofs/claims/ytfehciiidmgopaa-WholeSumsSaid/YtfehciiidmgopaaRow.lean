/- A row of digits that the call itself makes. -/
import Derived.Test.YtfehciiidmgopaaCompare
import Derived.OwnWalk
namespace Go.Proofs.Ytfehciiidmgopaa
open Go.RowKit

/-- Block g is just these digits. -/
def RowAt (w : World) (g : Nat) (l : List Nat) : Prop := Blk w g 44 (u32s l).toArray
section
variable {w w' : World} {g : Nat} {l : List Nat} {fp : Nat → Prop}
theorem RowAt.lt (h : RowAt w g l) : g < w.heap.size := Blk.lt h
theorem RowAt.cell (h : RowAt w g l) {i : Nat} (hi : i < l.length) : w.cell? ⟨g, i, none⟩ = some (.int .u32 ((l.getD i 0 : Nat) : Int)) := by
  rw [Blk.cell h i, List.getElem?_toArray, u32s_get hi]
theorem RowAt.free (h : RowAt w g l) (i : Nat) : w.frozen? ⟨g, i, none⟩ = false := Blk.free h i
theorem RowAt.keep (h : RowAt w g l) (hk : Keeps fp w w') (hg : ¬ fp g) : RowAt w' g l := Blk.keep h hk hg
theorem RowAt.put (h : RowAt w g l) (i : Nat) {v : Int} {n : Nat} (hv : v = (n : Int)) : RowAt (w.setCell ⟨g, i, none⟩ (.int .u32 v)) g (l.set i n) := by
  subst hv
  have := Blk.put h i (.int .u32 (n : Int))
  unfold RowAt
  rw [u32s_set]
  simpa using this
theorem RowAt.drew (h : RowAt w g l) : RowAt w.drew g l := h
theorem RowAt.limbs (h : RowAt w g l) {n : Nat} (hn : l.length = n) (hm : n ≤ maxLen) (hl : Low l) : LimbsIn w (fun k => k = g) (some ⟨g, 0, none⟩) n n l := by
  have hs : Slab w 44 1 (some ⟨g, 0, none⟩) n n (u32s l) := Slab.mk' (by rw [u32s_len]; omega) (Nat.le_refl _) hm h (by simp [u32s_len, hn]) (fun j hj => by rw [List.getElem?_toArray, Nat.zero_add])
  exact (LimbsIn.of_slab hs hl).more (fun k _ ⟨o, e⟩ => by injection e with e; injection e with e; exact e.symm)
end
theorem row_made {w : World} {base g n : Nat} (h : w.ownsRow base 44 1 (.slice (some ⟨g, 0, none⟩) n n) n (madeCells #[Value.int .u32 0] n).toList) : RowAt w g (List.replicate n 0) := by
  rw [toList_madeCells_one] at h
  unfold RowAt
  rw [u32s_zeros]
  rcases h.2 with ⟨hv, _⟩ | ⟨g', cap, cur, hv, hb, hg, hnc, hcm, hcs, htake⟩
  · cases hv
  · injection hv with hv _ hc
    injection hv with hv
    injection hv with hv _ _
    subst hv hc
    rw [Nat.mul_one] at hcs htake
    have : cur.toList = List.replicate n (Value.int .u32 0) := by
      rw [← htake, List.take_of_length_le (by simp [hcs])]
    unfold Blk
    rw [hg, ← this]
/-- Yes or no. -/
def AnyK (w' : World) (B : Nat → Prop) (z : Int) (kd : Int) (ng : Bool) (A : Option Addr) (n c : Nat) (ok : Bool) : Prop := (ok = true ∧ kd = 1 ∧ IA w' B ng A n c z) ∨ (ok = false ∧ kd = 0 ∧ ng = false ∧ A = none ∧ n = 0 ∧ c = 0 ∧ Big ≤ z.natAbs)
def AnyP (w : World) (z : Int) (e : Ending) (w' : World) : Prop := ∃ kd ng A n c ok, e = .returned (.tuple #[.agg #[.int .u8 kd, .bool ng, .slice A n c, .string { data := #[] }, .int .i64 0, .slice none 0 0, .slice none 0 0], .bool ok]) ∧ AnyK w' (fun k => w.heap.size ≤ k) z kd ng A n c ok ∧ Keeps NoB w w'
theorem AnyK.far {w w' : World} {B fp : Nat → Prop} {z kd : Int} {ng ok : Bool} {A : Option Addr} {n c : Nat} (h : AnyK w B z kd ng A n c ok) (hk : Keeps fp w w') (hf : ∀ k, B k → ¬ fp k) : AnyK w' B z kd ng A n c ok := by
  rcases h with ⟨h1, h2, h3⟩ | h
  · exact .inl ⟨h1, h2, h3.far hk hf⟩
  · exact .inr h
theorem AnyK.more {w : World} {B B' : Nat → Prop} {z kd : Int} {ng ok : Bool} {A : Option Addr} {n c : Nat} (h : AnyK w B z kd ng A n c ok) (hB : ∀ k, k < w.heap.size → B k → B' k) : AnyK w B' z kd ng A n c ok := by
  rcases h with ⟨h1, h2, h3⟩ | h
  · exact .inl ⟨h1, h2, h3.more hB⟩
  · exact .inr h
theorem made_any (A : Option Addr) (n c : Nat) (neg : Bool) (l : List Nat) (z : Int) (w : World) (B : Nat → Prop) (h : LimbsIn w B A n c l) (hz : sgn neg (nat l) = z) :
    Calls Try.prog 35 #[.slice A n c, .bool neg] w (AnyP w z) := by
  subst hz
  rcases Nat.lt_or_ge (nat l) Big with hb | hb
  · refine (made_yes A n c neg l w B h hb).mono ?_
    rintro e w' ⟨ng, A, n, c, rfl, hi, hk⟩
    exact ⟨1, ng, A, n, c, true, rfl, .inl ⟨rfl, rfl, hi⟩, hk⟩
  · refine (made_no A n c neg l w B h hb).mono ?_
    rintro e w' ⟨rfl, hk⟩
    exact ⟨0, false, none, 0, 0, false, rfl, .inr ⟨rfl, rfl, rfl, rfl, rfl, rfl, by rw [sgn_abs]; exact hb⟩, hk⟩
theorem IA.toNat {w : World} {B : Nat → Prop} {ng : Bool} {A : Option Addr} {n c : Nat} {z : Int} (h : IA w B ng A n c z) : nat (dig z.natAbs) = z.natAbs := nat_dig _
end Go.Proofs.Ytfehciiidmgopaa
