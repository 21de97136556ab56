/- made: an integer of digits. -/
import Derived.Test.YtjdbjjjbgibpaaaGreatDoorSmallJn
namespace Go.Proofs.YtjdbjjjbgibpaaaGreatDoor
set_option maxRecDepth 100000
set_option maxRecDepth 100000
open Go.RowKit

/-- What is returned where z is an integer that may be. -/
def YesP (w : World) (z : Int) (e : Ending) (w' : World) : Prop := ∃ ng A n c, e = .returned (.tuple #[.agg #[.int .u8 1, .bool ng, .slice A n c, .string { data := #[] }, .int .i64 0, .slice none 0 0, .slice none 0 0], .bool true]) ∧ IA w' (fun k => w.heap.size ≤ k) ng A n c z ∧ Keeps NoB w w'
def NoP (w : World) (e : Ending) (w' : World) : Prop := e = .returned (.tuple #[.agg #[.int .u8 0, .bool false, .slice none 0 0, .string { data := #[] }, .int .i64 0, .slice none 0 0, .slice none 0 0], .bool false]) ∧ Keeps NoB w w'

/-- From m on there are noughts alone. -/
def Noughts (l : List Nat) (m : Nat) : Prop := ∀ j, m ≤ j → j < l.length → l.getD j 0 = 0
theorem Noughts.step {l : List Nat} {m k : Nat} (h : Noughts l m) (hk : m = k + 1) (h0 : l.getD k 0 = 0) : Noughts l k := fun j h1 h2 => by
  by_cases e : j = k
  · subst e; exact h0
  · exact h j (by omega) h2
theorem Noughts.norm {l : List Nat} {m k : Nat} (hm : m ≤ l.length) (hk : m = k + 1) (h0 : l.getD k 0 ≠ 0) : Norm (l.take m) := by
  right
  rw [List.length_take, Nat.min_eq_left hm, hk, Nat.add_sub_cancel, List.getD_eq_getElem?_getD, List.getElem?_take_of_lt (by omega), ← List.getD_eq_getElem?_getD]
  exact h0
theorem Noughts.dig {l : List Nat} {m : Nat} (h : Noughts l m) (hm : m ≤ l.length) (hl : Low l) (hn : Norm (l.take m)) : l.take m = dig (nat l) := by
  rw [dig_nat (hl.take m) hn, nat_cut hm h]

def lenV : Value → Nat
  | .slice _ m _ => m
  | _ => 0
def sgn (neg : Bool) (n : Nat) : Int := if neg then -(n : Int) else n
theorem Keeps.set7 {w0 w : World} {g : Nat} (h : Keeps NoB w0 w) (hg : w0.heap.size ≤ g) (v0 v1 v2 v3 v4 v5 v6 : Value) :
    Keeps NoB w0 (((((((w.setCell ⟨g, 0, none⟩ v0).setCell ⟨g, 1, none⟩ v1).setCell ⟨g, 2, none⟩ v2).setCell ⟨g, 3, none⟩ v3).setCell ⟨g, 4, none⟩ v4).setCell ⟨g, 5, none⟩ v5).setCell ⟨g, 6, none⟩ v6) :=
  ((((((h.setCell (p := ⟨g, 0, none⟩) (.inr hg) v0).setCell (p := ⟨g, 1, none⟩) (.inr hg) v1).setCell (p := ⟨g, 2, none⟩) (.inr hg) v2).setCell (p := ⟨g, 3, none⟩) (.inr hg) v3).setCell (p := ⟨g, 4, none⟩) (.inr hg) v4).setCell (p := ⟨g, 5, none⟩) (.inr hg) v5).setCell (p := ⟨g, 6, none⟩) (.inr hg) v6

end Go.Proofs.YtjdbjjjbgibpaaaGreatDoor
