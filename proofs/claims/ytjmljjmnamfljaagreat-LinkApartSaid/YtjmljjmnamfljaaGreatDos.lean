/- Steps in a row; among; a process's number. -/
import Derived.Test.YtjmljjmnamfljaaGreatAwake
import Derived.Deep.CutRange
import Derived.Deep.CutBlock
import Derived.Deep.DeepCutAuto
namespace Go.Proofs.YtjmljjmnamfljaaGreat
set_option maxRecDepth 100000
open Go.RowKit Go.Maps

/-- Steps: number, two processes, a ref. -/
structure Dx where
  op : Int
  a : Int
  b : Int
  ref : Int
def DosAt (w : World) (A : Option Addr) (n : Nat) (D : List Dx) : Prop := D.length = n ∧ ∀ (i : Nat) (x : Dx), D[i]? = some x → (IntOk x.a ∧ IntOk x.b ∧ IntOk x.ref) ∧ ∃ b o, A = some ⟨b, o, none⟩ ∧ w.cell? ⟨b, o + i * 4, none⟩ = some (.int .i64 x.op) ∧ w.cell? ⟨b, o + i * 4 + 1, none⟩ = some (.int .i64 x.a) ∧ w.cell? ⟨b, o + i * 4 + 2, none⟩ = some (.int .i64 x.b) ∧ w.cell? ⟨b, o + i * 4 + 3, none⟩ = some (.int .i64 x.ref)
theorem DosAt.keep {w w' : World} {A : Option Addr} {n : Nat} {D : List Dx} (h : DosAt w A n D) (hk : Keeps NoB w w') : DosAt w' A n D := ⟨h.1, fun i x hx => by
  obtain ⟨h0, b, o, h2, h3, h4, h5, h6⟩ := h.2 i x hx
  exact ⟨h0, b, o, h2, hk.cell id h3, hk.cell id h4, hk.cell id h5, hk.cell id h6⟩⟩
theorem DosAt.pre {w : World} {A : Option Addr} {n m : Nat} {D : List Dx} (h : DosAt w A n D) (hm : m ≤ n) : DosAt w A m (D.take m) :=
  ⟨by rw [List.length_take, h.1]; omega, fun i x hx => h.2 i x (by rw [List.getElem?_take] at hx; split at hx; exact hx; cases hx)⟩

theorem ints_at {w : World} {B : Nat → Prop} {F : Bool} {A : Option Addr} {n k : Nat} {l : List Int} {x : Int} (h : Reads w B F 1 A n (l.map (Value.int .i64))) (hx : l[k]? = some x) : ∃ g o, A = some ⟨g, o, none⟩ ∧ w.cell? ⟨g, o + k, none⟩ = some (.int .i64 x) := by
  have hin := (List.getElem?_eq_some_iff.1 hx).1
  have hn : l.length = n := by have := h.1; rw [List.length_map] at this; omega
  obtain ⟨⟨g, o, sp⟩, hA, hs, _, _, hc⟩ := h.2 (by omega)
  simp only at hs
  subst hs
  exact ⟨g, o, hA, (hc k (.int .i64 x) (by rw [List.getElem?_map, hx]; rfl)).1⟩

theorem ok_mid {p : Int} (h : -9223372036854775808 ≤ p ∧ p ≤ 9223372036854775807) : IntOk p := by
  show (decide (-9223372036854775808 ≤ p) && decide (p ≤ 9223372036854775807)) = true
  rw [decide_eq_true h.1, decide_eq_true h.2]; rfl
theorem goW_len (x : Mon) (M : List Mon) : (goW x M).length ≤ M.length + 1 := by unfold goW; split; exact Nat.le_of_eq (insM_len _ _); omega
theorem goX_len (r p : Int) (M : List Mon) : (goX r p M).length ≤ M.length := by unfold goX; split; exact List.length_filter_le _ _; exact Nat.le_refl _
end Go.Proofs.YtjmljjmnamfljaaGreat
