/- Slices of slices: what each of them reads as. -/
import Derived.Test.YtdmldipnalklgaaTmBase
import Derived.Deep.QuietTactic
import Derived.BigQuiet
import Derived.Deep.LoopGhost
import Derived.Lib.Walk
import Derived.Lib.SliceRun
import Derived.Lib.AppendZerosOnto
namespace Go.Proofs.Ytdmldipnalklgaa
open Go.RowKit

/-- Cells that are slices, and what each of these reads as. -/
def HeadsAt (w : World) (B : Nat → Prop) (F : Bool) (size : Nat) : List Value → List (List Value) → Prop
  | [], [] => True
  | v :: vs, xs :: xss => (∃ A n c, v = .slice A n c ∧ Reads w B F size A n xs) ∧ HeadsAt w B F size vs xss
  | [], _ :: _ => False
  | _ :: _, [] => False

theorem HeadsAt.len {w : World} {B : Nat → Prop} {F : Bool} {size : Nat} : ∀ {vs : List Value} {xss : List (List Value)}, HeadsAt w B F size vs xss → vs.length = xss.length
  | [], [], _ => rfl
  | v :: vs, xs :: xss, h => by unfold HeadsAt at h; simp [HeadsAt.len h.2]
  | [], _ :: _, h => by unfold HeadsAt at h; exact h.elim
  | _ :: _, [], h => by unfold HeadsAt at h; exact h.elim
theorem HeadsAt.at {w : World} {B : Nat → Prop} {F : Bool} {size : Nat} : ∀ {vs : List Value} {xss : List (List Value)}, HeadsAt w B F size vs xss → ∀ k, k < vs.length → ∃ A n c xs, vs[k]? = some (.slice A n c) ∧ xss[k]? = some xs ∧ Reads w B F size A n xs
  | [], _, _, k, hk => by simp at hk
  | v :: vs, xs :: xss, h, k, hk => by
    unfold HeadsAt at h
    cases k with
    | zero =>
      obtain ⟨A, n, c, rfl, hr⟩ := h.1
      exact ⟨A, n, c, xs, rfl, rfl, hr⟩
    | succ k => exact HeadsAt.at h.2 k (by simpa using hk)
  | _ :: _, [], h, _, _ => by unfold HeadsAt at h; exact h.elim
theorem HeadsAt.keep {w w' : World} {B : Nat → Prop} {F : Bool} {size : Nat} {fp : Nat → Prop} (hk : Keeps fp w w') (hf : ∀ k, B k → ¬ fp k) : ∀ {vs : List Value} {xss : List (List Value)}, HeadsAt w B F size vs xss → HeadsAt w' B F size vs xss
  | [], [], _ => by unfold HeadsAt; trivial
  | v :: vs, xs :: xss, h => by
    unfold HeadsAt at h ⊢
    obtain ⟨⟨A, n, c, e, hr⟩, h2⟩ := h
    exact ⟨⟨A, n, c, e, hr.keep hk hf⟩, HeadsAt.keep hk hf h2⟩
  | [], _ :: _, h => by unfold HeadsAt at h; exact h.elim
  | _ :: _, [], h => by unfold HeadsAt at h; exact h.elim
theorem heads_take {xss : List (List Value)} {k : Nat} {xs : List Value} (h : xss[k]? = some xs) : (xss.take (k + 1)).flatten = (xss.take k).flatten ++ xs := by
  rw [List.take_add_one, h, List.flatten_append]; simp
theorem heads_take_le (xss : List (List Value)) (k : Nat) : (xss.take k).flatten.length ≤ xss.flatten.length := by
  have h : xss.flatten = (xss.take k).flatten ++ (xss.drop k).flatten := by rw [← List.flatten_append, List.take_append_drop]
  rw [h, List.length_append]; omega
end Go.Proofs.Ytdmldipnalklgaa
