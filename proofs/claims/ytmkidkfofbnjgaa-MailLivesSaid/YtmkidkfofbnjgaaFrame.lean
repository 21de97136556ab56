/- Words that each row of the chapter wants. -/
import Derived.Test.YtmkidkfofbnjgaaRows
import Derived.Test.YtmkidkfofbnjgaaBase
import Derived.ProofKit
import Derived.Deep.Slices
namespace Go.Proofs.Ytmkidkfofbnjgaa
open Go.ChangeShapes Go.WideShapes Go.ChangeAt Go.RowKit

theorem Try.own : ownKnob Try.prog.godebug = none := by kernel_rfl
theorem Try.laidOut : laidOutB Try.prog = true := by kernel_rfl
theorem Try.cells33 : Try.prog.cellsOf 33 = 7 := by kernel_rfl
theorem Try.cells46 : Try.prog.cellsOf 46 = 8 := by kernel_rfl

theorem shut_truth {H : Type} {enc : TypeId × Value → H} {W : World} {base : Nat} {sp : Nat → Bool} {held : Bool} (b : Bool) : DataW.Trod enc Try.prog W base sp held 4 (.bool b) (.lit (.bool b)) [] := ⟨1, by simp [DataW.trod, Value.cells, Try.underlying4]⟩

theorem seven_of {cs : Array Value} (h : cs.size = 7) : ∃ v0 v1 v2 v3 v4 v5 v6, cs = #[v0, v1, v2, v3, v4, v5, v6] := by
  obtain ⟨l⟩ := cs
  simp only [List.size_toArray] at h
  match l, h with
  | [v0, v1, v2, v3, v4, v5, v6], _ => exact ⟨v0, v1, v2, v3, v4, v5, v6, rfl⟩

/-- Cells that lie one behind the other. -/
theorem cells_of {w : World} {base : Nat} {a : Addr} {n : Nat} {cs : List Value} (h : w.cells? base a n = some cs) (hn : 0 < n) : a.spot = none ∧ cs.length = n ∧ ∀ j, j < n → w.cell? ⟨a.block, a.off + j, none⟩ = cs[j]? := by
  obtain ⟨_, hl, hc⟩ := World.cells?_some h
  have h0 := hc 0 hn
  rw [List.getElem?_eq_getElem (by omega)] at h0
  have hs : a.spot = none := by simpa [Addr.add] using World.cell?_spot h0
  refine ⟨hs, hl, fun j hj => ?_⟩
  rw [← hc j hj, Addr.add_eq _ _ hs]
end Go.Proofs.Ytmkidkfofbnjgaa
