/-
  DERIVED. GIVEN WITH THE SEED: THE CARDS: each row of YthbbalkhmofndaaGreatDoorRows.lean that lists a variable, with what it lists TIED to the program's text (the seventh form; the later family's looks); each row that meets fmt, with fmt's text TOLD by the authors' own Lean function (tested against real Go, not proved from fmt's source: count such statements apart). THE CARD IS WHAT COUNTS. Prove the row's statement (the work); the ties are given (YthbbalkhmofndaaGreatDoorTie.lean); close each card by the builder's one call (the guide's Derived/Test/ToyasCard.lean, 'card_holds'). Laid BY PROGRAM, IN A SANDBOX (cutbox-door.mjs). By AI agents, Wed Nov 11 2026. No macro, syntax, notation, axiom, sorry.
-/
import Derived.Test.YthbbalkhmofndaaGreatDoorRows
import GoSem.ClaimSeven
namespace Go.Proofs.YthbbalkhmofndaaGreatDoor
namespace Rows

/-- THE TIED CARD OF 'pigeonholelaw10.BifOrder'. -/
def bifOrderCard : Claim7 := { stood := { row := bifOrderRow, standIns := [], harness := (true, "e74b1e6f907bdb62d827e882e4bb6bf6468ec4d830c9418f1c94479f5ed898d5"), looks := false }, kinds := [], alts := [], laidByText := true, laidKinds := [.data, .data, .data, .pinned], laidTests := true, laidLooks := .later }
def BifOrderCardSaid : Prop := Claim7.holds Tryz.pinned (.plain (OpenSpec.ofChange bifOrderSpec)) bifOrderCard

/-- THE TIED CARD OF 'pigeonholelaw10.BifWhole'. -/
def bifWholeCard : Claim7 := { stood := { row := bifWholeRow, standIns := [], harness := (true, "e74b1e6f907bdb62d827e882e4bb6bf6468ec4d830c9418f1c94479f5ed898d5"), looks := false }, kinds := [], alts := [], laidByText := true, laidKinds := [.data, .data, .data, .pinned], laidTests := true, laidLooks := .later }
def BifWholeCardSaid : Prop := Claim7.holds Tryz.pinned (.plain (OpenSpec.ofChange bifWholeSpec)) bifWholeCard

/-- THE SECOND FORM's CARD OF 'pigeonholelaw10.BifOrder'. -/
def bifOrderUptoCard : Claim7 := { stood := { row := bifOrderUptoRow, standIns := [], harness := (true, "e74b1e6f907bdb62d827e882e4bb6bf6468ec4d830c9418f1c94479f5ed898d5"), looks := false }, kinds := [], alts := [], laidByText := true, laidKinds := [.data, .data, .data, .pinned], laidTests := true, laidLooks := .later }
def BifOrderUptoCardSaid : Prop := Claim7.holds Tryz.pinned (.plain (OpenSpec.upto bifOrderSpec)) bifOrderUptoCard

/-- THE SECOND FORM's CARD OF 'pigeonholelaw10.BifWhole'. -/
def bifWholeUptoCard : Claim7 := { stood := { row := bifWholeUptoRow, standIns := [], harness := (true, "e74b1e6f907bdb62d827e882e4bb6bf6468ec4d830c9418f1c94479f5ed898d5"), looks := false }, kinds := [], alts := [], laidByText := true, laidKinds := [.data, .data, .data, .pinned], laidTests := true, laidLooks := .later }
def BifWholeUptoCardSaid : Prop := Claim7.holds Tryz.pinned (.plain (OpenSpec.upto bifWholeSpec)) bifWholeUptoCard
end Rows
end Go.Proofs.YthbbalkhmofndaaGreatDoor
