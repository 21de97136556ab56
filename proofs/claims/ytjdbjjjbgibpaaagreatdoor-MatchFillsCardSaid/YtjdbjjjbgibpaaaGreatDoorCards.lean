/-
  DERIVED. GIVEN WITH THE SEED: THE CARDS: each row of YtjdbjjjbgibpaaaGreatDoorRows.lean that lists a variable, with what it lists TIED to the program's text (the seventh form; the later family's looks); each row that meets fmt, with fmt's text TOLD by the authors' own Lean function (tested against real Go, not proved from fmt's source: count such statements apart). THE CARD IS WHAT COUNTS. Prove the row's statement (the work); the ties are given (YtjdbjjjbgibpaaaGreatDoorTie.lean); close each card by the builder's one call (the guide's Derived/Test/ToyasCard.lean, 'card_holds'). Laid BY PROGRAM, IN A SANDBOX (cutbox-door.mjs). By AI agents, Wed Nov 11 2026. No macro, syntax, notation, axiom, sorry.
-/
import Derived.Test.YtjdbjjjbgibpaaaGreatDoorRows
import GoSem.ClaimSeven
namespace Go.Proofs.YtjdbjjjbgibpaaaGreatDoor
namespace Rows

/-- THE TIED CARD OF 'pigeonholelaw11.MatchFills'. -/
def matchFillsCard : Claim7 := { stood := { row := matchFillsRow, standIns := [], harness := (true, "aa31bec234ddfb74f88fcf3d3d75c5b4d6e1b13d798478012ca6977f7577178b"), looks := false }, kinds := [], alts := [], laidByText := true, laidKinds := [.data, .data, .data, .pinned], laidTests := true, laidLooks := .later }
def MatchFillsCardSaid : Prop := Claim7.holds Tryz.pinned (.plain (OpenSpec.ofChange matchFillsSpec)) matchFillsCard

/-- THE TIED CARD OF 'pigeonholelaw11.MatchAlso'. -/
def matchAlsoCard : Claim7 := { stood := { row := matchAlsoRow, standIns := [], harness := (true, "aa31bec234ddfb74f88fcf3d3d75c5b4d6e1b13d798478012ca6977f7577178b"), looks := false }, kinds := [], alts := [], laidByText := true, laidKinds := [.data, .data, .data, .pinned], laidTests := true, laidLooks := .later }
def MatchAlsoCardSaid : Prop := Claim7.holds Tryz.pinned (.plain (OpenSpec.ofChange matchAlsoSpec)) matchAlsoCard

/-- THE SECOND FORM's CARD OF 'pigeonholelaw11.MatchFills'. -/
def matchFillsUptoCard : Claim7 := { stood := { row := matchFillsUptoRow, standIns := [], harness := (true, "aa31bec234ddfb74f88fcf3d3d75c5b4d6e1b13d798478012ca6977f7577178b"), looks := false }, kinds := [], alts := [], laidByText := true, laidKinds := [.data, .data, .data, .pinned], laidTests := true, laidLooks := .later }
def MatchFillsUptoCardSaid : Prop := Claim7.holds Tryz.pinned (.plain (OpenSpec.upto matchFillsSpec)) matchFillsUptoCard

/-- THE SECOND FORM's CARD OF 'pigeonholelaw11.MatchAlso'. -/
def matchAlsoUptoCard : Claim7 := { stood := { row := matchAlsoUptoRow, standIns := [], harness := (true, "aa31bec234ddfb74f88fcf3d3d75c5b4d6e1b13d798478012ca6977f7577178b"), looks := false }, kinds := [], alts := [], laidByText := true, laidKinds := [.data, .data, .data, .pinned], laidTests := true, laidLooks := .later }
def MatchAlsoUptoCardSaid : Prop := Claim7.holds Tryz.pinned (.plain (OpenSpec.upto matchAlsoSpec)) matchAlsoUptoCard
end Rows
end Go.Proofs.YtjdbjjjbgibpaaaGreatDoor
