/-
  DERIVED. GIVEN WITH THE SEED: THE CARDS: each row of YtincajfanhanjaaDoorRows.lean that lists a variable, with what it lists TIED to the program's text (the seventh form; the later family's looks); each row that meets fmt, with fmt's text TOLD by the authors' own Lean function (tested against real Go, not proved from fmt's source: count such statements apart). THE CARD IS WHAT COUNTS. Prove the row's statement (the work); the ties are given (YtincajfanhanjaaDoorTie.lean); close each card by the builder's one call (the guide's Derived/Test/ToyasCard.lean, 'card_holds'). Laid BY PROGRAM, IN A SANDBOX (cutbox-door.mjs). By AI agents, Wed Nov 11 2026. No macro, syntax, notation, axiom, sorry.
-/
import Derived.Test.YtincajfanhanjaaDoorRows
import GoSem.ClaimSeven
namespace Go.Proofs.YtincajfanhanjaaDoor
namespace Rows

/-- THE TIED CARD OF 'pigeonholelaw07.LintKinds'. -/
def lintKindsCard : Claim7 := { stood := { row := lintKindsRow, standIns := [], harness := (true, "739761222c01a5362e4ee35ee2277c91171364d043947d98e7f9650418648e70"), looks := true }, kinds := [], alts := [], laidByText := true, laidKinds := [.data, .data, .data, .pinned], laidTests := true, laidLooks := .later }
def LintKindsCardSaid : Prop := Claim7.holds Tryd.pinned (.plain (OpenSpec.ofChange lintKindsSpec)) lintKindsCard

/-- THE TIED CARD OF 'pigeonholelaw07.LintNumbers'. -/
def lintNumbersCard : Claim7 := { stood := { row := lintNumbersRow, standIns := [], harness := (true, "739761222c01a5362e4ee35ee2277c91171364d043947d98e7f9650418648e70"), looks := true }, kinds := [], alts := [], laidByText := true, laidKinds := [.data, .data, .data, .pinned], laidTests := true, laidLooks := .later }
def LintNumbersCardSaid : Prop := Claim7.holds Tryd.pinned (.plain (OpenSpec.ofChange lintNumbersSpec)) lintNumbersCard

/-- THE TIED CARD OF 'pigeonholelaw07.LintNames'. -/
def lintNamesCard : Claim7 := { stood := { row := lintNamesRow, standIns := [], harness := (true, "739761222c01a5362e4ee35ee2277c91171364d043947d98e7f9650418648e70"), looks := true }, kinds := [], alts := [], laidByText := true, laidKinds := [.data, .data, .data, .pinned], laidTests := true, laidLooks := .later }
def LintNamesCardSaid : Prop := Claim7.holds Tryd.pinned (.plain (OpenSpec.ofChange lintNamesSpec)) lintNamesCard

/-- THE TIED CARD OF 'pigeonholelaw07.LintParts'. -/
def lintPartsCard : Claim7 := { stood := { row := lintPartsRow, standIns := [], harness := (true, "739761222c01a5362e4ee35ee2277c91171364d043947d98e7f9650418648e70"), looks := true }, kinds := [], alts := [], laidByText := true, laidKinds := [.data, .data, .data, .pinned], laidTests := true, laidLooks := .later }
def LintPartsCardSaid : Prop := Claim7.holds Tryd.pinned (.plain (OpenSpec.ofChange lintPartsSpec)) lintPartsCard

/-- THE SECOND FORM's CARD OF 'pigeonholelaw07.LintKinds'. -/
def lintKindsUptoCard : Claim7 := { stood := { row := lintKindsUptoRow, standIns := [], harness := (true, "739761222c01a5362e4ee35ee2277c91171364d043947d98e7f9650418648e70"), looks := true }, kinds := [], alts := [], laidByText := true, laidKinds := [.data, .data, .data, .pinned], laidTests := true, laidLooks := .later }
def LintKindsUptoCardSaid : Prop := Claim7.holds Tryd.pinned (.plain (OpenSpec.upto lintKindsSpec)) lintKindsUptoCard

/-- THE SECOND FORM's CARD OF 'pigeonholelaw07.LintNumbers'. -/
def lintNumbersUptoCard : Claim7 := { stood := { row := lintNumbersUptoRow, standIns := [], harness := (true, "739761222c01a5362e4ee35ee2277c91171364d043947d98e7f9650418648e70"), looks := true }, kinds := [], alts := [], laidByText := true, laidKinds := [.data, .data, .data, .pinned], laidTests := true, laidLooks := .later }
def LintNumbersUptoCardSaid : Prop := Claim7.holds Tryd.pinned (.plain (OpenSpec.upto lintNumbersSpec)) lintNumbersUptoCard

/-- THE SECOND FORM's CARD OF 'pigeonholelaw07.LintNames'. -/
def lintNamesUptoCard : Claim7 := { stood := { row := lintNamesUptoRow, standIns := [], harness := (true, "739761222c01a5362e4ee35ee2277c91171364d043947d98e7f9650418648e70"), looks := true }, kinds := [], alts := [], laidByText := true, laidKinds := [.data, .data, .data, .pinned], laidTests := true, laidLooks := .later }
def LintNamesUptoCardSaid : Prop := Claim7.holds Tryd.pinned (.plain (OpenSpec.upto lintNamesSpec)) lintNamesUptoCard

/-- THE SECOND FORM's CARD OF 'pigeonholelaw07.LintParts'. -/
def lintPartsUptoCard : Claim7 := { stood := { row := lintPartsUptoRow, standIns := [], harness := (true, "739761222c01a5362e4ee35ee2277c91171364d043947d98e7f9650418648e70"), looks := true }, kinds := [], alts := [], laidByText := true, laidKinds := [.data, .data, .data, .pinned], laidTests := true, laidLooks := .later }
def LintPartsUptoCardSaid : Prop := Claim7.holds Tryd.pinned (.plain (OpenSpec.upto lintPartsSpec)) lintPartsUptoCard
end Rows
end Go.Proofs.YtincajfanhanjaaDoor
