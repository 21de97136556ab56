/-
  No cell of these rows narrows 'for every input' (looked for: loops, veiled, ifaces, maps, wideKeys, modest, calm, conditions, laid).
  DERIVED. THE GIVEN ROWS OF THIS SEAT. 5 by the template 'for every input the law returns true; each argument reads behind the call as it read before'; 0 by the template 'total and deterministic' (their statements: YtaiphjgklfioeaaTotals.lean).
  GIVEN WITH THE SEED: the statements are not yours to turn. If you find one false, say at which input.
  Laid BY PROGRAM, IN A SANDBOX (cutbox-rows.mjs): the forced cells as the released guide's own fill.sh prints them over the translation 12483e7ec9e75603… (all of the seat's roots in one cut). By AI agents, Wed Nov 11 2026. No macro, syntax, notation, axiom, sorry.
-/
import Derived.Test.YtaiphjgklfioeaaChecked
import GoSem.Claim
import GoSem.ClaimJoined
import GoSem.ClaimMapViews
import Derived.JoinedTies
import Derived.KernelRfl
namespace Go.Proofs.Ytaiphjgklfioeaa
/- THE CELL 'sum', in the pinned program and in every row, IS THE sha256 OF THE DUMP (.gsa) THAT YtaiphjgklfioeaaProg.lean LOADS. Nothing in Lean hashes anything: it is a label: what it is worth is what the hold of that sum in a sandbox is worth. -/
noncomputable def Try.pinned : Pinned := { name := "ytaiphjgklfioeaa", sum := "12483e7ec9e75603cc54acc3c97d0f635e809e252c93b87ee84b7100f585deec", checked := Try.checked }
namespace Rows
def none {H : Type} : Left H := { results := [], args := [] }

/-- 'pigeonholelaw16.ClockParts': WHATEVER THE INPUT: true; the input reads as it did. -/
def clockPartsSpec : ChangeSpec := { name := "clockParts", fn := fun _ => fun
  | [d1, d2, d3] => { results := [.lit (.bool true)], args := [d1, d2, d3] }
  | _ => none }
def clockPartsRow : OpenClaim := { program := "ytaiphjgklfioeaa", sum := "12483e7ec9e75603cc54acc3c97d0f635e809e252c93b87ee84b7100f585deec", func := "pigeonhole/pigeonholelaw16.ClockParts", spec := "clockParts", inPlace := ["slices.overlaps[pigeonhole/clock.wait]"], unfollowed := true, recurses := true, apart := false }
def ClockPartsSaid : Prop := clockPartsRow.holds Try.pinned (OpenSpec.ofChange clockPartsSpec)

/-- ITS FALSE NEIGHBOUR: 'it returns false'. Refute it at one input. -/
def clockPartsWrong : ChangeSpec := { name := "clockParts", fn := fun _ => fun
  | [d1, d2, d3] => { results := [.lit (.bool false)], args := [d1, d2, d3] }
  | _ => none }
def ClockPartsWrongFalsely : Prop := clockPartsRow.holds Try.pinned (OpenSpec.ofChange clockPartsWrong)

/-- 'pigeonholelaw16.ClockLives': WHATEVER THE INPUT: true; the input reads as it did. -/
def clockLivesSpec : ChangeSpec := { name := "clockLives", fn := fun _ => fun
  | [d] => { results := [.lit (.bool true)], args := [d] }
  | _ => none }
def clockLivesRow : OpenClaim := { program := "ytaiphjgklfioeaa", sum := "12483e7ec9e75603cc54acc3c97d0f635e809e252c93b87ee84b7100f585deec", func := "pigeonhole/pigeonholelaw16.ClockLives", spec := "clockLives", inPlace := ["slices.overlaps[pigeonhole/clock.wait]"], unfollowed := true, recurses := true, apart := false }
def ClockLivesSaid : Prop := clockLivesRow.holds Try.pinned (OpenSpec.ofChange clockLivesSpec)

/-- ITS FALSE NEIGHBOUR: 'it returns false'. Refute it at one input. -/
def clockLivesWrong : ChangeSpec := { name := "clockLives", fn := fun _ => fun
  | [d] => { results := [.lit (.bool false)], args := [d] }
  | _ => none }
def ClockLivesWrongFalsely : Prop := clockLivesRow.holds Try.pinned (OpenSpec.ofChange clockLivesWrong)

/-- 'pigeonholelaw16.ClockNil': WHATEVER THE INPUT: true; the input reads as it did. -/
def clockNilSpec : ChangeSpec := { name := "clockNil", fn := fun _ => fun
  | [d1, d2] => { results := [.lit (.bool true)], args := [d1, d2] }
  | _ => none }
def clockNilRow : OpenClaim := { program := "ytaiphjgklfioeaa", sum := "12483e7ec9e75603cc54acc3c97d0f635e809e252c93b87ee84b7100f585deec", func := "pigeonhole/pigeonholelaw16.ClockNil", spec := "clockNil", inPlace := ["slices.overlaps[pigeonhole/clock.wait]"], unfollowed := true, recurses := true, apart := false }
def ClockNilSaid : Prop := clockNilRow.holds Try.pinned (OpenSpec.ofChange clockNilSpec)

/-- ITS FALSE NEIGHBOUR: 'it returns false'. Refute it at one input. -/
def clockNilWrong : ChangeSpec := { name := "clockNil", fn := fun _ => fun
  | [d1, d2] => { results := [.lit (.bool false)], args := [d1, d2] }
  | _ => none }
def ClockNilWrongFalsely : Prop := clockNilRow.holds Try.pinned (OpenSpec.ofChange clockNilWrong)

/-- 'pigeonholelaw16.ClockNumbers': WHATEVER THE INPUT: true; the input reads as it did. -/
def clockNumbersSpec : ChangeSpec := { name := "clockNumbers", fn := fun _ => fun
  | [] => { results := [.lit (.bool true)], args := [] }
  | _ => none }
def clockNumbersRow : OpenClaim := { program := "ytaiphjgklfioeaa", sum := "12483e7ec9e75603cc54acc3c97d0f635e809e252c93b87ee84b7100f585deec", func := "pigeonhole/pigeonholelaw16.ClockNumbers", spec := "clockNumbers", inPlace := ["slices.overlaps[pigeonhole/clock.wait]"], unfollowed := true, recurses := true, apart := false }
def ClockNumbersSaid : Prop := clockNumbersRow.holds Try.pinned (OpenSpec.ofChange clockNumbersSpec)

/-- ITS FALSE NEIGHBOUR: 'it returns false'. Refute it at one input. -/
def clockNumbersWrong : ChangeSpec := { name := "clockNumbers", fn := fun _ => fun
  | [] => { results := [.lit (.bool false)], args := [] }
  | _ => none }
def ClockNumbersWrongFalsely : Prop := clockNumbersRow.holds Try.pinned (OpenSpec.ofChange clockNumbersWrong)

/-- 'pigeonholelaw16.ClockOnce': WHATEVER THE INPUT: true; the input reads as it did. -/
def clockOnceSpec : ChangeSpec := { name := "clockOnce", fn := fun _ => fun
  | [d] => { results := [.lit (.bool true)], args := [d] }
  | _ => none }
def clockOnceRow : OpenClaim := { program := "ytaiphjgklfioeaa", sum := "12483e7ec9e75603cc54acc3c97d0f635e809e252c93b87ee84b7100f585deec", func := "pigeonhole/pigeonholelaw16.ClockOnce", spec := "clockOnce", inPlace := ["slices.overlaps[pigeonhole/clock.wait]"], unfollowed := true, recurses := true, apart := false }
def ClockOnceSaid : Prop := clockOnceRow.holds Try.pinned (OpenSpec.ofChange clockOnceSpec)

/-- ITS FALSE NEIGHBOUR: 'it returns false'. Refute it at one input. -/
def clockOnceWrong : ChangeSpec := { name := "clockOnce", fn := fun _ => fun
  | [d] => { results := [.lit (.bool false)], args := [d] }
  | _ => none }
def ClockOnceWrongFalsely : Prop := clockOnceRow.holds Try.pinned (OpenSpec.ofChange clockOnceWrong)

/- THE SECOND FORM. 'bulk': how many values and letters a reading holds, each counted each time it is reached (what is shared counts as often as it is met; a slice's spare places count too). A statement '..UptoSaid' is the law's where the arguments, and the package variables that the reading takes, are together of bulk at most 1048576: NARROWER than '..Said'. Prove '..Said' where nothing that the law and all that it calls make is longer than what came in: it says more and counts as full. Else prove '..UptoSaid'. A law counts once. -/
mutual
def uptoBulk {H : Type} : DataW H → Nat
  | .lit (.string bytes) => bytes.length + 1
  | .lit _ => 1
  | .nil => 1
  | .ptr d => uptoBulk d + 1
  | .slice elems spare => uptoBulkAll elems + uptoBulkAll spare + 1
  | .agg parts => uptoBulkAll parts + 1
  | .iface _ d => uptoBulk d + 1
  | .map entries => uptoBulkEntries entries + 1
  | .held _ => 1
def uptoBulkAll {H : Type} : List (DataW H) → Nat
  | [] => 0
  | d :: r => uptoBulk d + uptoBulkAll r
def uptoBulkEntries {H : Type} : List (Lit × DataW H) → Nat
  | [] => 0
  | x :: r => uptoBulkEntry x + uptoBulkEntries r
def uptoBulkEntry {H : Type} : Lit × DataW H → Nat
  | (.string bytes, d) => bytes.length + uptoBulk d + 1
  | (_, d) => uptoBulk d + 1
 end
def uptoSmall : (H : Type) → List (DataW H) → Bool := fun _ ds => decide (uptoBulkAll ds ≤ 1048576)
def OpenSpec.upto (s : _root_.Go.ChangeSpec) : _root_.Go.OpenSpec := { _root_.Go.OpenSpec.ofChange s with cond := some uptoSmall }

/-- 'pigeonholelaw16.ClockParts', WHERE WHAT IT READS IS OF BULK AT MOST 1048576: true; the input reads as it did. -/
def clockPartsUptoRow : OpenClaim := { program := "ytaiphjgklfioeaa", sum := "12483e7ec9e75603cc54acc3c97d0f635e809e252c93b87ee84b7100f585deec", func := "pigeonhole/pigeonholelaw16.ClockParts", spec := "clockParts", inPlace := ["slices.overlaps[pigeonhole/clock.wait]"], unfollowed := true, recurses := true, apart := false, narrowed := true }
def ClockPartsUptoSaid : Prop := clockPartsUptoRow.holds Try.pinned (OpenSpec.upto clockPartsSpec)

/-- 'pigeonholelaw16.ClockLives', WHERE WHAT IT READS IS OF BULK AT MOST 1048576: true; the input reads as it did. -/
def clockLivesUptoRow : OpenClaim := { program := "ytaiphjgklfioeaa", sum := "12483e7ec9e75603cc54acc3c97d0f635e809e252c93b87ee84b7100f585deec", func := "pigeonhole/pigeonholelaw16.ClockLives", spec := "clockLives", inPlace := ["slices.overlaps[pigeonhole/clock.wait]"], unfollowed := true, recurses := true, apart := false, narrowed := true }
def ClockLivesUptoSaid : Prop := clockLivesUptoRow.holds Try.pinned (OpenSpec.upto clockLivesSpec)

/-- 'pigeonholelaw16.ClockNil', WHERE WHAT IT READS IS OF BULK AT MOST 1048576: true; the input reads as it did. -/
def clockNilUptoRow : OpenClaim := { program := "ytaiphjgklfioeaa", sum := "12483e7ec9e75603cc54acc3c97d0f635e809e252c93b87ee84b7100f585deec", func := "pigeonhole/pigeonholelaw16.ClockNil", spec := "clockNil", inPlace := ["slices.overlaps[pigeonhole/clock.wait]"], unfollowed := true, recurses := true, apart := false, narrowed := true }
def ClockNilUptoSaid : Prop := clockNilUptoRow.holds Try.pinned (OpenSpec.upto clockNilSpec)

/-- 'pigeonholelaw16.ClockNumbers', WHERE WHAT IT READS IS OF BULK AT MOST 1048576: true; the input reads as it did. -/
def clockNumbersUptoRow : OpenClaim := { program := "ytaiphjgklfioeaa", sum := "12483e7ec9e75603cc54acc3c97d0f635e809e252c93b87ee84b7100f585deec", func := "pigeonhole/pigeonholelaw16.ClockNumbers", spec := "clockNumbers", inPlace := ["slices.overlaps[pigeonhole/clock.wait]"], unfollowed := true, recurses := true, apart := false, narrowed := true }
def ClockNumbersUptoSaid : Prop := clockNumbersUptoRow.holds Try.pinned (OpenSpec.upto clockNumbersSpec)

/-- 'pigeonholelaw16.ClockOnce', WHERE WHAT IT READS IS OF BULK AT MOST 1048576: true; the input reads as it did. -/
def clockOnceUptoRow : OpenClaim := { program := "ytaiphjgklfioeaa", sum := "12483e7ec9e75603cc54acc3c97d0f635e809e252c93b87ee84b7100f585deec", func := "pigeonhole/pigeonholelaw16.ClockOnce", spec := "clockOnce", inPlace := ["slices.overlaps[pigeonhole/clock.wait]"], unfollowed := true, recurses := true, apart := false, narrowed := true }
def ClockOnceUptoSaid : Prop := clockOnceUptoRow.holds Try.pinned (OpenSpec.upto clockOnceSpec)

end Rows
end Go.Proofs.Ytaiphjgklfioeaa
