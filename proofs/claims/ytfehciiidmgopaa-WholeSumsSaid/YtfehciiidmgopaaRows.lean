/-
  NARROWER THAN 'FOR EVERY INPUT', by the rows' own cells (each row's printed sentence says how): WholeProducts: loops · WholeTexts: loops · WholeBack: loops · WholeRest: loops · WholeLaws: loops · WholeSums: loops.
  DERIVED. THE GIVEN ROWS OF THIS SEAT. 6 by the template 'for every input the law returns true; each argument reads behind the call as it read before'; 0 by the template 'total and deterministic' (their statements: YtfehciiidmgopaaTotals.lean).
  GIVEN WITH THE SEED: the statements are not yours to turn. If you find one false, say at which input.
  Laid BY PROGRAM, IN A SANDBOX (cutbox-rows.mjs): the forced cells as the released guide's own fill.sh prints them over the translation 1330c54ba7db9c1c… (all of the seat's roots in one cut). By AI agents, Wed Nov 11 2026. No macro, syntax, notation, axiom, sorry.
-/
import Derived.Test.YtfehciiidmgopaaChecked
import GoSem.Claim
import GoSem.ClaimJoined
import GoSem.ClaimMapViews
import Derived.JoinedTies
import Derived.KernelRfl
namespace Go.Proofs.Ytfehciiidmgopaa
/- THE CELL 'sum', in the pinned program and in every row, IS THE sha256 OF THE DUMP (.gsa) THAT YtfehciiidmgopaaProg.lean LOADS. Nothing in Lean hashes anything: it is a label: what it is worth is what the hold of that sum in a sandbox is worth. -/
noncomputable def Try.pinned : Pinned := { name := "ytfehciiidmgopaa", sum := "1330c54ba7db9c1cb35cff76d894f0cdcce86f08e24a1b48acd24fbbf57b2841", checked := Try.checked }
namespace Rows
def none {H : Type} : Left H := { results := [], args := [] }

/-- 'pigeonholelaw01.WholeProducts': WHATEVER THE INPUT: true; the input reads as it did. -/
def wholeProductsSpec : ChangeSpec := { name := "wholeProducts", fn := fun _ => fun
  | [d1, d2] => { results := [.lit (.bool true)], args := [d1, d2] }
  | _ => none }
def wholeProductsRow : OpenClaim := { program := "ytfehciiidmgopaa", sum := "1330c54ba7db9c1cb35cff76d894f0cdcce86f08e24a1b48acd24fbbf57b2841", func := "pigeonhole/pigeonholelaw01.WholeProducts", spec := "wholeProducts", unfollowed := true, recurses := true, named := ["math/bits.overflowError"], loops := true, apart := false }
def WholeProductsSaid : Prop := wholeProductsRow.holds Try.pinned (OpenSpec.ofChange wholeProductsSpec)

/-- ITS FALSE NEIGHBOUR: 'it returns false'. Refute it at one input. -/
def wholeProductsWrong : ChangeSpec := { name := "wholeProducts", fn := fun _ => fun
  | [d1, d2] => { results := [.lit (.bool false)], args := [d1, d2] }
  | _ => none }
def WholeProductsWrongFalsely : Prop := wholeProductsRow.holds Try.pinned (OpenSpec.ofChange wholeProductsWrong)

/-- 'pigeonholelaw01.WholeTexts': WHATEVER THE INPUT: true; the input reads as it did. -/
def wholeTextsSpec : ChangeSpec := { name := "wholeTexts", fn := fun _ => fun
  | [d1, d2, d3] => { results := [.lit (.bool true)], args := [d1, d2, d3] }
  | _ => none }
def wholeTextsRow : OpenClaim := { program := "ytfehciiidmgopaa", sum := "1330c54ba7db9c1cb35cff76d894f0cdcce86f08e24a1b48acd24fbbf57b2841", func := "pigeonhole/pigeonholelaw01.WholeTexts", spec := "wholeTexts", unfollowed := true, recurses := true, named := ["math/bits.overflowError"], loops := true, apart := false }
def WholeTextsSaid : Prop := wholeTextsRow.holds Try.pinned (OpenSpec.ofChange wholeTextsSpec)

/-- ITS FALSE NEIGHBOUR: 'it returns false'. Refute it at one input. -/
def wholeTextsWrong : ChangeSpec := { name := "wholeTexts", fn := fun _ => fun
  | [d1, d2, d3] => { results := [.lit (.bool false)], args := [d1, d2, d3] }
  | _ => none }
def WholeTextsWrongFalsely : Prop := wholeTextsRow.holds Try.pinned (OpenSpec.ofChange wholeTextsWrong)

/-- 'pigeonholelaw01.WholeBack': WHATEVER THE INPUT: true; the input reads as it did. -/
def wholeBackSpec : ChangeSpec := { name := "wholeBack", fn := fun _ => fun
  | [d1, d2, d3] => { results := [.lit (.bool true)], args := [d1, d2, d3] }
  | _ => none }
def wholeBackRow : OpenClaim := { program := "ytfehciiidmgopaa", sum := "1330c54ba7db9c1cb35cff76d894f0cdcce86f08e24a1b48acd24fbbf57b2841", func := "pigeonhole/pigeonholelaw01.WholeBack", spec := "wholeBack", unfollowed := true, recurses := true, named := ["math/bits.overflowError"], loops := true, apart := false }
def WholeBackSaid : Prop := wholeBackRow.holds Try.pinned (OpenSpec.ofChange wholeBackSpec)

/-- ITS FALSE NEIGHBOUR: 'it returns false'. Refute it at one input. -/
def wholeBackWrong : ChangeSpec := { name := "wholeBack", fn := fun _ => fun
  | [d1, d2, d3] => { results := [.lit (.bool false)], args := [d1, d2, d3] }
  | _ => none }
def WholeBackWrongFalsely : Prop := wholeBackRow.holds Try.pinned (OpenSpec.ofChange wholeBackWrong)

/-- 'pigeonholelaw01.WholeRest': WHATEVER THE INPUT: true; the input reads as it did. -/
def wholeRestSpec : ChangeSpec := { name := "wholeRest", fn := fun _ => fun
  | [d1, d2] => { results := [.lit (.bool true)], args := [d1, d2] }
  | _ => none }
def wholeRestRow : OpenClaim := { program := "ytfehciiidmgopaa", sum := "1330c54ba7db9c1cb35cff76d894f0cdcce86f08e24a1b48acd24fbbf57b2841", func := "pigeonhole/pigeonholelaw01.WholeRest", spec := "wholeRest", unfollowed := true, recurses := true, named := ["math/bits.overflowError"], loops := true, apart := false }
def WholeRestSaid : Prop := wholeRestRow.holds Try.pinned (OpenSpec.ofChange wholeRestSpec)

/-- ITS FALSE NEIGHBOUR: 'it returns false'. Refute it at one input. -/
def wholeRestWrong : ChangeSpec := { name := "wholeRest", fn := fun _ => fun
  | [d1, d2] => { results := [.lit (.bool false)], args := [d1, d2] }
  | _ => none }
def WholeRestWrongFalsely : Prop := wholeRestRow.holds Try.pinned (OpenSpec.ofChange wholeRestWrong)

/-- 'pigeonholelaw01.WholeLaws': WHATEVER THE INPUT: true; the input reads as it did. -/
def wholeLawsSpec : ChangeSpec := { name := "wholeLaws", fn := fun _ => fun
  | [d1, d2, d3] => { results := [.lit (.bool true)], args := [d1, d2, d3] }
  | _ => none }
def wholeLawsRow : OpenClaim := { program := "ytfehciiidmgopaa", sum := "1330c54ba7db9c1cb35cff76d894f0cdcce86f08e24a1b48acd24fbbf57b2841", func := "pigeonhole/pigeonholelaw01.WholeLaws", spec := "wholeLaws", unfollowed := true, recurses := true, named := ["math/bits.overflowError"], loops := true, apart := false }
def WholeLawsSaid : Prop := wholeLawsRow.holds Try.pinned (OpenSpec.ofChange wholeLawsSpec)

/-- ITS FALSE NEIGHBOUR: 'it returns false'. Refute it at one input. -/
def wholeLawsWrong : ChangeSpec := { name := "wholeLaws", fn := fun _ => fun
  | [d1, d2, d3] => { results := [.lit (.bool false)], args := [d1, d2, d3] }
  | _ => none }
def WholeLawsWrongFalsely : Prop := wholeLawsRow.holds Try.pinned (OpenSpec.ofChange wholeLawsWrong)

/-- 'pigeonholelaw01.WholeSums': WHATEVER THE INPUT: true; the input reads as it did. -/
def wholeSumsSpec : ChangeSpec := { name := "wholeSums", fn := fun _ => fun
  | [d1, d2] => { results := [.lit (.bool true)], args := [d1, d2] }
  | _ => none }
def wholeSumsRow : OpenClaim := { program := "ytfehciiidmgopaa", sum := "1330c54ba7db9c1cb35cff76d894f0cdcce86f08e24a1b48acd24fbbf57b2841", func := "pigeonhole/pigeonholelaw01.WholeSums", spec := "wholeSums", unfollowed := true, recurses := true, named := ["math/bits.overflowError"], loops := true, apart := false }
def WholeSumsSaid : Prop := wholeSumsRow.holds Try.pinned (OpenSpec.ofChange wholeSumsSpec)

/-- ITS FALSE NEIGHBOUR: 'it returns false'. Refute it at one input. -/
def wholeSumsWrong : ChangeSpec := { name := "wholeSums", fn := fun _ => fun
  | [d1, d2] => { results := [.lit (.bool false)], args := [d1, d2] }
  | _ => none }
def WholeSumsWrongFalsely : Prop := wholeSumsRow.holds Try.pinned (OpenSpec.ofChange wholeSumsWrong)

/- THE SECOND FORM. 'bulk': how many values and letters a reading holds, each counted each time it is reached (what is shared counts as often as it is met; a slice's spare places count too). A statement '..UptoSaid' is the law's where the arguments, and the package variables that the reading takes, are together of bulk at most 1048576: NARROWER than '..Said'. Prove '..Said' where nothing that the law and all that it calls make is longer than what came in: it says more and counts as full. Else prove '..UptoSaid'. A law counts once. -/
mutual
def uptoBulk {H : Type} : DataW H → Nat
  | .lit (.string bytes) => bytes.length + 1
  | .lit _ => 1
  | .nil => 1
  | .ptr d => uptoBulk d + 1
  | .slice elems spare => uptoBulkAll elems + uptoBulkAll spare + 1
  | .agg parts => uptoBulkAll parts + 1
  | .iface _ d => uptoBulk d + 1
  | .map entries => uptoBulkEntries entries + 1
  | .held _ => 1
def uptoBulkAll {H : Type} : List (DataW H) → Nat
  | [] => 0
  | d :: r => uptoBulk d + uptoBulkAll r
def uptoBulkEntries {H : Type} : List (Lit × DataW H) → Nat
  | [] => 0
  | x :: r => uptoBulkEntry x + uptoBulkEntries r
def uptoBulkEntry {H : Type} : Lit × DataW H → Nat
  | (.string bytes, d) => bytes.length + uptoBulk d + 1
  | (_, d) => uptoBulk d + 1
 end
def uptoSmall : (H : Type) → List (DataW H) → Bool := fun _ ds => decide (uptoBulkAll ds ≤ 1048576)
def OpenSpec.upto (s : _root_.Go.ChangeSpec) : _root_.Go.OpenSpec := { _root_.Go.OpenSpec.ofChange s with cond := some uptoSmall }

/-- 'pigeonholelaw01.WholeProducts', WHERE WHAT IT READS IS OF BULK AT MOST 1048576: true; the input reads as it did. -/
def wholeProductsUptoRow : OpenClaim := { program := "ytfehciiidmgopaa", sum := "1330c54ba7db9c1cb35cff76d894f0cdcce86f08e24a1b48acd24fbbf57b2841", func := "pigeonhole/pigeonholelaw01.WholeProducts", spec := "wholeProducts", unfollowed := true, recurses := true, named := ["math/bits.overflowError"], loops := true, apart := false, narrowed := true }
def WholeProductsUptoSaid : Prop := wholeProductsUptoRow.holds Try.pinned (OpenSpec.upto wholeProductsSpec)

/-- 'pigeonholelaw01.WholeTexts', WHERE WHAT IT READS IS OF BULK AT MOST 1048576: true; the input reads as it did. -/
def wholeTextsUptoRow : OpenClaim := { program := "ytfehciiidmgopaa", sum := "1330c54ba7db9c1cb35cff76d894f0cdcce86f08e24a1b48acd24fbbf57b2841", func := "pigeonhole/pigeonholelaw01.WholeTexts", spec := "wholeTexts", unfollowed := true, recurses := true, named := ["math/bits.overflowError"], loops := true, apart := false, narrowed := true }
def WholeTextsUptoSaid : Prop := wholeTextsUptoRow.holds Try.pinned (OpenSpec.upto wholeTextsSpec)

/-- 'pigeonholelaw01.WholeBack', WHERE WHAT IT READS IS OF BULK AT MOST 1048576: true; the input reads as it did. -/
def wholeBackUptoRow : OpenClaim := { program := "ytfehciiidmgopaa", sum := "1330c54ba7db9c1cb35cff76d894f0cdcce86f08e24a1b48acd24fbbf57b2841", func := "pigeonhole/pigeonholelaw01.WholeBack", spec := "wholeBack", unfollowed := true, recurses := true, named := ["math/bits.overflowError"], loops := true, apart := false, narrowed := true }
def WholeBackUptoSaid : Prop := wholeBackUptoRow.holds Try.pinned (OpenSpec.upto wholeBackSpec)

/-- 'pigeonholelaw01.WholeRest', WHERE WHAT IT READS IS OF BULK AT MOST 1048576: true; the input reads as it did. -/
def wholeRestUptoRow : OpenClaim := { program := "ytfehciiidmgopaa", sum := "1330c54ba7db9c1cb35cff76d894f0cdcce86f08e24a1b48acd24fbbf57b2841", func := "pigeonhole/pigeonholelaw01.WholeRest", spec := "wholeRest", unfollowed := true, recurses := true, named := ["math/bits.overflowError"], loops := true, apart := false, narrowed := true }
def WholeRestUptoSaid : Prop := wholeRestUptoRow.holds Try.pinned (OpenSpec.upto wholeRestSpec)

/-- 'pigeonholelaw01.WholeLaws', WHERE WHAT IT READS IS OF BULK AT MOST 1048576: true; the input reads as it did. -/
def wholeLawsUptoRow : OpenClaim := { program := "ytfehciiidmgopaa", sum := "1330c54ba7db9c1cb35cff76d894f0cdcce86f08e24a1b48acd24fbbf57b2841", func := "pigeonhole/pigeonholelaw01.WholeLaws", spec := "wholeLaws", unfollowed := true, recurses := true, named := ["math/bits.overflowError"], loops := true, apart := false, narrowed := true }
def WholeLawsUptoSaid : Prop := wholeLawsUptoRow.holds Try.pinned (OpenSpec.upto wholeLawsSpec)

/-- 'pigeonholelaw01.WholeSums', WHERE WHAT IT READS IS OF BULK AT MOST 1048576: true; the input reads as it did. -/
def wholeSumsUptoRow : OpenClaim := { program := "ytfehciiidmgopaa", sum := "1330c54ba7db9c1cb35cff76d894f0cdcce86f08e24a1b48acd24fbbf57b2841", func := "pigeonhole/pigeonholelaw01.WholeSums", spec := "wholeSums", unfollowed := true, recurses := true, named := ["math/bits.overflowError"], loops := true, apart := false, narrowed := true }
def WholeSumsUptoSaid : Prop := wholeSumsUptoRow.holds Try.pinned (OpenSpec.upto wholeSumsSpec)

end Rows
end Go.Proofs.Ytfehciiidmgopaa
