/-
  NARROWER THAN 'FOR EVERY INPUT', by the rows' own cells (each row's printed sentence says how): MatchFills: loops, laid · MatchAlso: loops, laid.
  DERIVED. THE GIVEN ROWS OF THIS SEAT. 2 by the template 'for every input the law returns true; each argument reads behind the call as it read before'; 0 by the template 'total and deterministic' (their statements: YtjdbjjjbgibpaaaGreatDoorTotals.lean).
  GIVEN WITH THE SEED: the statements are not yours to turn. If you find one false, say at which input.
  Laid BY PROGRAM, IN A SANDBOX (cutbox-rows.mjs): the forced cells as the released guide's own fill.sh prints them over the translation e53ce21ee4c6619a… (all of the seat's roots in one cut). By AI agents, Wed Nov 11 2026. No macro, syntax, notation, axiom, sorry.
-/
import Derived.Test.YtjdbjjjbgibpaaaGreatDoorChecked
import GoSem.PinnedTables
import GoSem.Claim
import GoSem.ClaimJoined
import GoSem.ClaimMapViews
import Derived.JoinedTies
import Derived.KernelRfl
namespace Go.Proofs.YtjdbjjjbgibpaaaGreatDoor
/- THE CELL 'sum', in the pinned program and in every row, IS THE sha256 OF THE DUMP (.gsa) THAT YtjdbjjjbgibpaaaGreatDoorProg.lean LOADS. Nothing in Lean hashes anything: it is a label: what it is worth is what the hold of that sum in a sandbox is worth. -/
noncomputable def Tryz.pinned : Pinned := { name := "ytjdbjjjbgibpaaagreatdoor", sum := "e53ce21ee4c6619a1e5044e761b1a0262528715bf6639a02d137c54db113ef7b", checked := Tryz.checked }
namespace Rows
def none {H : Type} : Left H := { results := [], args := [] }

/- WHAT THE LISTED PACKAGE-LEVEL VARIABLES READ AS WHEN THE CALL BEGINS. Each datum BY PROGRAM (the guide's laid-datum.mjs) off the statement by which the dump's own 'gosem.cut.vars' lays the variable. In a bare row this is a premise. The card (YtjdbjjjbgibpaaaGreatDoorCards.lean) ties it to the program's text. -/
def laid_unicode_utf8_acceptRanges {H : Type} : DataW H := .agg [.agg [.lit (.int .u8 128), .lit (.int .u8 191)], .agg [.lit (.int .u8 160), .lit (.int .u8 191)], .agg [.lit (.int .u8 128), .lit (.int .u8 159)], .agg [.lit (.int .u8 144), .lit (.int .u8 191)], .agg [.lit (.int .u8 128), .lit (.int .u8 143)], .agg [.lit (.int .u8 0), .lit (.int .u8 0)], .agg [.lit (.int .u8 0), .lit (.int .u8 0)], .agg [.lit (.int .u8 0), .lit (.int .u8 0)], .agg [.lit (.int .u8 0), .lit (.int .u8 0)], .agg [.lit (.int .u8 0), .lit (.int .u8 0)], .agg [.lit (.int .u8 0), .lit (.int .u8 0)], .agg [.lit (.int .u8 0), .lit (.int .u8 0)], .agg [.lit (.int .u8 0), .lit (.int .u8 0)], .agg [.lit (.int .u8 0), .lit (.int .u8 0)], .agg [.lit (.int .u8 0), .lit (.int .u8 0)], .agg [.lit (.int .u8 0), .lit (.int .u8 0)]]
def laid_pigeonhole_lint_builtin {H : Type} : DataW H := .agg [.agg [.lit (.string []), .lit (.string []), .lit (.string []), .lit (.string [])], .agg [.lit (.string []), .lit (.string [116, 117, 112, 108, 101, 95, 116, 111, 95, 108, 105, 115, 116, 32, 108, 105, 115, 116, 95, 116, 111, 95, 116, 117, 112, 108, 101, 32, 97, 116, 111, 109, 95, 116, 111, 95, 108, 105, 115, 116, 32, 108, 105, 115, 116, 95, 116, 111, 95, 97, 116, 111, 109, 32, 105, 110, 116, 101, 103, 101, 114, 95, 116, 111, 95, 108, 105, 115, 116, 32, 108, 105, 115, 116, 95, 116, 111, 95, 105, 110, 116, 101, 103, 101, 114, 32, 114, 101, 118, 101, 114, 115, 101, 32, 115, 117, 109, 32, 115, 111, 114, 116, 32, 117, 115, 111, 114, 116, 32, 108, 97, 115, 116, 32, 116, 104, 114, 111, 119, 32, 101, 114, 114, 111, 114, 32, 101, 120, 105, 116]), .lit (.string [43, 43, 32, 45, 45, 32, 109, 97, 120, 32, 109, 105, 110, 32, 110, 116, 104, 32, 110, 116, 104, 116, 97, 105, 108, 32, 109, 101, 109, 98, 101, 114, 32, 115, 101, 113]), .lit (.string [115, 101, 116, 101, 108, 101, 109, 101, 110, 116])], .agg [.lit (.string []), .lit (.string [43, 32, 45, 32, 110, 111, 116, 32, 97, 98, 115, 32, 104, 100, 32, 116, 108, 32, 108, 101, 110, 103, 116, 104, 32, 116, 117, 112, 108, 101, 95, 115, 105, 122, 101, 32, 105, 115, 95, 105, 110, 116, 101, 103, 101, 114, 32, 105, 115, 95, 97, 116, 111, 109, 32, 105, 115, 95, 116, 117, 112, 108, 101, 32, 105, 115, 95, 108, 105, 115, 116, 32, 105, 115, 95, 112, 105, 100, 32, 105, 115, 95, 114, 101, 102, 101, 114, 101, 110, 99, 101, 32, 105, 115, 95, 102, 117, 110, 99, 116, 105, 111, 110, 32, 105, 115, 95, 98, 111, 111, 108, 101, 97, 110]), .lit (.string [43, 32, 45, 32, 42, 32, 100, 105, 118, 32, 114, 101, 109, 32, 61, 61, 32, 47, 61, 32, 61, 58, 61, 32, 61, 47, 61, 32, 60, 32, 61, 60, 32, 62, 32, 62, 61, 32, 97, 110, 100, 32, 111, 114, 32, 120, 111, 114, 32, 101, 108, 101, 109, 101, 110, 116, 32, 105, 115, 95, 102, 117, 110, 99, 116, 105, 111, 110]), .lit (.string [])], .agg [.lit (.string [115, 101, 108, 102, 32, 109, 97, 107, 101, 95, 114, 101, 102, 32, 110, 111, 119]), .lit (.string [115, 112, 97, 119, 110, 32, 115, 112, 97, 119, 110, 95, 108, 105, 110, 107, 32, 115, 112, 97, 119, 110, 95, 109, 111, 110, 105, 116, 111, 114, 32, 108, 105, 110, 107, 32, 117, 110, 108, 105, 110, 107, 32, 109, 111, 110, 105, 116, 111, 114, 32, 100, 101, 109, 111, 110, 105, 116, 111, 114, 32, 116, 114, 97, 112, 95, 101, 120, 105, 116, 32, 117, 110, 114, 101, 103, 105, 115, 116, 101, 114, 32, 119, 104, 101, 114, 101, 105, 115, 32, 112, 114, 105, 110, 116]), .lit (.string [33, 32, 101, 120, 105, 116, 32, 114, 101, 103, 105, 115, 116, 101, 114]), .lit (.string [])]]
def laid_pigeonhole_bif_kinds {H : Type} : DataW H := .agg [.agg [.lit (.string [105, 115, 95, 105, 110, 116, 101, 103, 101, 114]), .lit (.int .u8 1)], .agg [.lit (.string [105, 115, 95, 97, 116, 111, 109]), .lit (.int .u8 2)], .agg [.lit (.string [105, 115, 95, 116, 117, 112, 108, 101]), .lit (.int .u8 6)], .agg [.lit (.string [105, 115, 95, 108, 105, 115, 116]), .lit (.int .u8 7)], .agg [.lit (.string [105, 115, 95, 112, 105, 100]), .lit (.int .u8 5)], .agg [.lit (.string [105, 115, 95, 114, 101, 102, 101, 114, 101, 110, 99, 101]), .lit (.int .u8 3)], .agg [.lit (.string [105, 115, 95, 102, 117, 110, 99, 116, 105, 111, 110]), .lit (.int .u8 4)]]
/-- One of Go's own tables, pinned by name: the form's constant. -/
def laid_unicode_utf8_first : DataW Unit := Go.Pinned.utf8First

/-- 'pigeonholelaw11.MatchFills': WHATEVER THE INPUT: true; the input reads as it did. -/
def matchFillsSpec : ChangeSpec := { name := "matchFills", fn := fun _ => fun
  | [d1, d2, d3] => { results := [.lit (.bool true)], args := [d1, d2, d3] }
  | _ => none }
def matchFillsRow : OpenClaim := { program := "ytjdbjjjbgibpaaagreatdoor", sum := "e53ce21ee4c6619a1e5044e761b1a0262528715bf6639a02d137c54db113ef7b", func := "pigeonhole/pigeonholelaw11.MatchFills", spec := "matchFills", inPlace := ["internal/bytealg.IndexByteString", "internal/bytealg.IndexString", "internal/abi.NoEscape"], unfollowed := true, recurses := true, named := ["pigeonhole/lint.builtin", "internal/bytealg.MaxLen", "pigeonhole/bif.kinds", "math/bits.overflowError", "unicode/utf8.first", "unicode/utf8.acceptRanges"], loops := true, apart := false, laid := [("unicode/utf8.acceptRanges", laid_unicode_utf8_acceptRanges), ("pigeonhole/lint.builtin", laid_pigeonhole_lint_builtin), ("pigeonhole/bif.kinds", laid_pigeonhole_bif_kinds), ("unicode/utf8.first", laid_unicode_utf8_first)] }
def MatchFillsSaid : Prop := matchFillsRow.holds Tryz.pinned (OpenSpec.ofChange matchFillsSpec)

/-- ITS FALSE NEIGHBOUR: 'it returns false'. Refute it at one input. -/
def matchFillsWrong : ChangeSpec := { name := "matchFills", fn := fun _ => fun
  | [d1, d2, d3] => { results := [.lit (.bool false)], args := [d1, d2, d3] }
  | _ => none }
def MatchFillsWrongFalsely : Prop := matchFillsRow.holds Tryz.pinned (OpenSpec.ofChange matchFillsWrong)

/-- 'pigeonholelaw11.MatchAlso': WHATEVER THE INPUT: true; the input reads as it did. -/
def matchAlsoSpec : ChangeSpec := { name := "matchAlso", fn := fun _ => fun
  | [d1, d2, d3, d4] => { results := [.lit (.bool true)], args := [d1, d2, d3, d4] }
  | _ => none }
def matchAlsoRow : OpenClaim := { program := "ytjdbjjjbgibpaaagreatdoor", sum := "e53ce21ee4c6619a1e5044e761b1a0262528715bf6639a02d137c54db113ef7b", func := "pigeonhole/pigeonholelaw11.MatchAlso", spec := "matchAlso", inPlace := ["internal/bytealg.IndexByteString", "internal/bytealg.IndexString", "internal/abi.NoEscape"], unfollowed := true, recurses := true, named := ["pigeonhole/lint.builtin", "internal/bytealg.MaxLen", "pigeonhole/bif.kinds", "math/bits.overflowError", "unicode/utf8.first", "unicode/utf8.acceptRanges"], loops := true, apart := false, laid := [("unicode/utf8.acceptRanges", laid_unicode_utf8_acceptRanges), ("pigeonhole/lint.builtin", laid_pigeonhole_lint_builtin), ("pigeonhole/bif.kinds", laid_pigeonhole_bif_kinds), ("unicode/utf8.first", laid_unicode_utf8_first)] }
def MatchAlsoSaid : Prop := matchAlsoRow.holds Tryz.pinned (OpenSpec.ofChange matchAlsoSpec)

/-- ITS FALSE NEIGHBOUR: 'it returns false'. Refute it at one input. -/
def matchAlsoWrong : ChangeSpec := { name := "matchAlso", fn := fun _ => fun
  | [d1, d2, d3, d4] => { results := [.lit (.bool false)], args := [d1, d2, d3, d4] }
  | _ => none }
def MatchAlsoWrongFalsely : Prop := matchAlsoRow.holds Tryz.pinned (OpenSpec.ofChange matchAlsoWrong)

/- THE SECOND FORM. 'bulk': how many values and letters a reading holds, each counted each time it is reached (what is shared counts as often as it is met; a slice's spare places count too). A statement '..UptoSaid' is the law's where the arguments, and the package variables that the reading takes, are together of bulk at most 1048576: NARROWER than '..Said'. Prove '..Said' where nothing that the law and all that it calls make is longer than what came in: it says more and counts as full. Else prove '..UptoSaid'. A law counts once. -/
mutual
def uptoBulk {H : Type} : DataW H → Nat
  | .lit (.string bytes) => bytes.length + 1
  | .lit _ => 1
  | .nil => 1
  | .ptr d => uptoBulk d + 1
  | .slice elems spare => uptoBulkAll elems + uptoBulkAll spare + 1
  | .agg parts => uptoBulkAll parts + 1
  | .iface _ d => uptoBulk d + 1
  | .map entries => uptoBulkEntries entries + 1
  | .held _ => 1
def uptoBulkAll {H : Type} : List (DataW H) → Nat
  | [] => 0
  | d :: r => uptoBulk d + uptoBulkAll r
def uptoBulkEntries {H : Type} : List (Lit × DataW H) → Nat
  | [] => 0
  | x :: r => uptoBulkEntry x + uptoBulkEntries r
def uptoBulkEntry {H : Type} : Lit × DataW H → Nat
  | (.string bytes, d) => bytes.length + uptoBulk d + 1
  | (_, d) => uptoBulk d + 1
 end
def uptoSmall : (H : Type) → List (DataW H) → Bool := fun _ ds => decide (uptoBulkAll ds ≤ 1048576)
def OpenSpec.upto (s : _root_.Go.ChangeSpec) : _root_.Go.OpenSpec := { _root_.Go.OpenSpec.ofChange s with cond := some uptoSmall }

/-- 'pigeonholelaw11.MatchFills', WHERE WHAT IT READS IS OF BULK AT MOST 1048576: true; the input reads as it did. -/
def matchFillsUptoRow : OpenClaim := { program := "ytjdbjjjbgibpaaagreatdoor", sum := "e53ce21ee4c6619a1e5044e761b1a0262528715bf6639a02d137c54db113ef7b", func := "pigeonhole/pigeonholelaw11.MatchFills", spec := "matchFills", inPlace := ["internal/bytealg.IndexByteString", "internal/bytealg.IndexString", "internal/abi.NoEscape"], unfollowed := true, recurses := true, named := ["pigeonhole/lint.builtin", "internal/bytealg.MaxLen", "pigeonhole/bif.kinds", "math/bits.overflowError", "unicode/utf8.first", "unicode/utf8.acceptRanges"], loops := true, apart := false, laid := [("unicode/utf8.acceptRanges", laid_unicode_utf8_acceptRanges), ("pigeonhole/lint.builtin", laid_pigeonhole_lint_builtin), ("pigeonhole/bif.kinds", laid_pigeonhole_bif_kinds), ("unicode/utf8.first", laid_unicode_utf8_first)], narrowed := true }
def MatchFillsUptoSaid : Prop := matchFillsUptoRow.holds Tryz.pinned (OpenSpec.upto matchFillsSpec)

/-- 'pigeonholelaw11.MatchAlso', WHERE WHAT IT READS IS OF BULK AT MOST 1048576: true; the input reads as it did. -/
def matchAlsoUptoRow : OpenClaim := { program := "ytjdbjjjbgibpaaagreatdoor", sum := "e53ce21ee4c6619a1e5044e761b1a0262528715bf6639a02d137c54db113ef7b", func := "pigeonhole/pigeonholelaw11.MatchAlso", spec := "matchAlso", inPlace := ["internal/bytealg.IndexByteString", "internal/bytealg.IndexString", "internal/abi.NoEscape"], unfollowed := true, recurses := true, named := ["pigeonhole/lint.builtin", "internal/bytealg.MaxLen", "pigeonhole/bif.kinds", "math/bits.overflowError", "unicode/utf8.first", "unicode/utf8.acceptRanges"], loops := true, apart := false, laid := [("unicode/utf8.acceptRanges", laid_unicode_utf8_acceptRanges), ("pigeonhole/lint.builtin", laid_pigeonhole_lint_builtin), ("pigeonhole/bif.kinds", laid_pigeonhole_bif_kinds), ("unicode/utf8.first", laid_unicode_utf8_first)], narrowed := true }
def MatchAlsoUptoSaid : Prop := matchAlsoUptoRow.holds Tryz.pinned (OpenSpec.upto matchAlsoSpec)

end Rows
end Go.Proofs.YtjdbjjjbgibpaaaGreatDoor
