/-
  NARROWER THAN 'FOR EVERY INPUT', by the rows' own cells (each row's printed sentence says how): MailLives: loops · MailOrder: loops · MailLooks: loops · MailCopies: loops · MailNil: loops.
  DERIVED. THE GIVEN ROWS OF THIS SEAT. 6 by the template 'for every input the law returns true; each argument reads behind the call as it read before'; 0 by the template 'total and deterministic' (their statements: YtmkidkfofbnjgaaTotals.lean).
  GIVEN WITH THE SEED: the statements are not yours to turn. If you find one false, say at which input.
  Laid BY PROGRAM, IN A SANDBOX (cutbox-rows.mjs): the forced cells as the released guide's own fill.sh prints them over the translation 06c18c0b589dad15… (all of the seat's roots in one cut). By AI agents, Wed Nov 11 2026. No macro, syntax, notation, axiom, sorry.
-/
import Derived.Test.YtmkidkfofbnjgaaChecked
import GoSem.Claim
import GoSem.ClaimJoined
import GoSem.ClaimMapViews
import Derived.JoinedTies
import Derived.KernelRfl
namespace Go.Proofs.Ytmkidkfofbnjgaa
/- THE CELL 'sum', in the pinned program and in every row, IS THE sha256 OF THE DUMP (.gsa) THAT YtmkidkfofbnjgaaProg.lean LOADS. Nothing in Lean hashes anything: it is a label: what it is worth is what the hold of that sum in a sandbox is worth. -/
noncomputable def Try.pinned : Pinned := { name := "ytmkidkfofbnjgaa", sum := "06c18c0b589dad15f8afda0c3edb8bcd8571c1f5e7aa82ccffcd2c8de15d228a", checked := Try.checked }
namespace Rows
def none {H : Type} : Left H := { results := [], args := [] }

/-- 'pigeonholelaw12.MailNumbers': WHATEVER THE INPUT: true; the input reads as it did. -/
def mailNumbersSpec : ChangeSpec := { name := "mailNumbers", fn := fun _ => fun
  | [] => { results := [.lit (.bool true)], args := [] }
  | _ => none }
def mailNumbersRow : OpenClaim := { program := "ytmkidkfofbnjgaa", sum := "06c18c0b589dad15f8afda0c3edb8bcd8571c1f5e7aa82ccffcd2c8de15d228a", func := "pigeonhole/pigeonholelaw12.MailNumbers", spec := "mailNumbers", unfollowed := true, recurses := true, apart := false }
def MailNumbersSaid : Prop := mailNumbersRow.holds Try.pinned (OpenSpec.ofChange mailNumbersSpec)

/-- ITS FALSE NEIGHBOUR: 'it returns false'. Refute it at one input. -/
def mailNumbersWrong : ChangeSpec := { name := "mailNumbers", fn := fun _ => fun
  | [] => { results := [.lit (.bool false)], args := [] }
  | _ => none }
def MailNumbersWrongFalsely : Prop := mailNumbersRow.holds Try.pinned (OpenSpec.ofChange mailNumbersWrong)

/-- 'pigeonholelaw12.MailLives': WHATEVER THE INPUT: true; the input reads as it did. -/
def mailLivesSpec : ChangeSpec := { name := "mailLives", fn := fun _ => fun
  | [d] => { results := [.lit (.bool true)], args := [d] }
  | _ => none }
def mailLivesRow : OpenClaim := { program := "ytmkidkfofbnjgaa", sum := "06c18c0b589dad15f8afda0c3edb8bcd8571c1f5e7aa82ccffcd2c8de15d228a", func := "pigeonhole/pigeonholelaw12.MailLives", spec := "mailLives", unfollowed := true, recurses := true, loops := true, apart := false }
def MailLivesSaid : Prop := mailLivesRow.holds Try.pinned (OpenSpec.ofChange mailLivesSpec)

/-- ITS FALSE NEIGHBOUR: 'it returns false'. Refute it at one input. -/
def mailLivesWrong : ChangeSpec := { name := "mailLives", fn := fun _ => fun
  | [d] => { results := [.lit (.bool false)], args := [d] }
  | _ => none }
def MailLivesWrongFalsely : Prop := mailLivesRow.holds Try.pinned (OpenSpec.ofChange mailLivesWrong)

/-- 'pigeonholelaw12.MailOrder': WHATEVER THE INPUT: true; the input reads as it did. -/
def mailOrderSpec : ChangeSpec := { name := "mailOrder", fn := fun _ => fun
  | [d] => { results := [.lit (.bool true)], args := [d] }
  | _ => none }
def mailOrderRow : OpenClaim := { program := "ytmkidkfofbnjgaa", sum := "06c18c0b589dad15f8afda0c3edb8bcd8571c1f5e7aa82ccffcd2c8de15d228a", func := "pigeonhole/pigeonholelaw12.MailOrder", spec := "mailOrder", unfollowed := true, recurses := true, loops := true, apart := false }
def MailOrderSaid : Prop := mailOrderRow.holds Try.pinned (OpenSpec.ofChange mailOrderSpec)

/-- ITS FALSE NEIGHBOUR: 'it returns false'. Refute it at one input. -/
def mailOrderWrong : ChangeSpec := { name := "mailOrder", fn := fun _ => fun
  | [d] => { results := [.lit (.bool false)], args := [d] }
  | _ => none }
def MailOrderWrongFalsely : Prop := mailOrderRow.holds Try.pinned (OpenSpec.ofChange mailOrderWrong)

/-- 'pigeonholelaw12.MailLooks': WHATEVER THE INPUT: true; the input reads as it did. -/
def mailLooksSpec : ChangeSpec := { name := "mailLooks", fn := fun _ => fun
  | [d1, d2] => { results := [.lit (.bool true)], args := [d1, d2] }
  | _ => none }
def mailLooksRow : OpenClaim := { program := "ytmkidkfofbnjgaa", sum := "06c18c0b589dad15f8afda0c3edb8bcd8571c1f5e7aa82ccffcd2c8de15d228a", func := "pigeonhole/pigeonholelaw12.MailLooks", spec := "mailLooks", unfollowed := true, recurses := true, loops := true, apart := false }
def MailLooksSaid : Prop := mailLooksRow.holds Try.pinned (OpenSpec.ofChange mailLooksSpec)

/-- ITS FALSE NEIGHBOUR: 'it returns false'. Refute it at one input. -/
def mailLooksWrong : ChangeSpec := { name := "mailLooks", fn := fun _ => fun
  | [d1, d2] => { results := [.lit (.bool false)], args := [d1, d2] }
  | _ => none }
def MailLooksWrongFalsely : Prop := mailLooksRow.holds Try.pinned (OpenSpec.ofChange mailLooksWrong)

/-- 'pigeonholelaw12.MailCopies': WHATEVER THE INPUT: true; the input reads as it did. -/
def mailCopiesSpec : ChangeSpec := { name := "mailCopies", fn := fun _ => fun
  | [d1, d2] => { results := [.lit (.bool true)], args := [d1, d2] }
  | _ => none }
def mailCopiesRow : OpenClaim := { program := "ytmkidkfofbnjgaa", sum := "06c18c0b589dad15f8afda0c3edb8bcd8571c1f5e7aa82ccffcd2c8de15d228a", func := "pigeonhole/pigeonholelaw12.MailCopies", spec := "mailCopies", unfollowed := true, recurses := true, loops := true, apart := false }
def MailCopiesSaid : Prop := mailCopiesRow.holds Try.pinned (OpenSpec.ofChange mailCopiesSpec)

/-- ITS FALSE NEIGHBOUR: 'it returns false'. Refute it at one input. -/
def mailCopiesWrong : ChangeSpec := { name := "mailCopies", fn := fun _ => fun
  | [d1, d2] => { results := [.lit (.bool false)], args := [d1, d2] }
  | _ => none }
def MailCopiesWrongFalsely : Prop := mailCopiesRow.holds Try.pinned (OpenSpec.ofChange mailCopiesWrong)

/-- 'pigeonholelaw12.MailNil': WHATEVER THE INPUT: true; the input reads as it did. -/
def mailNilSpec : ChangeSpec := { name := "mailNil", fn := fun _ => fun
  | [d] => { results := [.lit (.bool true)], args := [d] }
  | _ => none }
def mailNilRow : OpenClaim := { program := "ytmkidkfofbnjgaa", sum := "06c18c0b589dad15f8afda0c3edb8bcd8571c1f5e7aa82ccffcd2c8de15d228a", func := "pigeonhole/pigeonholelaw12.MailNil", spec := "mailNil", unfollowed := true, recurses := true, loops := true, apart := false }
def MailNilSaid : Prop := mailNilRow.holds Try.pinned (OpenSpec.ofChange mailNilSpec)

/-- ITS FALSE NEIGHBOUR: 'it returns false'. Refute it at one input. -/
def mailNilWrong : ChangeSpec := { name := "mailNil", fn := fun _ => fun
  | [d] => { results := [.lit (.bool false)], args := [d] }
  | _ => none }
def MailNilWrongFalsely : Prop := mailNilRow.holds Try.pinned (OpenSpec.ofChange mailNilWrong)

/- THE SECOND FORM. 'bulk': how many values and letters a reading holds, each counted each time it is reached (what is shared counts as often as it is met; a slice's spare places count too). A statement '..UptoSaid' is the law's where the arguments, and the package variables that the reading takes, are together of bulk at most 1048576: NARROWER than '..Said'. Prove '..Said' where nothing that the law and all that it calls make is longer than what came in: it says more and counts as full. Else prove '..UptoSaid'. A law counts once. -/
mutual
def uptoBulk {H : Type} : DataW H → Nat
  | .lit (.string bytes) => bytes.length + 1
  | .lit _ => 1
  | .nil => 1
  | .ptr d => uptoBulk d + 1
  | .slice elems spare => uptoBulkAll elems + uptoBulkAll spare + 1
  | .agg parts => uptoBulkAll parts + 1
  | .iface _ d => uptoBulk d + 1
  | .map entries => uptoBulkEntries entries + 1
  | .held _ => 1
def uptoBulkAll {H : Type} : List (DataW H) → Nat
  | [] => 0
  | d :: r => uptoBulk d + uptoBulkAll r
def uptoBulkEntries {H : Type} : List (Lit × DataW H) → Nat
  | [] => 0
  | x :: r => uptoBulkEntry x + uptoBulkEntries r
def uptoBulkEntry {H : Type} : Lit × DataW H → Nat
  | (.string bytes, d) => bytes.length + uptoBulk d + 1
  | (_, d) => uptoBulk d + 1
 end
def uptoSmall : (H : Type) → List (DataW H) → Bool := fun _ ds => decide (uptoBulkAll ds ≤ 1048576)
def OpenSpec.upto (s : _root_.Go.ChangeSpec) : _root_.Go.OpenSpec := { _root_.Go.OpenSpec.ofChange s with cond := some uptoSmall }

/-- 'pigeonholelaw12.MailNumbers', WHERE WHAT IT READS IS OF BULK AT MOST 1048576: true; the input reads as it did. -/
def mailNumbersUptoRow : OpenClaim := { program := "ytmkidkfofbnjgaa", sum := "06c18c0b589dad15f8afda0c3edb8bcd8571c1f5e7aa82ccffcd2c8de15d228a", func := "pigeonhole/pigeonholelaw12.MailNumbers", spec := "mailNumbers", unfollowed := true, recurses := true, apart := false, narrowed := true }
def MailNumbersUptoSaid : Prop := mailNumbersUptoRow.holds Try.pinned (OpenSpec.upto mailNumbersSpec)

/-- 'pigeonholelaw12.MailLives', WHERE WHAT IT READS IS OF BULK AT MOST 1048576: true; the input reads as it did. -/
def mailLivesUptoRow : OpenClaim := { program := "ytmkidkfofbnjgaa", sum := "06c18c0b589dad15f8afda0c3edb8bcd8571c1f5e7aa82ccffcd2c8de15d228a", func := "pigeonhole/pigeonholelaw12.MailLives", spec := "mailLives", unfollowed := true, recurses := true, loops := true, apart := false, narrowed := true }
def MailLivesUptoSaid : Prop := mailLivesUptoRow.holds Try.pinned (OpenSpec.upto mailLivesSpec)

/-- 'pigeonholelaw12.MailOrder', WHERE WHAT IT READS IS OF BULK AT MOST 1048576: true; the input reads as it did. -/
def mailOrderUptoRow : OpenClaim := { program := "ytmkidkfofbnjgaa", sum := "06c18c0b589dad15f8afda0c3edb8bcd8571c1f5e7aa82ccffcd2c8de15d228a", func := "pigeonhole/pigeonholelaw12.MailOrder", spec := "mailOrder", unfollowed := true, recurses := true, loops := true, apart := false, narrowed := true }
def MailOrderUptoSaid : Prop := mailOrderUptoRow.holds Try.pinned (OpenSpec.upto mailOrderSpec)

/-- 'pigeonholelaw12.MailLooks', WHERE WHAT IT READS IS OF BULK AT MOST 1048576: true; the input reads as it did. -/
def mailLooksUptoRow : OpenClaim := { program := "ytmkidkfofbnjgaa", sum := "06c18c0b589dad15f8afda0c3edb8bcd8571c1f5e7aa82ccffcd2c8de15d228a", func := "pigeonhole/pigeonholelaw12.MailLooks", spec := "mailLooks", unfollowed := true, recurses := true, loops := true, apart := false, narrowed := true }
def MailLooksUptoSaid : Prop := mailLooksUptoRow.holds Try.pinned (OpenSpec.upto mailLooksSpec)

/-- 'pigeonholelaw12.MailCopies', WHERE WHAT IT READS IS OF BULK AT MOST 1048576: true; the input reads as it did. -/
def mailCopiesUptoRow : OpenClaim := { program := "ytmkidkfofbnjgaa", sum := "06c18c0b589dad15f8afda0c3edb8bcd8571c1f5e7aa82ccffcd2c8de15d228a", func := "pigeonhole/pigeonholelaw12.MailCopies", spec := "mailCopies", unfollowed := true, recurses := true, loops := true, apart := false, narrowed := true }
def MailCopiesUptoSaid : Prop := mailCopiesUptoRow.holds Try.pinned (OpenSpec.upto mailCopiesSpec)

/-- 'pigeonholelaw12.MailNil', WHERE WHAT IT READS IS OF BULK AT MOST 1048576: true; the input reads as it did. -/
def mailNilUptoRow : OpenClaim := { program := "ytmkidkfofbnjgaa", sum := "06c18c0b589dad15f8afda0c3edb8bcd8571c1f5e7aa82ccffcd2c8de15d228a", func := "pigeonhole/pigeonholelaw12.MailNil", spec := "mailNil", unfollowed := true, recurses := true, loops := true, apart := false, narrowed := true }
def MailNilUptoSaid : Prop := mailNilUptoRow.holds Try.pinned (OpenSpec.upto mailNilSpec)

end Rows
end Go.Proofs.Ytmkidkfofbnjgaa
