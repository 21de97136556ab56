/- A term's size, and whether it is right (term.size, as the program tells it). -/
import Derived.Test.YtdmldipnalklgaaTmBase
namespace Go.Proofs.Ytdmldipnalklgaa

/-- whole.Right, of a tree. -/
def intT (k : Int) (ng : Bool) (limbs : List Int) (text : ByteArray) (num : Int) (im tm : Nat) : Bool :=
  decide (k = 1) && decide (text = ByteArray.empty) && decide (num = 0) && decide (im + tm = 0) && decide (limbs.length ≤ 32) && (if limbs.length = 0 then !ng else decide (limbs.getD (limbs.length - 1) 0 ≠ 0))
/-- What is asked of a term that is no integer, ahead of its items. -/
def headT (k : Int) (ng : Bool) (limbs : List Int) (text : ByteArray) (num : Int) (items tail : List Tm) : Bool :=
  !ng && decide (limbs.length = 0) &&
    (if k = 2 then decide (num = 0) && decide (items.length = 0) && decide (tail.length = 0) && decide (text.size ≤ 40)
    else decide (text = ByteArray.empty) &&
      (if k = 3 ∨ k = 5 then decide (items.length = 0) && decide (tail.length = 0) && decide (0 ≤ num) && decide (num ≤ 1099511627776)
      else if k = 4 then decide (tail.length = 0) && decide (0 ≤ num) && decide (num ≤ 16384)
      else if k = 6 then decide (num = 0) && decide (tail.length = 0)
      else if k = 7 then decide (num = 0) && decide (tail.length ≤ 1) && decide (tail.length ≤ items.length) && tail.all (fun x => decide (x.kind ≠ 7))
      else false))
def baseT (k : Int) : Int := if k = 4 then 2 else 1
def eachT (k : Int) : Int := if k = 7 then 1 else 0
mutual
def sizeT : Tm → Int
  | .mk k ng limbs text num items tail =>
    if k = 1 then (if intT k ng limbs text num items.length tail.length then 1 + limbs.length else 0)
    else if headT k ng limbs text num items tail then
      match addT (baseT k) (eachT k) items with
      | none => 0
      | some n => match addT n 0 tail with
        | none => 0
        | some m => m
    else 0
def addT (n each : Int) : List Tm → Option Int
  | [] => some n
  | x :: l => if 0 < sizeT x ∧ n + sizeT x + each ≤ 4096 then addT (n + sizeT x + each) each l else none
end
def rightT (t : Tm) : Bool := decide (0 < sizeT t)
end Go.Proofs.Ytdmldipnalklgaa
