/- Which trees may be (node.Right), as plain functions on trees. -/
import Derived.Test.YtincajfanhanjaaDoorNdBase
namespace Go.Proofs.YtincajfanhanjaaDoor

def lettered (c : UInt8) : Bool := (97 ≤ c && c ≤ 122) || (65 ≤ c && c ≤ 90) || (48 ≤ c && c ≤ 57) || c == 95 || c == 64
def unaryW : List (List UInt8) := [[45], [43], [110, 111, 116]]
def binaryW : List (List UInt8) := [[33], [111, 114, 101, 108, 115, 101], [97, 110, 100, 97, 108, 115, 111], [61, 61], [47, 61], [61, 58, 61], [61, 47, 61], [60], [61, 60], [62], [62, 61], [43, 43], [45, 45], [43], [45], [111, 114], [120, 111, 114], [42], [100, 105, 118], [114, 101, 109], [97, 110, 100]]
/-- node.worded: what a text is, of kids so many. -/
def wordedN (k : Int) (tx : List UInt8) (kids : Nat) : Bool :=
  if k = 110 then decide (tx.length ≤ 40)
  else if k = 115 then decide (tx.length ≤ 400)
  else if k = 100 then !tx.isEmpty && decide (tx.length ≤ 400) && tx.all (fun c => 48 ≤ c && c ≤ 57)
  else if k = 118 then !tx.isEmpty && decide (tx.length ≤ 40) && (match tx with | [] => false | c :: _ => (65 ≤ c && c ≤ 90) || c == 95) && tx.tail.all lettered
  else if k = 111 then !tx.isEmpty && !tx.contains 32 && (if kids = 2 then decide (tx ∈ binaryW) else decide (tx ∈ unaryW))
  else tx.isEmpty
/-- node.shapes: text, kids, number, least, most (-1: any). -/
def shapeN (k : Int) : Option (Int × Int × Int × Nat × Int) :=
  if k = 1 then some (100, 0, 0, 0, 0) else if k = 2 then some (110, 0, 0, 0, 0) else if k = 3 then some (118, 0, 0, 0, 0) else if k = 4 then some (115, 0, 0, 0, 0)
  else if k = 5 then some (0, 105, 0, 0, -1) else if k = 6 then some (0, 105, 1, 0, -1) else if k = 7 then some (111, 105, 0, 1, 2) else if k = 8 then some (0, 105, 0, 2, 2)
  else if k = 9 then some (0, 105, 0, 1, -1) else if k = 10 then some (0, 99, 0, 1, -1) else if k = 11 then some (110, 0, 255, 0, 0) else if k = 12 then some (0, 101, 0, 2, -1)
  else if k = 13 then some (0, 103, 0, 1, -1) else if k = 14 then some (0, 114, 1, 1, -1) else if k = 16 then some (0, 116, 0, 2, -1) else if k = 17 then some (0, 113, 0, 2, -1)
  else if k = 19 then some (0, 105, 0, 1, -1) else none
/-- An item's head: all but its kids. -/
def itemH (k : Int) (tx : List UInt8) (num pl : Int) (kids : Nat) : Bool :=
  decide (0 ≤ pl) && (match shapeN k with
    | none => false
    | some (t, _, m, least, most) => decide (0 ≤ num) && decide (num ≤ m) && decide (least ≤ kids) && (decide (most < 0) || decide ((kids : Int) ≤ most)) && !(decide (k = 6) && decide (num = 1) && decide (kids < 2)) && wordedN t tx kids)
def plainN (n : Nd) (k : Int) : Bool := decide (n.kind = k) && n.text.data.toList.isEmpty && decide (n.num = 0) && decide (0 ≤ n.place)
/-- The kids' modes of an item: those of the first ones, and of all others. -/
def kidsM (k num : Int) (kids : Nat) : List Nat × Nat :=
  if k = 10 then ([], 2) else if k = 12 then ([0], 3) else if k = 13 then ([], 4) else if k = 14 then (List.replicate (kids - num.toNat) 3, 6) else if k = 16 then ([1], 5) else if k = 17 then ([0], 7) else ([], 0)
mutual
/-- node.item (0), body (1), clause (2), single (3), guarded (4), caught (5), after (6), qualifies (7), a clause's patterns (8), its guards (9). -/
def okM (m : Nat) : Nd → Bool
  | .mk k tx num pl kids =>
    let n : Nd := .mk k tx num pl kids
    if m = 0 then itemH k tx.data.toList num pl kids.length && okAs (kidsM k num kids.length).1 (kidsM k num kids.length).2 kids
    else if m = 1 then decide (k = 19) && itemH k tx.data.toList num pl kids.length && okAs (kidsM k num kids.length).1 (kidsM k num kids.length).2 kids
    else if m = 6 then plainN n 15 && decide (kids.length = 2) && okAs [0] 1 kids
    else if m = 7 then (itemH k tx.data.toList num pl kids.length && okAs (kidsM k num kids.length).1 (kidsM k num kids.length).2 kids) || (plainN n 18 && decide (kids.length = 2) && okAs [] 0 kids)
    else if m = 8 then plainN n 19 && okAs [] 0 kids
    else if m = 9 then plainN n 19 && okAs [] 1 kids
    else plainN n 20 && decide (kids.length = 3) && okAs [8, 9] 1 kids &&
      (if m = 2 then true
      else if m = 4 then decide ((kids.getD 0 n).kids.length = 0) && decide (0 < (kids.getD 1 n).kids.length)
      else decide ((kids.getD 0 n).kids.length = 1) && (if m = 3 then true else
        decide (((kids.getD 0 n).kids.getD 0 n).kind = 5) && decide (((kids.getD 0 n).kids.getD 0 n).kids.length = 2) &&
          (decide ((((kids.getD 0 n).kids.getD 0 n).kids.getD 0 n).kind = 2) || decide ((((kids.getD 0 n).kids.getD 0 n).kids.getD 0 n).kind = 3))))
def okAs (ms : List Nat) (d : Nat) : List Nd → Bool
  | [] => true
  | t :: ts => okM (ms.headD d) t && okAs ms.tail d ts
end
mutual
def deepN : Nd → Nat
  | .mk _ _ _ _ kids => deepsN kids + 1
def deepsN : List Nd → Nat
  | [] => 0
  | t :: ts => max (deepN t) (deepsN ts)
end
mutual
def manyN : Nd → Nat
  | .mk _ _ _ _ kids => manysN kids + 1
def manysN : List Nd → Nat
  | [] => 0
  | t :: ts => manyN t + manysN ts
end
def functionN (n : Nd) : Bool := decide (n.kind = 21) && decide (0 ≤ n.place) && decide (n.text.size ≤ 40) && !n.kids.isEmpty && okAs [] 2 n.kids && decide (n.num = ((n.kids.getD 0 n).kids.getD 0 n).kids.length)
def moduleN (n : Nd) : Bool := plainN n 22 && n.kids.all functionN
def rightN (n : Nd) : Bool := (moduleN n || okM 0 n) && decide (deepN n ≤ 50) && decide (manyN n ≤ 16384)
end Go.Proofs.YtincajfanhanjaaDoor
