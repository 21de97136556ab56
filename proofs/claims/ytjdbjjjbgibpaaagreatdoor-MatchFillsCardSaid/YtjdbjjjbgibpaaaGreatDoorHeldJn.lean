/- bif.held: its contract. Printed by mkheld.py. -/
import Derived.Test.YtjdbjjjbgibpaaaGreatDoorBifSJn
namespace Go.Proofs.YtjdbjjjbgibpaaaGreatDoor
set_option maxRecDepth 100000
open Go.RowKit

def HeldP (w : World) (a b : Bool) (e : Ending) (w' : World) : Prop := e = .returned (.tuple #[.bool a, .bool b]) ∧ w' = w
end Go.Proofs.YtjdbjjjbgibpaaaGreatDoor
