/- bif.two, where two terms are held side by side; max, min: contracts. Printed by mktwo.py. -/
import Derived.Test.YtjdbjjjbgibpaaaGreatDoorHeldJn
namespace Go.Proofs.YtjdbjjjbgibpaaaGreatDoor
set_option maxRecDepth 100000
open Go.RowKit

theorem three_tblks (w : World) (t0 t1 t2 : TypeId) (c0 c1 c2 : Array Value) : Blk (((w.alloc (.cells c0 t0)).alloc (.cells c1 t1)).alloc (.cells c2 t2)) w.heap.size t0 c0 ∧ Blk (((w.alloc (.cells c0 t0)).alloc (.cells c1 t1)).alloc (.cells c2 t2)) (w.heap.size + 1) t1 c1 ∧ Blk (((w.alloc (.cells c0 t0)).alloc (.cells c1 t1)).alloc (.cells c2 t2)) (w.heap.size + 1 + 1) t2 c2 := by
  have h := two_tblks w t0 t1 c0 c1
  refine ⟨h.1.alloc _, h.2.alloc _, ?_⟩
  have h3 := Blk.new2 (w.alloc (.cells c0 t0)) (.cells c1 t1) t2 c2
  have e : (w.alloc (.cells c0 t0)).heap.size = w.heap.size + 1 := by simp
  rw [e] at h3
  exact h3
end Go.Proofs.YtjdbjjjbgibpaaaGreatDoor
