/- WholeRest: what the walk leans on. -/
import Derived.Test.YtfehciiidmgopaaLawsLaw
import Derived.Test.YtfehciiidmgopaaSeq3
namespace Go.Proofs.Ytfehciiidmgopaa
open Go.RowKit

theorem rest_eq (x y : Int) : x.tdiv y * y + x.tmod y = x := by rw [Int.mul_comm]; exact Int.mul_tdiv_add_tmod x y
theorem rest_room {x : Int} (h : x.natAbs < Big) (y : Int) : (x.tdiv y * y).natAbs < Big := by
  refine Nat.lt_of_le_of_lt ?_ h
  rw [Int.natAbs_mul, Int.natAbs_tdiv]
  exact Nat.div_mul_le_self _ _
theorem rest_sum {x : Int} (h : x.natAbs < Big) (y : Int) : (x.tdiv y * y + x.tmod y).natAbs < Big := by rw [rest_eq]; exact h
theorem rest_abs (x y : Int) : (x.tmod y).natAbs = x.natAbs % y.natAbs := Int.natAbs_tmod x y
theorem rest_cmp (x : Int) {y : Int} (hy : y ≠ 0) : decide (cmpZ ((x.tmod y).natAbs : Int) (y.natAbs : Int) < 0) = true := by
  have h1 : x.natAbs % y.natAbs < y.natAbs := Nat.mod_lt _ (Int.natAbs_pos.2 hy)
  unfold cmpZ
  rw [rest_abs, if_pos (by omega)]; rfl
theorem rest_sign {ng : Bool} {x y : Int} (h : ng = decide (x < 0)) (hz : x.tmod y ≠ 0) (ngr : Bool) (hr : ngr = decide (x.tmod y < 0)) : ng = ngr := by
  rw [h, hr]
  rcases Int.lt_or_le x 0 with e | e
  · have h1 : x.tmod y ≤ 0 := by
      obtain ⟨a, rfl⟩ : ∃ a : Nat, x = -(a : Int) := ⟨x.natAbs, by omega⟩
      rw [Int.neg_tmod]
      have := Int.tmod_nonneg y (a := (a : Int)) (by omega)
      omega
    rw [decide_eq_true e, decide_eq_true (by omega)]
  · have h1 := Int.tmod_nonneg y e
    rw [decide_eq_false (by omega), decide_eq_false (by omega)]
/-- Behind the two copies. -/
structure RestAt (W0 : World) (gx gy : Nat) (ngx ngy : Bool) (Ax Ay : Option Addr) (nx cx ny cy : Nat) (zx zy : Int) (wx : World) : Prop where
  keep : Keeps NoB W0 wx
  bx : Blk wx gx 26 #[.int .u8 1, .bool ngx, .slice Ax nx cx, .string { data := #[] }, .int .i64 0, .slice none 0 0, .slice none 0 0]
  by' : Blk wx gy 26 #[.int .u8 1, .bool ngy, .slice Ay ny cy, .string { data := #[] }, .int .i64 0, .slice none 0 0, .slice none 0 0]
  ix : IA wx (fun k => ¬ k = gx ∧ ¬ k = gy) ngx Ax nx cx zx
  iy : IA wx (fun k => ¬ k = gx ∧ ¬ k = gy) ngy Ay ny cy zy
  ne : ¬ gx = gy
  lx : W0.heap.size ≤ gx
  ly : W0.heap.size ≤ gy
/-- The sign struck. -/
theorem IA.abs {w : World} {B : Nat → Prop} {ng : Bool} {A : Option Addr} {n c : Nat} {z : Int} (h : IA w B ng A n c z) : IA w B false A n c (z.natAbs : Int) :=
  ⟨by rw [Int.natAbs_natCast]; exact h.limbs, by rw [decide_eq_false (by omega)], by rw [Int.natAbs_natCast]; exact h.room⟩
end Go.Proofs.Ytfehciiidmgopaa
