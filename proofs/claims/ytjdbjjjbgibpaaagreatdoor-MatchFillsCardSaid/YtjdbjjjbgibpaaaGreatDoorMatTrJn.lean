/- pigeonholekit: Pick: the rest, never below nought. law11.sameTruths of equal rows; of equal terms SameTerms. -/
import Derived.Test.YtjdbjjjbgibpaaaGreatDoorTermLawJn
import Derived.WalkKit
import Derived.WalkLawsBesides
import Derived.Test.YtjdbjjjbgibpaaaGreatDoorMatGrJn
namespace Go.Proofs.YtjdbjjjbgibpaaaGreatDoor
open Go.RowKit

theorem tmod_facts (a n : Int) (hn : 1 ≤ n) : a % n = (a.tmod n) % n ∧ a.tmod n < n ∧ -n < a.tmod n := by
  refine ⟨?_, Int.tmod_lt_of_pos a (by omega), ?_⟩
  · conv => lhs; rw [← Int.tmod_add_mul_tdiv a n]
    rw [Int.add_mul_emod_self_left]
  · have := Int.tmod_lt_of_pos (-a) (b := n) (by omega)
    rw [Int.neg_tmod] at this
    omega

set_option maxRecDepth 100000 in
theorem pick_any (a n : Int) (hn : 1 ≤ n) (hn2 : n ≤ 9223372036854775807) (w : World) : Calls Tryz.prog 8 #[.int .i64 a, .int .i64 n] w fun e w' => e = .returned (.int .i64 (a % n)) ∧ w = w' := by
  have hf := hide (tmod_facts a n hn)
  by_cases h : a.tmod n < 0
  · have hb : wrap64 (a.tmod n + n) = a.tmod n + n := by have := hf.out; unfold wrap64; omega
    have e : a % n = a.tmod n + n := by
      rw [hf.out.1, ← Int.add_emod_right, Int.emod_eq_of_lt (by have := hf.out; omega) (by omega)]
    have HE := hide e; clear e
    go_enter Tryz.func8, Tryz.ntmps8
    go_wp2
    go_ret
    exact ⟨by rw [HE.out, hb]; rfl, rfl⟩
  · have h0 : 0 ≤ a.tmod n := by omega
    have e : a % n = a.tmod n := by
      rw [hf.out.1, Int.emod_eq_of_lt h0 hf.out.2.1]
    have HE := hide e; clear e
    clear h
    go_enter Tryz.func8, Tryz.ntmps8
    go_wp2
    go_ret
    exact ⟨by rw [HE.out]; rfl, rfl⟩
end Go.Proofs.YtjdbjjjbgibpaaaGreatDoor
namespace Go.Proofs.YtjdbjjjbgibpaaaGreatDoor
open Go.RowKit

end Go.Proofs.YtjdbjjjbgibpaaaGreatDoor
