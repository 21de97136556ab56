/- WholeRest: for any two terms. -/
import Derived.Test.YtfehciiidmgopaaRest0
import Derived.Test.YtfehciiidmgopaaRest1
namespace Go.Proofs.Ytfehciiidmgopaa
open Go.RowKit

theorem rest_any {w : World} {B B' : Nat → Prop} {r r' : Bool} {cs ds : Array Value} (ha : TermA w B r cs) (hb : TermA w B' r' ds) : Calls Try.prog 6 #[.agg cs, .agg ds] w fun e w' => e = .returned (.bool true) ∧ Keeps NoB w w' := by
  cases r with
  | false => exact rest_bad1 ha hb
  | true => cases r' with
    | false => exact rest_bad2 (r := true) ha hb
    | true =>
      obtain ⟨ng', A', n', c', y, ia', ta', ic', tc', rfl, i2⟩ := hb.int
      by_cases hy : y = 0
      · subst hy
        have hn : n' = 0 := by
          have h1 := i2.limbs.len
          rw [show (0 : Int).natAbs = 0 from rfl, dig_zero] at h1
          exact h1.symm
        subst hn
        exact rest_zero ha i2
      · obtain ⟨ng, A, n, c, x, ia, ta, ic, tc, rfl, i1⟩ := ha.int
        by_cases hz : x.tmod y = 0
        · exact rest_none _ _ _ _ _ _ _ _ _ _ _ _ _ _ _ _ x y w _ _ i1 i2 hy hz
        · exact rest_some _ _ _ _ _ _ _ _ _ _ _ _ _ _ _ _ x y w _ _ i1 i2 hy hz
end Go.Proofs.Ytfehciiidmgopaa
