/- small; what both sides tell, alike. -/
import Derived.Test.YtfehciiidmgopaaRow
import Derived.Test.YtfehciiidmgopaaBad
namespace Go.Proofs.Ytfehciiidmgopaa
open Go.RowKit


set_option maxRecDepth 100000 in
theorem small_any {w : World} {B B' : Nat → Prop} {r r' : Bool} {cs ds : Array Value} (ha : TermA w B r cs) (hb : TermA w B' r' ds) : ∃ b : Bool, ∀ w1, Calls Try.prog 10 #[.agg cs, .agg ds] w1 fun e w' => e = .returned (.bool b) ∧ Keeps NoB w1 w' := by
  obtain ⟨kd, ng, la, ln, lc, tx, nm, ia, im, ic, ta, tm, tc, l, rfl, hl, hi, ht, hr⟩ := ha
  obtain ⟨kd', ng', la', ln', lc', tx', nm', ia', im', ic', ta', tm', tc', l', rfl, hl', hi', ht', hr'⟩ := hb
  have h1 := Nat.le_trans hl.cap hl.max; have h2 := Nat.le_trans hl'.cap hl'.max
  unfold maxLen at h1 h2
  clear hl hl' hr hr'
  by_cases h80 : wrap64 ((ln : Int) + (ln' : Int)) ≤ 80
  · have d1 : decide (wrap64 ((ln : Int) + (ln' : Int)) ≤ 80) = true := decide_eq_true h80
    clear h80
    by_cases h50 : im + im' + tm + tm' ≤ 50
    · have d2 : decide ((im : Int) + (im' : Int) + (tm : Int) + (tm' : Int) ≤ 50) = true := decide_eq_true (by omega)
      clear h50
      refine ⟨true, fun w1 => ?_⟩
      go_enter Try.func10, Try.ntmps10
      go_wp2
      go_ret
      exact ⟨rfl, ((Keeps.refl _ _).alloc _).alloc _⟩
    · have d2 : decide ((im : Int) + (im' : Int) + (tm : Int) + (tm' : Int) ≤ 50) = false := decide_eq_false (by omega)
      clear h50
      refine ⟨false, fun w1 => ?_⟩
      go_enter Try.func10, Try.ntmps10
      go_wp2
      go_ret
      exact ⟨rfl, ((Keeps.refl _ _).alloc _).alloc _⟩
  · have d1 : decide (wrap64 ((ln : Int) + (ln' : Int)) ≤ 80) = false := decide_eq_false h80
    clear h80
    refine ⟨false, fun w1 => ?_⟩
    go_enter Try.func10, Try.ntmps10
    go_wp2
    go_ret
    exact ⟨rfl, ((Keeps.refl _ _).alloc _).alloc _⟩

/-! ### Alike -/
def LikeP (w : World) (kd : Int) (ng : Bool) (l : List Nat) (ok : Bool) (e : Ending) (w' : World) : Prop := ∃ A n c, e = .returned (.tuple #[.agg #[.int .u8 kd, .bool ng, .slice A n c, .string { data := #[] }, .int .i64 0, .slice none 0 0, .slice none 0 0], .bool ok]) ∧ LimbsIn w' (fun k => w.heap.size ≤ k) A n c l ∧ Keeps NoB w w'
theorem any_like (z : Int) : ∃ kd ng l ok, ∀ w e w', AnyP w z e w' → LikeP w kd ng l ok e w' := by
  by_cases h : z.natAbs < Big
  · refine ⟨1, decide (z < 0), dig z.natAbs, true, fun w e w' ⟨kd, ng, A, n, c, ok, he, hk, hkp⟩ => ?_⟩
    rcases hk with ⟨rfl, rfl, hi⟩ | ⟨_, _, _, _, _, _, hbig⟩
    · exact ⟨A, n, c, by rw [he, hi.sign], hi.limbs, hkp⟩
    · omega
  · refine ⟨0, false, [], false, fun w e w' ⟨kd, ng, A, n, c, ok, he, hk, hkp⟩ => ?_⟩
    rcases hk with ⟨rfl, rfl, hi⟩ | ⟨rfl, rfl, rfl, rfl, rfl, rfl, _⟩
    · exact absurd hi.room h
    · exact ⟨none, 0, 0, he, LimbsIn.nil _ _ _ _ (Nat.zero_le _), hkp⟩
theorem no_like : ∀ w e w', NoP w e w' → LikeP w 0 false [] false e w' := fun w e w' ⟨he, hkp⟩ => ⟨none, 0, 0, he, LimbsIn.nil _ _ _ _ (Nat.zero_le _), hkp⟩
end Go.Proofs.Ytfehciiidmgopaa
