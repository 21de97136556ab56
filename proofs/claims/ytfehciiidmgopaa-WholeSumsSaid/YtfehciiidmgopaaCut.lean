/- strings.CutPrefix of a minus. -/
import Derived.Test.YtfehciiidmgopaaText
namespace Go.Proofs.Ytfehciiidmgopaa
open Go.RowKit

/-- Does it begin with a minus? -/
def hasMinus (s : ByteArray) : Bool := decide (1 ≤ s.size) && ((s.extract 0 1).toList == [45])
set_option maxRecDepth 100000 in
theorem has_any (s : ByteArray) (hs : s.size ≤ maxLen) (w : World) : Calls Try.prog 73 #[.string s, .string { data := #[45] }] w fun e w' => e = .returned (.bool (hasMinus s)) ∧ w = w' := by
  unfold maxLen at hs
  by_cases h1 : 1 ≤ s.size
  · obtain ⟨b, hb⟩ : ∃ b, ((s.extract 0 1).toList == [45]) = b := ⟨_, rfl⟩
    have e : hasMinus s = b := by unfold hasMinus; rw [hb, decide_eq_true h1]; rfl
    have h2 : decide ((1 : Int) ≤ (s.size : Int)) = true := by simp; omega
    have HE := hide e; clear e
    go_enter Try.func73, Try.ntmps73
    go_wp2
    go_ret
    exact ⟨by rw [HE.out]; rfl, rfl⟩
  · have e : hasMinus s = false := by unfold hasMinus; rw [decide_eq_false h1]; rfl
    have h2 : decide ((1 : Int) ≤ (s.size : Int)) = false := by simp; omega
    have HE := hide e; clear e
    clear h1
    go_enter Try.func73, Try.ntmps73
    go_wp2
    go_ret
    exact ⟨by rw [HE.out]; rfl, rfl⟩
def cutS (s : ByteArray) : ByteArray := if hasMinus s then s.extract 1 s.size else s
set_option maxRecDepth 100000 in
theorem cutl_any (s : ByteArray) (hs : s.size ≤ maxLen) (w : World) : Calls Try.prog 66 #[.string s, .string { data := #[45] }] w fun e w' => e = .returned (.tuple #[.string (cutS s), .bool (hasMinus s)]) ∧ w = w' := by
  cases hb : hasMinus s with
  | false =>
    have HE := hide (show cutS s = s from by unfold cutS; rw [hb]; rfl)
    have HB := hide (has_any s hs w)
    rw [hb] at HB
    go_enter Try.func66, Try.ntmps66
    go_wp2_with (go_at_call 73; refine HB.out.mono ?_; rintro e w' ⟨rfl, rfl⟩)
    go_ret2
    exact ⟨by rw [HE.out]; rfl, rfl⟩
  | true =>
    have h1 : 1 ≤ s.size := by unfold hasMinus at hb; simp only [Bool.and_eq_true, decide_eq_true_eq] at hb; exact hb.1
    have HE := hide (show cutS s = s.extract 1 s.size from by unfold cutS; rw [hb]; rfl)
    have HB := hide (has_any s hs w)
    rw [hb] at HB
    have h2 : (1 : Int) ≤ (s.size : Int) := by omega
    unfold maxLen at hs
    go_enter Try.func66, Try.ntmps66
    go_wp2_with (go_at_call 73; refine HB.out.mono ?_; rintro e w' ⟨rfl, rfl⟩)
    go_ret2
    exact ⟨by rw [HE.out]; rfl, rfl⟩
set_option maxRecDepth 100000 in
theorem cut_any (s : ByteArray) (hs : s.size ≤ maxLen) (w : World) : Calls Try.prog 45 #[.string s, .string { data := #[45] }] w fun e w' => e = .returned (.tuple #[.string (cutS s), .bool (hasMinus s)]) ∧ w = w' := by
  go_enter Try.func45, Try.ntmps45
  go_wp2_with (go_at_call 66; refine (cutl_any s hs _).mono ?_; rintro e w' ⟨rfl, rfl⟩)
  go_ret2
  exact ⟨rfl, rfl⟩
end Go.Proofs.Ytfehciiidmgopaa
