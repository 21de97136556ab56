/- A region that draws its order: where three may come up. -/
import Derived.Test.YtjdbjjjbgibpaaaGreatDoorTermLawJn
namespace Go.Proofs.YtjdbjjjbgibpaaaGreatDoor
section
variable {P : Program} {ops : Array Oper} {Q : Exit → Act → World → Prop} {S : World → Prop} {need : Nat → Bool}
theorem order_three {i j k : Nat} {oi oj ok : Oper} {r r' r3 : List Oper} {fuel : Nat} {done : List Nat} {a : Act} {w : World} (hi0 : ops.toList.drop i = oi :: r) (hj0 : ops.toList.drop j = oj :: r') (hk0 : ops.toList.drop k = ok :: r3)
    (hc : (wellOrdered ops && (upNext ops done == [i, j, k])) = true)
    (h : ∀ K : Act → World → Prop, (∀ a' w', (need i = true → S w → S w') → Order P ops Q S need fuel (i :: done) a' w' → K a' w') →
      if Region.wanted oi (yielded ops a.tmps) then oi.wp P a w K Q else K (a.put oi.dst undef) w)
    (h' : ∀ K : Act → World → Prop, (∀ a' w', (need j = true → S w → S w') → Order P ops Q S need fuel (j :: done) a' w' → K a' w') →
      if Region.wanted oj (yielded ops a.tmps) then oj.wp P a w K Q else K (a.put oj.dst undef) w)
    (h3 : ∀ K : Act → World → Prop, (∀ a' w', (need k = true → S w → S w') → Order P ops Q S need fuel (k :: done) a' w' → K a' w') →
      if Region.wanted ok (yielded ops a.tmps) then ok.wp P a w K Q else K (a.put ok.dst undef) w) : Order P ops Q S need (fuel + 1) done a w := by
  have hi := drop_get hi0
  have hj := drop_get hj0
  have hk := drop_get hk0
  simp only [Bool.and_eq_true, beq_iff_eq] at hc
  obtain ⟨hw, hr⟩ := hc
  simp only [wellOrdered, Bool.and_eq_true] at hw
  intro listed hag
  have hr' : Region.ready .any ops listed = [i, j, k] := by rw [hag.ready hw.2]; exact hr
  refine ⟨fun h0 => (by rw [h0] at hr'; cases hr'), fun m hm => ?_⟩
  rw [hr', List.mem_cons, List.mem_cons, List.mem_singleton] at hm
  rcases hm with rfl | rfl | rfl
  · have h1 := h (fun a' w' => (need m = true → S w → S w') ∧ wpAnyN P ops Q S need fuel (listed.setIfInBounds m true) a' w') (fun a' w' h2 h3 => ⟨h2, h3 _ (hag.step m)⟩)
    unfold wpOp
    simp only [hi]
    split
    · rename_i hwt; rw [if_pos hwt] at h1; exact .inl h1
    · rename_i hwt; rw [if_neg hwt] at h1; exact h1
  · have h1 := h' (fun a' w' => (need m = true → S w → S w') ∧ wpAnyN P ops Q S need fuel (listed.setIfInBounds m true) a' w') (fun a' w' h2 h3 => ⟨h2, h3 _ (hag.step m)⟩)
    unfold wpOp
    simp only [hj]
    split
    · rename_i hwt; rw [if_pos hwt] at h1; exact .inl h1
    · rename_i hwt; rw [if_neg hwt] at h1; exact h1
  · have h1 := h3 (fun a' w' => (need m = true → S w → S w') ∧ wpAnyN P ops Q S need fuel (listed.setIfInBounds m true) a' w') (fun a' w' h2 h3 => ⟨h2, h3 _ (hag.step m)⟩)
    unfold wpOp
    simp only [hk]
    split
    · rename_i hwt; rw [if_pos hwt] at h1; exact .inl h1
    · rename_i hwt; rw [if_neg hwt] at h1; exact h1
end
end Go.Proofs.YtjdbjjjbgibpaaaGreatDoor
