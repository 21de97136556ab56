/- What a pattern may be, and the tests that are made of it: as plain functions on trees. -/
import Derived.Test.YtdmldipnalklgaaCoOf
import Derived.Test.YtdmldipnalklgaaTermLaw
namespace Go.Proofs.Ytdmldipnalklgaa

mutual
/-- cases.may -/
def mayC (free : Int) : Co → Bool
  | .mk k _ num t kids =>
    if k = 20 then true
    else if k = 21 ∨ k = 22 then decide (0 ≤ num) && decide (num < free)
    else if k = 23 then rightT t
    else if k = 24 then decide (kids.length ≤ 4096) && mays free kids
    else if k = 25 ∨ k = 26 then decide (kids.length = 2) && mays free kids
    else false
def mays (free : Int) : List Co → Bool
  | [] => true
  | t :: ts => mayC free t && mays free ts
end
theorem mays_take {free : Int} : ∀ {ts : List Co} {k : Nat} {t : Co}, ts[k]? = some t → mays free (ts.take (k + 1)) = (mays free (ts.take k) && mayC free t)
  | [], _, _, h => by simp at h
  | a :: ts, 0, t, h => by
    obtain rfl : a = t := by simpa using h
    simp [mays]
  | a :: ts, k + 1, t, h => by
    rw [List.take_succ_cons, List.take_succ_cons, mays, mays, mays_take (ts := ts) (k := k) (t := t) (by simpa using h), Bool.and_assoc]
theorem mays_at {free : Int} : ∀ {ts : List Co} {k : Nat} {t : Co}, ts[k]? = some t → mays free ts = true → mayC free t = true
  | [], _, _, h, _ => by simp at h
  | a :: ts, 0, t, h, hm => by
    obtain rfl : a = t := by simpa using h
    rw [mays, Bool.and_eq_true] at hm; exact hm.1
  | a :: ts, k + 1, t, h, hm => by
    rw [mays, Bool.and_eq_true] at hm
    exact mays_at (ts := ts) (k := k) (t := t) (by simpa using h) hm.2
theorem mays_no {free : Int} {ts : List Co} {k : Nat} {t : Co} (h : ts[k]? = some t) (hm : mayC free t = false) : mays free ts = false := by
  cases hh : mays free ts with
  | false => rfl
  | true => rw [mays_at h hh] at hm; cases hm
mutual
/-- With more variables a pattern may be, too. -/
theorem mayC_more {free free' : Int} (h : free ≤ free') : ∀ (t : Co), mayC free t = true → mayC free' t = true
  | .mk k _ num t kids, hm => by
    unfold mayC at hm ⊢
    split
    · rfl
    · rename_i h0; rw [if_neg h0] at hm
      split
      · rename_i h1; rw [if_pos h1] at hm
        simp only [Bool.and_eq_true, decide_eq_true_eq] at hm ⊢; omega
      · rename_i h1; rw [if_neg h1] at hm
        split
        · rename_i h2; rw [if_pos h2] at hm; exact hm
        · rename_i h2; rw [if_neg h2] at hm
          split
          · rename_i h3; rw [if_pos h3, Bool.and_eq_true] at hm
            rw [hm.1, mays_more h kids hm.2]; rfl
          · rename_i h3; rw [if_neg h3] at hm
            split
            · rename_i h4; rw [if_pos h4, Bool.and_eq_true] at hm
              rw [hm.1, mays_more h kids hm.2]; rfl
            · rename_i h4; rw [if_neg h4] at hm; exact hm
theorem mays_more {free free' : Int} (h : free ≤ free') : ∀ (ts : List Co), mays free ts = true → mays free' ts = true
  | [], _ => by unfold mays; rfl
  | t :: ts, hm => by
    rw [mays, Bool.and_eq_true] at hm ⊢
    exact ⟨mayC_more h t hm.1, mays_more h ts hm.2⟩
end
end Go.Proofs.Ytdmldipnalklgaa
