/- maker.at. -/
import Derived.Test.YtdmldipnalklgaaAtBoth
import Derived.Test.YtdmldipnalklgaaAtCons
import Derived.Test.YtdmldipnalklgaaAtConst
namespace Go.Proofs.Ytdmldipnalklgaa
open Go.RowKit

theorem OneP.post {P : Nat → Prop} {w : World} {mb : Nat} {next : Int} {cs : List Tm} {i : Ins} {e : Ending} {w' : World} (hm : MakerAt P w mb next cs) (h : OneP w i e w') : AtPost P w mb cs ⟨[i], next, []⟩ e w' := by
  obtain ⟨A, c, rfl, h1, h2, h3⟩ := h
  exact ⟨A, c, rfl, h1, h2, by rw [List.append_nil]; exact hm.grow h3 (fun k hr => ⟨h2 k hr, h1.lt hr⟩), h3.mono (fun _ _ h => h.elim)⟩
theorem at_any (M : Nat) : AtSaid M := by
  induction M with
  | zero =>
    intro t ht
    have := t.size_pos
    omega
  | succ M IH =>
    intro t hM w P F kd tx nm tk ng la ln lc tt tn ia im ic ta tm tc ka kn kc s next free cs mb ht hmay hm hb
    have IH := hide IH
    obtain ⟨kd', tx', nm', tk', ng', la', ln', lc', tt', tn', ia', im', ic', ta', tm', tc', ka', kn', kc', tr, kids, css, rfl, e, htr, hroom, hr, hc, hkl⟩ := ht.opened
    simp only [List.cons.injEq, Value.int.injEq, Value.bool.injEq, Value.slice.injEq, Value.string.injEq, true_and, and_true] at e
    obtain ⟨rfl, rfl, rfl, rfl, rfl, ⟨rfl, rfl, rfl⟩, rfl, rfl, ⟨rfl, rfl, rfl⟩, ⟨rfl, rfl, rfl⟩, ⟨rfl, rfl, rfl⟩⟩ := e
    have hsz : Co.size.sizes kids ≤ M := by simp only [Co.size] at hM; omega
    have hcnt : Co.count (.mk kd tx nm tr kids) = 1 + Co.count.counts kids := rfl
    rw [hcnt] at hb
    obtain ⟨hb1, hb2, hb3⟩ := hb
    have hbm : BoundM next cs (Co.count.counts kids) := ⟨hb1, by omega, by omega⟩
    unfold mayC at hmay
    unfold atC
    by_cases k20 : kd = 20
    · subst k20
      simp only [show ¬ ((20 : Int) = 21) by decide, show ¬ ((20 : Int) = 22) by decide, show ¬ ((20 : Int) = 23) by decide, show ¬ ((20 : Int) = 24) by decide, show ¬ ((20 : Int) = 25) by decide, show ¬ ((20 : Int) = 26) by decide, if_false]
      refine (at_none w 20 tx nm tk ng la ln lc tt tn ia im ic ta tm tc ka kn kc s mb (.inl (by decide))).mono ?_
      rintro e w' ⟨rfl, hk⟩
      exact ⟨none, 0, rfl, Slab.nil _ _ _, (fun k ⟨o, h⟩ => by cases h), by rw [List.append_nil]; exact hm.grow hk (fun k ⟨o, h⟩ => by cases h), hk.mono (fun _ _ h => h.elim)⟩
    rw [if_neg k20] at hmay
    by_cases k21 : kd = 21
    · subst k21
      rw [if_pos rfl]
      exact (at_bind w 21 tx nm tk ng la ln lc tt tn ia im ic ta tm tc ka kn kc s mb rfl).mono fun _ _ h => h.post hm
    rw [if_neg k21]
    by_cases k22 : kd = 22
    · subst k22
      rw [if_pos rfl]
      exact (at_bound w 22 tx nm tk ng la ln lc tt tn ia im ic ta tm tc ka kn kc s mb rfl).mono fun _ _ h => h.post hm
    rw [if_neg k22]
    rw [if_neg (by omega)] at hmay
    by_cases k23 : kd = 23
    · subst k23
      rw [if_pos rfl]
      exact at_const_arm w P F tx nm tk ng la ln lc tt tn ia im ic ta tm tc ka kn kc s next cs tr mb htr hm (by omega)
    rw [if_neg k23]; rw [if_neg k23] at hmay
    by_cases k24 : kd = 24
    · subst k24
      rw [if_pos rfl]
      rw [if_pos rfl, Bool.and_eq_true, decide_eq_true_eq] at hmay
      exact at_tuple_arm M IH kids hsz css w P F tx nm tk ng la ln lc tt tn ia im ic ta tm tc ka kn kc s next free cs mb hr hc hmay.2 hm hbm (by omega)
    rw [if_neg k24]; rw [if_neg k24] at hmay
    by_cases k25 : kd = 25 ∨ kd = 26
    · rw [if_pos k25, Bool.and_eq_true, decide_eq_true_eq] at hmay
      obtain ⟨p, q, rfl⟩ : ∃ p q, kids = [p, q] := by
        match kids, hmay.1 with
        | [p, q], _ => exact ⟨p, q, rfl⟩
      obtain rfl : kn = 2 := by simpa using hkl.symm
      have hpq : Co.count.counts [p, q] = p.count + q.count := by simp [Co.count.counts]
      rw [hpq] at hbm
      rcases k25 with rfl | rfl
      · rw [if_pos rfl]
        exact at_cons_arm M IH p q hsz css w P F tx nm tk ng la ln lc tt tn ia im ic ta tm tc ka kc s next free cs mb hr hc hmay.2 hm hbm
      · rw [if_neg (by decide), if_pos rfl]
        exact at_both_arm M IH p q hsz css w P F tx nm tk ng la ln lc tt tn ia im ic ta tm tc ka kc s next free cs mb hr hc hmay.2 hm hbm
    · rw [if_neg k25] at hmay
      cases hmay
end Go.Proofs.Ytdmldipnalklgaa
