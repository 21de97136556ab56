/- Of what Pattern tells: how much it is; the places of constants. -/
import Derived.Test.YtdmldipnalklgaaAtLaw
namespace Go.Proofs.Ytdmldipnalklgaa

theorem pat_few (t : Co) (s free : Int) : (patC t s free).ins.length ≤ 2 * t.count ∧ (patC t s free).cs.length ≤ t.count ∧ 0 ≤ (patC t s free).next ∧ (patC t s free).next ≤ t.count := by
  unfold patC
  split
  · exact ⟨by simp, by simp, by simp, by simp⟩
  · obtain ⟨h1, h2, h3, h4⟩ := at_few s free 0 t
    simp only
    omega
/-- Constants are named by numbers below a bound. -/
def OkN (hi : Int) (r : Made) : Prop := ∀ i ∈ r.ins, i.op = 15 → 0 ≤ i.n ∧ i.n ≤ hi
theorem OkN.none (hi next : Int) : OkN hi ⟨[], next, []⟩ := fun i hi => by simp at hi
theorem OkN.mono {hi hi' : Int} {r : Made} (h : OkN hi r) (hl : hi ≤ hi') : OkN hi' r := fun i hm ho => ⟨(h i hm ho).1, Int.le_trans (h i hm ho).2 hl⟩
theorem OkN.join {hi : Int} {r q : Made} (h : OkN hi r) (g : OkN hi q) : OkN hi (joinM r q) := fun i hm ho => by
  simp only [joinM, List.mem_append] at hm
  exact hm.elim (fun hm => h i hm ho) (fun hm => g i hm ho)
theorem OkN.child {hi op n s next : Int} {t : Co} {r : Made} (ho : op ≠ 15) (h : OkN hi r) : OkN hi (childM op n s next t r) := by
  unfold childM
  split
  · exact OkN.none _ _
  · split
    · intro i hm he
      simp only [List.mem_singleton] at hm
      subst hm
      exact absurd he ho
    · intro i hm he
      simp only [List.mem_cons] at hm
      rcases hm with rfl | hm
      · exact absurd he ho
      · exact h i hm he
theorem OkN.one {hi : Int} {i : Ins} {next : Int} {cs : List Tm} (h : i.op = 15 → 0 ≤ i.n ∧ i.n ≤ hi) : OkN hi ⟨[i], next, cs⟩ := fun j hm ho => by
  simp only [List.mem_singleton] at hm
  subst hm
  exact h ho

mutual
theorem at_ok (s next : Int) (nc : Nat) : ∀ t : Co, OkN (nc + t.count) (atC s next nc t)
  | .mk k _ num t kids => by
    have hc : Co.count (.mk k ‹_› num t kids) = 1 + Co.count.counts kids := rfl
    rw [hc]
    unfold atC
    split
    · exact OkN.one (fun h => by simp at h)
    · split
      · exact OkN.one (fun h => by simp [testI] at h)
      · split
        · exact OkN.one (fun _ => ⟨by simp [testI], by simp [testI]; omega⟩)
        · split
          · exact OkN.join (OkN.one (fun h => by simp [testI] at h)) ((each_ok s next nc 0 kids).mono (by omega))
          · split
            · exact OkN.join (OkN.one (fun h => by simp [testI] at h)) ((cons_ok s next nc kids).mono (by omega))
            · split
              · exact (both_ok s next nc kids).mono (by omega)
              · exact OkN.none _ _
theorem each_ok (s next : Int) (nc : Nat) (i : Int) : ∀ ts : List Co, OkN (nc + Co.count.counts ts) (eachC s next nc i ts)
  | [] => by unfold eachC; exact OkN.none _ _
  | t :: ts => by
    unfold eachC
    have e : Co.count.counts (t :: ts) = t.count + Co.count.counts ts := rfl
    have hp : 1 ≤ t.count := by cases t; simp only [Co.count]; omega
    have hf : (childM 17 i s next t (atC next (next + 1) nc t)).cs.length ≤ t.count := (FewM.child (op := 17) (n := i) (s := s) (k := t.count) (fun _ _ => by
      obtain ⟨a1, a2, a3, a4⟩ := at_few next (next + 1) nc t
      exact ⟨a1, a2, by omega, by omega⟩) hp).2.1
    rw [e]
    exact OkN.join (OkN.child (by decide) ((at_ok next (next + 1) nc t).mono (by omega))) ((each_ok _ _ _ _ ts).mono (by omega))
theorem cons_ok (s next : Int) (nc : Nat) : ∀ ts : List Co, OkN (nc + Co.count.counts ts) (consC s next nc ts)
  | [p, q] => by
    unfold consC
    have e : Co.count.counts [p, q] = p.count + q.count := by simp [Co.count.counts]
    have hp : 1 ≤ p.count := by cases p; simp only [Co.count]; omega
    have hf : (childM 18 0 s next p (atC next (next + 1) nc p)).cs.length ≤ p.count := (FewM.child (op := 18) (n := 0) (s := s) (k := p.count) (fun _ _ => by
      obtain ⟨a1, a2, a3, a4⟩ := at_few next (next + 1) nc p
      exact ⟨a1, a2, by omega, by omega⟩) hp).2.1
    rw [e]
    exact OkN.join (OkN.child (by decide) ((at_ok next (next + 1) nc p).mono (by omega))) (OkN.child (by decide) ((at_ok _ _ _ q).mono (by omega)))
  | [] => by unfold consC; exact OkN.none _ _
  | [_] => by unfold consC; exact OkN.none _ _
  | _ :: _ :: _ :: _ => by unfold consC; exact OkN.none _ _
theorem both_ok (s next : Int) (nc : Nat) : ∀ ts : List Co, OkN (nc + Co.count.counts ts) (bothC s next nc ts)
  | [p, q] => by
    unfold bothC
    have e : Co.count.counts [p, q] = p.count + q.count := by simp [Co.count.counts]
    have hf := (at_few s next nc p).2.1
    rw [e]
    exact OkN.join ((at_ok s next nc p).mono (by omega)) ((at_ok _ _ _ q).mono (by omega))
  | [] => by unfold bothC; exact OkN.none _ _
  | [_] => by unfold bothC; exact OkN.none _ _
  | _ :: _ :: _ :: _ => by unfold bothC; exact OkN.none _ _
end
theorem pat_ok (t : Co) (s free : Int) : OkN t.count (patC t s free) := by
  unfold patC
  split
  · exact OkN.none _ _
  · intro i hm ho
    have h := at_ok s free 0 t i hm ho
    exact ⟨h.1, by have := h.2; omega⟩
/-- The law, where something is told at all. -/
theorem pat_law (s free : Int) (p q : Co) (hs : 0 ≤ s ∧ s < free ∧ free ≤ 1000) (hroom : free + (patC p s free).next ≤ 1000) (hne : (patC (bothT p q) s free).ins ≠ []) :
    patC (bothT p q) s free = ⟨(patC p s free).ins ++ (patC q s (free + (patC p s free).next)).ins.map (shiftI (patC p s free).cs.length), (patC p s free).next + (patC q s (free + (patC p s free).next)).next, (patC p s free).cs ++ (patC q s (free + (patC p s free).next)).cs⟩ := by
  refine pat_both s free p q (fun h => hne ?_) hroom
  unfold patC
  rw [if_pos h]
end Go.Proofs.Ytdmldipnalklgaa
