/- The tests that are made of a pattern, as plain functions on trees; and their law. -/
import Derived.Test.YtdmldipnalklgaaLaw
namespace Go.Proofs.Ytdmldipnalklgaa

/-- An instruction's numbers; its text and slots are empty. -/
structure Ins where
  op : Int
  a : Int
  b : Int
  c : Int
  n : Int
  l : Int
/-- What is made: tests, the next slot, the new constants. -/
structure Made where
  ins : List Ins
  next : Int
  cs : List Tm

def testI (op b c n : Int) : Ins := ⟨op, 0, b, c, n, -1⟩
/-- A part of a pattern (at's own function): r is what is made of the part itself. -/
def childM (op n s next : Int) (t : Co) (r : Made) : Made :=
  if t.kind = 20 then ⟨[], next, []⟩
  else if t.kind = 21 then ⟨[⟨op, t.num, s, 0, n, 0⟩], next, []⟩
  else ⟨⟨op, next, s, 0, n, 0⟩ :: r.ins, r.next, r.cs⟩
def joinM (r q : Made) : Made := ⟨r.ins ++ q.ins, q.next, r.cs ++ q.cs⟩

mutual
/-- maker.at: slot s, the next slot, how many constants there are. -/
def atC (s next : Int) (nc : Nat) : Co → Made
  | .mk k _ num t kids =>
    if k = 21 then ⟨[⟨2, num, s, 0, 0, 0⟩], next, []⟩
    else if k = 22 then ⟨[testI 16 s num 0], next, []⟩
    else if k = 23 then ⟨[testI 15 s 0 nc], next, [t]⟩
    else if k = 24 then joinM ⟨[testI 13 s 0 kids.length], next, []⟩ (eachC s next nc 0 kids)
    else if k = 25 then joinM ⟨[testI 14 s 0 0], next, []⟩ (consC s next nc kids)
    else if k = 26 then bothC s next nc kids
    else ⟨[], next, []⟩
def eachC (s next : Int) (nc : Nat) (i : Int) : List Co → Made
  | [] => ⟨[], next, []⟩
  | t :: ts =>
    let r := childM 17 i s next t (atC next (next + 1) nc t)
    joinM r (eachC s r.next (nc + r.cs.length) (i + 1) ts)
def consC (s next : Int) (nc : Nat) : List Co → Made
  | [p, q] =>
    let r := childM 18 0 s next p (atC next (next + 1) nc p)
    joinM r (childM 19 0 s r.next q (atC r.next (r.next + 1) (nc + r.cs.length) q))
  | _ => ⟨[], next, []⟩
def bothC (s next : Int) (nc : Nat) : List Co → Made
  | [p, q] =>
    let r := atC s next nc p
    joinM r (atC s r.next (nc + r.cs.length) q)
  | _ => ⟨[], next, []⟩
end

/-- How much is made at most. -/
def FewM (next : Int) (k : Nat) (r : Made) : Prop := r.ins.length ≤ 2 * k ∧ r.cs.length ≤ k ∧ next ≤ r.next ∧ r.next ≤ next + k
theorem FewM.nil (next : Int) (k : Nat) : FewM next k ⟨[], next, []⟩ := ⟨by simp, by simp, by simp, by simp; omega⟩
theorem FewM.join {next : Int} {k j : Nat} {r q : Made} (h : FewM next k r) (g : FewM r.next j q) : FewM next (k + j) (joinM r q) := by
  obtain ⟨h1, h2, h3, h4⟩ := h; obtain ⟨g1, g2, g3, g4⟩ := g
  unfold joinM FewM
  simp only [List.length_append]
  omega
theorem FewM.child {op n s next : Int} {k : Nat} {t : Co} {r : Made} (h : t.kind ≠ 20 → t.kind ≠ 21 → r.ins.length + 1 ≤ 2 * k ∧ r.cs.length ≤ k ∧ next ≤ r.next ∧ r.next ≤ next + k) (hk : 1 ≤ k) : FewM next k (childM op n s next t r) := by
  unfold childM
  split
  · exact FewM.nil _ _
  · split
    · exact ⟨by simp; omega, by simp, by simp, by simp; omega⟩
    · rename_i h1 h2
      obtain ⟨a, b, c, d⟩ := h h1 h2
      exact ⟨by simpa using a, b, c, d⟩
/-- A part that has a slot of its own. -/
def FewA (next : Int) (k : Nat) (r : Made) : Prop := r.ins.length + 1 ≤ 2 * k ∧ r.cs.length ≤ k ∧ next ≤ r.next ∧ r.next + 1 ≤ next + k

mutual
theorem at_few (s next : Int) (nc : Nat) : ∀ t : Co, FewA next t.count (atC s next nc t)
  | .mk k _ num t kids => by
    unfold atC
    have hc : Co.count (.mk k ‹_› num t kids) = 1 + Co.count.counts kids := rfl
    rw [hc]
    split
    · exact ⟨by simp; omega, by simp, by simp, by simp; omega⟩
    · split
      · exact ⟨by simp; omega, by simp, by simp, by simp; omega⟩
      · split
        · exact ⟨by simp; omega, by simp, by simp, by simp; omega⟩
        · split
          · have h := each_few s next nc 0 kids
            obtain ⟨h1, h2, h3, h4⟩ := h
            unfold joinM FewA; simp only [List.length_append, List.length_cons, List.length_nil]; omega
          · split
            · have h := cons_few s next nc kids
              obtain ⟨h1, h2, h3, h4⟩ := h
              unfold joinM FewA; simp only [List.length_append, List.length_cons, List.length_nil]; omega
            · split
              · have h := both_few s next nc kids
                obtain ⟨h1, h2, h3, h4⟩ := h
                unfold FewA; omega
              · exact ⟨by simp; omega, by simp, by simp, by simp; omega⟩
theorem each_few (s next : Int) (nc : Nat) (i : Int) : ∀ ts : List Co, FewM next (Co.count.counts ts) (eachC s next nc i ts)
  | [] => by unfold eachC; exact FewM.nil _ _
  | t :: ts => by
    unfold eachC
    have h := at_few next (next + 1) nc t
    have hp : 1 ≤ t.count := by cases t; simp only [Co.count]; omega
    exact FewM.join (FewM.child (fun _ _ => by obtain ⟨h1, h2, h3, h4⟩ := h; omega) hp) (each_few _ _ _ _ ts)
theorem cons_few (s next : Int) (nc : Nat) : ∀ ts : List Co, FewM next (Co.count.counts ts) (consC s next nc ts)
  | [p, q] => by
    unfold consC
    have h := at_few next (next + 1) nc p
    have hp : 1 ≤ p.count := by cases p; simp only [Co.count]; omega
    have hq : 1 ≤ q.count := by cases q; simp only [Co.count]; omega
    have e : Co.count.counts [p, q] = p.count + q.count := by simp [Co.count.counts]
    rw [e]
    refine FewM.join (FewM.child (fun _ _ => by obtain ⟨h1, h2, h3, h4⟩ := h; omega) hp) (FewM.child (fun _ _ => ?_) hq)
    obtain ⟨h1, h2, h3, h4⟩ := at_few (childM 18 0 s next p (atC next (next + 1) nc p)).next ((childM 18 0 s next p (atC next (next + 1) nc p)).next + 1) (nc + (childM 18 0 s next p (atC next (next + 1) nc p)).cs.length) q
    omega
  | [] => by unfold consC; exact FewM.nil _ _
  | [_] => by unfold consC; exact FewM.nil _ _
  | _ :: _ :: _ :: _ => by unfold consC; exact FewM.nil _ _
theorem both_few (s next : Int) (nc : Nat) : ∀ ts : List Co, FewM next (Co.count.counts ts) (bothC s next nc ts)
  | [p, q] => by
    unfold bothC
    obtain ⟨h1, h2, h3, h4⟩ := at_few s next nc p
    obtain ⟨g1, g2, g3, g4⟩ := at_few s (atC s next nc p).next (nc + (atC s next nc p).cs.length) q
    have e : Co.count.counts [p, q] = p.count + q.count := by simp [Co.count.counts]
    rw [e]
    unfold FewM joinM; simp only [List.length_append]; omega
  | [] => by unfold bothC; exact FewM.nil _ _
  | [_] => by unfold bothC; exact FewM.nil _ _
  | _ :: _ :: _ :: _ => by unfold bothC; exact FewM.nil _ _
end

/-- With d constants more ahead. -/
def shiftI (d : Int) (i : Ins) : Ins := if i.op = 15 then { i with n := i.n + d } else i
def shiftM (d : Int) (r : Made) : Made := ⟨r.ins.map (shiftI d), r.next, r.cs⟩
theorem shift_join (d : Int) (r q : Made) : joinM (shiftM d r) (shiftM d q) = shiftM d (joinM r q) := by
  unfold joinM shiftM; simp
theorem shift_child {op : Int} (ho : op ≠ 15) (d n s next : Int) (t : Co) (r : Made) : childM op n s next t (shiftM d r) = shiftM d (childM op n s next t r) := by
  unfold childM
  split
  · simp [shiftM]
  · split
    · simp [shiftM, shiftI, ho]
    · simp [shiftM, shiftI, ho]
theorem shift_next (d : Int) (r : Made) : (shiftM d r).next = r.next := rfl
theorem shift_cs (d : Int) (r : Made) : (shiftM d r).cs = r.cs := rfl
theorem shift_none (d next : Int) : shiftM d ⟨[], next, []⟩ = ⟨[], next, []⟩ := by simp [shiftM]

mutual
theorem at_shift (d : Nat) (s next : Int) (nc : Nat) : ∀ t : Co, atC s next (nc + d) t = shiftM d (atC s next nc t)
  | .mk k _ num t kids => by
    unfold atC
    split
    · simp [shiftM, shiftI]
    · split
      · simp [shiftM, shiftI, testI]
      · split
        · simp [shiftM, shiftI, testI]
        · split
          · rw [each_shift d s next nc 0 kids, ← shift_join]
            simp [shiftM, shiftI, testI]
          · split
            · rw [cons_shift d s next nc kids, ← shift_join]
              simp [shiftM, shiftI, testI]
            · split
              · exact both_shift d s next nc kids
              · rw [shift_none]
theorem each_shift (d : Nat) (s next : Int) (nc : Nat) (i : Int) : ∀ ts : List Co, eachC s next (nc + d) i ts = shiftM d (eachC s next nc i ts)
  | [] => by unfold eachC; rw [shift_none]
  | t :: ts => by
    unfold eachC
    simp only
    rw [at_shift d next (next + 1) nc t, shift_child (by decide), shift_next, shift_cs, show nc + d + (childM 17 i s next t (atC next (next + 1) nc t)).cs.length = nc + (childM 17 i s next t (atC next (next + 1) nc t)).cs.length + d by omega, each_shift, shift_join]
theorem cons_shift (d : Nat) (s next : Int) (nc : Nat) : ∀ ts : List Co, consC s next (nc + d) ts = shiftM d (consC s next nc ts)
  | [p, q] => by
    unfold consC
    simp only
    rw [at_shift d next (next + 1) nc p, shift_child (by decide), shift_next, shift_cs, show nc + d + (childM 18 0 s next p (atC next (next + 1) nc p)).cs.length = nc + (childM 18 0 s next p (atC next (next + 1) nc p)).cs.length + d by omega, at_shift d _ _ _ q, shift_child (by decide), shift_join]
  | [] => by unfold consC; rw [shift_none]
  | [_] => by unfold consC; rw [shift_none]
  | _ :: _ :: _ :: _ => by unfold consC; rw [shift_none]
theorem both_shift (d : Nat) (s next : Int) (nc : Nat) : ∀ ts : List Co, bothC s next (nc + d) ts = shiftM d (bothC s next nc ts)
  | [p, q] => by
    unfold bothC
    simp only
    rw [at_shift d s next nc p, shift_next, shift_cs, show nc + d + (atC s next nc p).cs.length = nc + (atC s next nc p).cs.length + d by omega, at_shift d _ _ _ q, shift_join]
  | [] => by unfold bothC; rw [shift_none]
  | [_] => by unfold bothC; rw [shift_none]
  | _ :: _ :: _ :: _ => by unfold bothC; rw [shift_none]
end

/-- cases.Pattern: tests, constants, how many slots. -/
def patC (t : Co) (s free : Int) : Made :=
  if s < 0 ∨ free ≤ s ∨ 1000 < free ∨ mayC free t = false then ⟨[], 0, []⟩
  else ⟨(atC s free 0 t).ins, (atC s free 0 t).next - free, (atC s free 0 t).cs⟩
/-- A pattern that has to match twice. -/
def bothT (p q : Co) : Co := .mk 26 ByteArray.empty 0 (.mk 0 false [] ByteArray.empty 0 [] []) [p, q]
def anyT (n : Int) : Co := .mk 20 ByteArray.empty n (.mk 0 false [] ByteArray.empty 0 [] []) []
theorem may_both (free : Int) (p q : Co) : mayC free (bothT p q) = (mayC free p && mayC free q) := by
  simp [bothT, mayC, mays]
theorem at_both (s next : Int) (nc : Nat) (p q : Co) : atC s next nc (bothT p q) = joinM (atC s next nc p) (atC s (atC s next nc p).next (nc + (atC s next nc p).cs.length) q) := by
  simp [bothT, atC, bothC]
theorem pat_both_any (s free n : Int) (p : Co) : patC (bothT p (anyT n)) s free = patC p s free := by
  have h1 : mayC free (bothT p (anyT n)) = mayC free p := by rw [may_both]; simp [anyT, mayC]
  have h2 : ∀ x m, atC s x m (anyT n) = ⟨[], x, []⟩ := fun x m => by simp [anyT, atC]
  unfold patC
  rw [h1, at_both, h2]
  simp [joinM]
/-- The law: of both, the second's are told by where they begin. -/
theorem pat_both (s free : Int) (p q : Co) (hok : ¬ (s < 0 ∨ free ≤ s ∨ 1000 < free ∨ mayC free (bothT p q) = false)) (hroom : free + (patC p s free).next ≤ 1000) :
    patC (bothT p q) s free = ⟨(patC p s free).ins ++ (patC q s (free + (patC p s free).next)).ins.map (shiftI (patC p s free).cs.length), (patC p s free).next + (patC q s (free + (patC p s free).next)).next, (patC p s free).cs ++ (patC q s (free + (patC p s free).next)).cs⟩ := by
  have hm : mayC free p = true ∧ mayC free q = true := by
    have h : ¬ mayC free (bothT p q) = false := fun h => hok (by simp [h])
    rw [may_both] at h
    simpa using h
  have hp : patC p s free = ⟨(atC s free 0 p).ins, (atC s free 0 p).next - free, (atC s free 0 p).cs⟩ := by
    unfold patC
    rw [if_neg (by rw [hm.1]; simp; omega)]
  have hn : free + (patC p s free).next = (atC s free 0 p).next := by rw [hp]; simp only; omega
  have hge := (at_few s free 0 p).2.2.1
  have hq : patC q s (atC s free 0 p).next = ⟨(atC s (atC s free 0 p).next 0 q).ins, (atC s (atC s free 0 p).next 0 q).next - (atC s free 0 p).next, (atC s (atC s free 0 p).next 0 q).cs⟩ := by
    unfold patC
    rw [if_neg (by rw [mayC_more hge q hm.2]; rw [hn] at hroom; simp; omega)]
  rw [hn, hq, hp]
  unfold patC
  rw [if_neg hok, at_both, Nat.zero_add]
  have hs := at_shift (atC s free 0 p).cs.length s (atC s free 0 p).next 0 q
  rw [Nat.zero_add] at hs
  rw [hs]
  simp only [joinM, shiftM, Made.mk.injEq, true_and, and_true]
  omega
end Go.Proofs.Ytdmldipnalklgaa
