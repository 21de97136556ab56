/- ClockParts' plain law, and two clocks in memory. -/
import Derived.Test.YtaiphjgklfioeaaAwake
namespace Go.Proofs.Ytaiphjgklfioeaa
open Go.RowKit

theorem due_parts {a b : Int} (hab : a ≤ b) : ∀ (L : List Wt), due a L ++ due b (left a L) = due b L ∧ left b (left a L) = left b L
  | [] => by simp [due, left]
  | x :: L => by
    have ih := due_parts hab L
    unfold due left at ih ⊢
    by_cases h : x.1 ≤ a
    · have h2 : x.1 ≤ b := by omega
      simp only [List.takeWhile_cons, List.dropWhile_cons, decide_eq_true h, decide_eq_true h2, if_true, List.cons_append]
      exact ⟨by rw [ih.1], ih.2⟩
    · simp [List.takeWhile_cons, List.dropWhile_cons, h]

theorem tick_parts (s : St) (hn : s.now = 0) (a b : Int) (ha : 0 ≤ a) (hb : 0 ≤ b) (ha2 : a < 200) (hb2 : b < 200) :
    s.tickOk a = true ∧ (s.tick a).tickOk b = true ∧ s.tickOk (a + b) = true ∧ s.told a ++ (s.tick a).told b = s.told (a + b) ∧ (s.tick a).tick b = s.tick (a + b) := by
  have h1 : s.tickOk a = true := decide_eq_true (by rw [hn]; unfold lastT; omega)
  have h3 : s.tickOk (a + b) = true := decide_eq_true (by rw [hn]; unfold lastT; omega)
  have e : s.tick a = ⟨s.now + a, left (s.now + a) s.L⟩ := by unfold St.tick; rw [if_pos h1]
  have hnow : (s.tick a).now = a := by rw [e, hn]; simp
  have h2 : (s.tick a).tickOk b = true := by
    unfold St.tickOk; rw [hnow]; exact decide_eq_true (by unfold lastT; omega)
  have hp := due_parts (show s.now + a ≤ s.now + a + b by omega) s.L
  refine ⟨h1, h2, h3, ?_, ?_⟩
  · unfold St.told
    rw [if_pos h1, if_pos h2, if_pos h3, e]
    simp only
    rw [← Int.add_assoc, ← hp.1]; simp [pidsOf]
  · have e2 : ∀ u : St, u.tickOk b = true → u.tick b = ⟨u.now + b, left (u.now + b) u.L⟩ := fun u hu => by unfold St.tick; rw [if_pos hu]
    have e3 : s.tick (a + b) = ⟨s.now + (a + b), left (s.now + (a + b)) s.L⟩ := by unfold St.tick; rw [if_pos h3]
    rw [e2 _ h2, e3, e]
    simp only
    rw [← Int.add_assoc, hp.2]

/-- Two clocks that lie apart. -/
structure Two (w w' : World) (b : Nat) (A : Option Addr) (c : Nat) (s : St) (d : Nat) (D : Option Addr) (f : Nat) (t : St) : Prop where
  one : Run w w' b A c s
  other : Run w w' d D f t
  ne : b ≠ d
  row : ∀ k, rowB A k → ¬ rowB D k

section
variable {w w' w'' : World} {b c d f c' : Nat} {A A' D : Option Addr} {s s' t : St}
theorem Two.swap (h : Two w w' b A c s d D f t) : Two w w' d D f t b A c s := ⟨h.other, h.one, Ne.symm h.ne, fun k hk hk2 => h.row k hk2 hk⟩
theorem Two.fresh (h : Two w w' b A c s d D f t) (k : Keeps NoB w' w'') : Two w w'' b A c s d D f t := ⟨h.one.fresh k, h.other.fresh k, h.ne, h.row⟩
theorem Two.turn (h : Two w w' b A c s d D f t) (hc : ClockAt w'' b A' c' s') (k : Keeps (clkFp b A) w' w'') (hm : Moved w' A A') : Two w w'' b A' c' s' d D f t := by
  have h1 := h.one.turn hc k hm
  refine ⟨h1, ⟨h.other.at'.keep k ?_, h1.keep, h.other.hb, h.other.hg⟩, h.ne, ?_⟩
  · rintro j (rfl | hj) (e | hj2)
    · exact h.ne e.symm
    · exact h.one.at'.row.ne h.other.at'.blk (by decide) hj2
    · exact h.other.at'.row.ne h.one.at'.blk (by decide) (e ▸ hj)
    · exact h.row j hj2 hj
  · intro j hj hj2
    rcases hm j hj with h2 | h2
    · exact h.row j h2 hj2
    · have := h.other.at'.row.lt hj2; omega
end

theorem Run.ints {w w' w'' : World} {b c k xc : Nat} {A X : Option Addr} {s : St} {xs : List Value} (h : Run w w' b A c s) (hX : Slab w' 3 1 X k xc xs) (hk : Keeps (rowB X) w' w'') (hf : ∀ j, rowB X j → w.heap.size ≤ j) : Run w w'' b A c s :=
  ⟨h.at'.keep hk (fun j hj hx => by
    rcases hj with rfl | hj
    · exact hX.ne h.at'.blk (by decide) hx
    · exact h.at'.row.apart hX (by decide) j hj hx), h.keep.trans' hk (fun _ _ => id) (fun j hj hx => by have := hf j hx; omega), h.hb, h.hg⟩
theorem Two.ints {w w' w'' : World} {b c d f k xc : Nat} {A D X : Option Addr} {s t : St} {xs : List Value} (h : Two w w' b A c s d D f t) (hX : Slab w' 3 1 X k xc xs) (hk : Keeps (rowB X) w' w'') (hf : ∀ j, rowB X j → w.heap.size ≤ j) : Two w w'' b A c s d D f t :=
  ⟨h.one.ints hX hk hf, h.other.ints hX hk hf, h.ne, h.row⟩
theorem St.told_len (s : St) (n : Int) : (s.told n).length ≤ s.L.length := by
  unfold St.told; split
  · rw [List.length_map]; exact (List.takeWhile_sublist _).length_le
  · simp

/-- Steps, as they lie. -/
abbrev Do := Int × Int × Int
def DosAt (w : World) (A : Option Addr) (n : Nat) (D : List Do) : Prop := D.length = n ∧ ∀ (i : Nat) (x : Do), D[i]? = some x → ∃ b o, A = some ⟨b, o, none⟩ ∧ w.cell? ⟨b, o + i * 3, none⟩ = some (.int .i64 x.1) ∧ w.cell? ⟨b, o + i * 3 + 1, none⟩ = some (.int .i64 x.2.1) ∧ w.cell? ⟨b, o + i * 3 + 2, none⟩ = some (.int .i64 x.2.2)
theorem DosAt.keep {w w' : World} {A : Option Addr} {n : Nat} {D : List Do} (h : DosAt w A n D) (hk : Keeps NoB w w') : DosAt w' A n D :=
  ⟨h.1, fun i x hx => by
    obtain ⟨b, o, e, h0, h1, h2⟩ := h.2 i x hx
    exact ⟨b, o, e, hk.cell id h0, hk.cell id h1, hk.cell id h2⟩⟩
theorem DosAt.upto {w : World} {A : Option Addr} {n m : Nat} {D : List Do} (h : DosAt w A n D) (hm : m ≤ n) : DosAt w A m (D.take m) :=
  ⟨by rw [List.length_take, h.1]; omega, fun i x hx => by
    rw [List.getElem?_take] at hx
    split at hx
    · exact h.2 i x hx
    · cases hx⟩
end Go.Proofs.Ytaiphjgklfioeaa
