/- A lent term: in blocks of its own, each list with marks behind its end. Plain lemmas. -/
import Derived.Test.YtmkidkfofbnjgaaLent
namespace Go.Proofs.Ytmkidkfofbnjgaa
open Go.RowKit

def marksC (m : Nat) : List Value := (List.range m).flatMap fun (i : Nat) => markC 1 (i : Int)
theorem marksC_succ (m : Nat) : marksC (m + 1) = marksC m ++ markC 1 (m : Int) := by unfold marksC; rw [List.range_succ, List.flatMap_append]; simp
theorem marksC_len (m : Nat) : (marksC m).length = m * 7 := by
  induction m with
  | zero => rfl
  | succ m ih => rw [marksC_succ, List.length_append, ih]; simp [markC]; omega

/-- Limbs lent: in a block between two. -/
def LimbL (w : World) (lo hi : Nat) (A : Option Addr) (n c : Nat) (xs : List Int) : Prop :=
  ∃ g, A = some ⟨g, 0, none⟩ ∧ lo ≤ g ∧ g < hi ∧ c = n + 12 ∧ xs.length = n ∧ Slab w 92 1 A (n + 12) (n + 12) (xs.map (Value.int .u32) ++ marksL 12)

mutual
/-- Seven cells of a lent term; its blocks lie from lo to hi. -/
def LIn (w : World) : Nat → Nat → List Value → Tm → Prop
  | lo, hi, cs, .mk k neg limbs text num items tail => ∃ la ln lc g im ic g' tn tc css dss m1 m2,
      cs = [.int .u8 k, .bool neg, .slice la ln lc, .string text, .int .i64 num, .slice (some ⟨g, 0, none⟩) im ic, .slice (some ⟨g', 0, none⟩) tn tc] ∧
      (ln ≤ 3000 ∧ im ≤ 3000 ∧ tn ≤ 3000) ∧ LimbL w lo m1 la ln lc limbs ∧
      (m1 ≤ g ∧ ic = im + 12 ∧ css.length = im ∧ Slab w 33 7 (some ⟨g, 0, none⟩) (im + 12) (im + 12) (css.flatten ++ marksC 12) ∧ LsIn w (g + 1) m2 css items) ∧
      (m2 ≤ g' ∧ tc = tn + 12 ∧ dss.length = tn ∧ Slab w 33 7 (some ⟨g', 0, none⟩) (tn + 12) (tn + 12) (dss.flatten ++ marksC 12) ∧ LsIn w (g' + 1) hi dss tail)
def LsIn (w : World) : Nat → Nat → List (List Value) → List Tm → Prop
  | lo, hi, [], [] => lo ≤ hi
  | lo, hi, cs :: css, t :: ts => ∃ m, LIn w lo m cs t ∧ LsIn w m hi css ts
  | _, _, [], _ :: _ => False
  | _, _, _ :: _, [] => False
end

/-- A row of lent terms. -/
def RowL (w : World) (lo hi : Nat) (A : Option Addr) (n c : Nat) (ts : List Tm) : Prop :=
  ∃ g css, A = some ⟨g, 0, none⟩ ∧ lo ≤ g ∧ c = n + 12 ∧ css.length = n ∧ Slab w 33 7 (some ⟨g, 0, none⟩) (n + 12) (n + 12) (css.flatten ++ marksC 12) ∧ LsIn w (g + 1) hi css ts

mutual
theorem LIn.le {w : World} : ∀ {lo hi : Nat} {cs : List Value} {t : Tm}, LIn w lo hi cs t → lo < hi
  | lo, hi, cs, .mk k neg limbs text num items tail, h => by
    unfold LIn at h
    obtain ⟨la, ln, lc, g, im, ic, g', tn, tc, css, dss, m1, m2, _, _, ⟨g0, _, h1, h2, _⟩, ⟨h3, _, _, _, h4⟩, ⟨h5, _, _, _, h6⟩⟩ := h
    have := LsIn.le h4
    have := LsIn.le h6
    omega
theorem LsIn.le {w : World} : ∀ {lo hi : Nat} {css : List (List Value)} {ts : List Tm}, LsIn w lo hi css ts → lo ≤ hi
  | lo, hi, [], [], h => by unfold LsIn at h; exact h
  | lo, hi, cs :: css, t :: ts, h => by
    unfold LsIn at h
    obtain ⟨m, h1, h2⟩ := h
    have := LIn.le h1
    have := LsIn.le h2
    omega
  | _, _, [], _ :: _, h => by unfold LsIn at h; exact h.elim
  | _, _, _ :: _, [], h => by unfold LsIn at h; exact h.elim
end

mutual
theorem LIn.keep {w w' : World} {fp : Nat → Prop} (hk : Keeps fp w w') : ∀ {lo hi : Nat} {cs : List Value} {t : Tm}, LIn w lo hi cs t → (∀ k, lo ≤ k → k < hi → ¬ fp k) → LIn w' lo hi cs t
  | lo, hi, cs, .mk k neg limbs text num items tail, h, hf => by
    unfold LIn at h ⊢
    obtain ⟨la, ln, lc, g, im, ic, g', tn, tc, css, dss, m1, m2, e, hs, ⟨g0, e0, h1, h2, e1, e2, h3⟩, ⟨h4, e3, e4, h5, h6⟩, ⟨h7, e5, e6, h8, h9⟩⟩ := h
    have q1 := LsIn.le h6
    have q2 := LsIn.le h9
    subst e0
    refine ⟨_, ln, lc, g, im, ic, g', tn, tc, css, dss, m1, m2, e, hs, ⟨g0, rfl, h1, h2, e1, e2, h3.keep hk (fun k ⟨o, ek⟩ => by injection ek with ek; injection ek with ek; subst ek; exact hf _ (by omega) (by omega))⟩, ⟨h4, e3, e4, h5.keep hk (fun k ⟨o, ek⟩ => by injection ek with ek; injection ek with ek; subst ek; exact hf _ (by omega) (by omega)), LsIn.keep hk h6 (fun k hk1 hk2 => hf k (by omega) (by omega))⟩, ⟨h7, e5, e6, h8.keep hk (fun k ⟨o, ek⟩ => by injection ek with ek; injection ek with ek; subst ek; exact hf _ (by omega) (by omega)), LsIn.keep hk h9 (fun k hk1 hk2 => hf k (by omega) (by omega))⟩⟩
theorem LsIn.keep {w w' : World} {fp : Nat → Prop} (hk : Keeps fp w w') : ∀ {lo hi : Nat} {css : List (List Value)} {ts : List Tm}, LsIn w lo hi css ts → (∀ k, lo ≤ k → k < hi → ¬ fp k) → LsIn w' lo hi css ts
  | lo, hi, [], [], h, _ => by unfold LsIn at h ⊢; exact h
  | lo, hi, cs :: css, t :: ts, h, hf => by
    unfold LsIn at h ⊢
    obtain ⟨m, h1, h2⟩ := h
    have q1 := LIn.le h1
    have q2 := LsIn.le h2
    exact ⟨m, LIn.keep hk h1 (fun k hk1 hk2 => hf k hk1 (by omega)), LsIn.keep hk h2 (fun k hk1 hk2 => hf k (by omega) hk2)⟩
  | _, _, [], _ :: _, h, _ => by unfold LsIn at h; exact h.elim
  | _, _, _ :: _, [], h, _ => by unfold LsIn at h; exact h.elim
end

theorem take_front {xs ys : List Value} {k : Nat} (h : xs.length = k) : (xs ++ ys).take k = xs := by subst h; exact List.take_left

mutual
theorem LIn.len {w : World} : ∀ {lo hi : Nat} {cs : List Value} {t : Tm}, LIn w lo hi cs t → cs.length = 7
  | lo, hi, cs, .mk k neg limbs text num items tail, h => by
    unfold LIn at h
    obtain ⟨la, ln, lc, g, im, ic, g', tn, tc, css, dss, m1, m2, rfl, _⟩ := h
    rfl
theorem LsIn.lens {w : World} : ∀ {lo hi : Nat} {css : List (List Value)} {ts : List Tm}, LsIn w lo hi css ts → css.length = ts.length ∧ ∀ c ∈ css, c.length = 7
  | lo, hi, [], [], h => ⟨rfl, fun _ h => by cases h⟩
  | lo, hi, cs :: css, t :: ts, h => by
    unfold LsIn at h
    obtain ⟨m, h1, h2⟩ := h
    have q1 := LIn.len h1
    obtain ⟨q2, q3⟩ := LsIn.lens h2
    refine ⟨by simp [q2], fun c hc => ?_⟩
    rcases List.mem_cons.1 hc with rfl | hc
    · exact q1
    · exact q3 c hc
  | _, _, [], _ :: _, h => by unfold LsIn at h; exact h.elim
  | _, _, _ :: _, [], h => by unfold LsIn at h; exact h.elim
end

mutual
/-- A lent term reads as a term. -/
theorem LIn.term {w : World} {B : Nat → Prop} : ∀ {lo hi : Nat} {cs : List Value} {t : Tm}, LIn w lo hi cs t → (∀ k, lo ≤ k → k < hi → B k) → TermIn w B true cs t
  | lo, hi, cs, .mk k neg limbs text num items tail, h, hB => by
    unfold LIn at h
    unfold TermIn
    obtain ⟨la, ln, lc, g, im, ic, g', tn, tc, css, dss, m1, m2, e, ⟨s1, s2, s3⟩, ⟨g0, e0, h1, h2, e1, e2, h3⟩, ⟨h4, e3, e4, h5, h6⟩, ⟨h7, e5, e6, h8, h9⟩⟩ := h
    have q1 := LsIn.le h6
    have q2 := LsIn.le h9
    have l1 := LsIn.lens h6
    have l2 := LsIn.lens h9
    subst e0
    refine ⟨_, ln, lc, _, im, ic, _, tn, tc, css, dss, e, ⟨Roomy.small (by omega) (by omega), Roomy.small (by omega) (by omega), Roomy.small (by omega) (by omega)⟩, ?_, ?_, LsIn.term h6 (fun k hk1 hk2 => hB k (by omega) (by omega)), ?_, LsIn.term h9 (fun k hk1 hk2 => hB k (by omega) (by omega))⟩
    · have := (Slab.part h3 (i := ln) (by omega)).more (B' := B) (fun k _ ⟨o, ek⟩ => by injection ek with ek; injection ek with ek; subst ek; exact hB _ (by omega) (by omega))
      rwa [take_front (by simp [e2])] at this
    · have := (Slab.part h5 (i := im) (by omega)).more (B' := B) (fun k _ ⟨o, ek⟩ => by injection ek with ek; injection ek with ek; subst ek; exact hB _ (by omega) (by omega))
      rwa [take_front (by rw [flat_len l1.2, e4])] at this
    · have := (Slab.part h8 (i := tn) (by omega)).more (B' := B) (fun k _ ⟨o, ek⟩ => by injection ek with ek; injection ek with ek; subst ek; exact hB _ (by omega) (by omega))
      rwa [take_front (by rw [flat_len l2.2, e6])] at this
theorem LsIn.term {w : World} {B : Nat → Prop} : ∀ {lo hi : Nat} {css : List (List Value)} {ts : List Tm}, LsIn w lo hi css ts → (∀ k, lo ≤ k → k < hi → B k) → TermsIn w B true css ts
  | lo, hi, [], [], h, _ => by unfold TermsIn; trivial
  | lo, hi, cs :: css, t :: ts, h, hB => by
    unfold LsIn at h
    obtain ⟨m, h1, h2⟩ := h
    have q1 := LIn.le h1
    have q2 := LsIn.le h2
    unfold TermsIn
    exact ⟨LIn.term h1 (fun k hk1 hk2 => hB k hk1 (by omega)), LsIn.term h2 (fun k hk1 hk2 => hB k (by omega) hk2)⟩
  | _, _, [], _ :: _, h, _ => by unfold LsIn at h; exact h.elim
  | _, _, _ :: _, [], h, _ => by unfold LsIn at h; exact h.elim
end

theorem LsIn.up {w : World} {hi hi' : Nat} (hh : hi ≤ hi') : ∀ {lo : Nat} {css : List (List Value)} {ts : List Tm}, LsIn w lo hi css ts → LsIn w lo hi' css ts
  | lo, [], [], h => by unfold LsIn at h ⊢; omega
  | lo, cs :: css, t :: ts, h => by
    unfold LsIn at h ⊢
    obtain ⟨m, h1, h2⟩ := h
    exact ⟨m, h1, LsIn.up hh h2⟩
  | _, [], _ :: _, h => by unfold LsIn at h; exact h.elim
  | _, _ :: _, [], h => by unfold LsIn at h; exact h.elim
mutual
theorem LIn.down {w : World} {lo lo' : Nat} (hl : lo' ≤ lo) : ∀ {hi : Nat} {cs : List Value} {t : Tm}, LIn w lo hi cs t → LIn w lo' hi cs t
  | hi, cs, .mk k neg limbs text num items tail, h => by
    unfold LIn at h ⊢
    obtain ⟨la, ln, lc, g, im, ic, g', tn, tc, css, dss, m1, m2, e, hs, ⟨g0, e0, h1, h2⟩, h3⟩ := h
    exact ⟨la, ln, lc, g, im, ic, g', tn, tc, css, dss, m1, m2, e, hs, ⟨g0, e0, by omega, h2⟩, h3⟩
end
theorem LsIn.down {w : World} {lo lo' hi : Nat} (hl : lo' ≤ lo) : ∀ {css : List (List Value)} {ts : List Tm}, LsIn w lo hi css ts → LsIn w lo' hi css ts
  | [], [], h => by unfold LsIn at h ⊢; omega
  | cs :: css, t :: ts, h => by
    unfold LsIn at h ⊢
    obtain ⟨m, h1, h2⟩ := h
    exact ⟨m, LIn.down hl h1, h2⟩
  | [], _ :: _, h => by unfold LsIn at h; exact h.elim
  | _ :: _, [], h => by unfold LsIn at h; exact h.elim
theorem LsIn.snoc {w : World} {m hi : Nat} {cs : List Value} {t : Tm} (ht : LIn w m hi cs t) : ∀ {lo : Nat} {css : List (List Value)} {ts : List Tm}, LsIn w lo m css ts → LsIn w lo hi (css ++ [cs]) (ts ++ [t])
  | lo, [], [], h => by
    unfold LsIn at h
    show LsIn w lo hi [cs] [t]
    unfold LsIn
    exact ⟨hi, LIn.down h ht, by unfold LsIn; exact Nat.le_refl _⟩
  | lo, c :: css, u :: ts, h => by
    unfold LsIn at h
    obtain ⟨m', h1, h2⟩ := h
    show LsIn w lo hi (c :: (css ++ [cs])) (u :: (ts ++ [t]))
    unfold LsIn
    exact ⟨m', h1, LsIn.snoc ht h2⟩
  | _, [], _ :: _, h => by unfold LsIn at h; exact h.elim
  | _, _ :: _, [], h => by unfold LsIn at h; exact h.elim
end Go.Proofs.Ytmkidkfofbnjgaa
