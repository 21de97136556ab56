/- Lists that lie apart, marked, and what has grown of them. -/
import Derived.Test.YtjmljjmnamfljaaGreatFlatLaw
namespace Go.Proofs.YtjmljjmnamfljaaGreat
open Go.RowKit

section
variable {w wr w' : World} {K cO : Nat} {O : Option Addr} {L : Nat → Ld} {p : Nat → Nat}
/-- What is written in list k leaves the others. -/
theorem P1.put {k j g o : Nat} (h : P1 w wr K O cO L p) (hk : k < K) (hA : (L k).A = some ⟨g, o, none⟩) (hp : p k = j) (hj : j < (L k).n) : P1 w (wr.setCell ⟨g, o + j, none⟩ (.int .i64 (mkI k j))) K O cO L (fun x => if x = k then j + 1 else p x) := by
  have hkp : Keeps (fun b => b = g) wr (wr.setCell ⟨g, o + j, none⟩ (.int .i64 (mkI k j))) := (Keeps.refl (fun b => b = g) wr).setCell (p := ⟨g, o + j, none⟩) (.inl rfl) _
  have hrow : rowB (L k).A g := ⟨o, hA⟩
  refine ⟨?_, fun x hx => ?_, h.ap, h.kp.trans' hkp (fun _ _ h => h) (fun b _ e => ⟨k, hk, by rw [e]; exact hrow⟩)⟩
  · refine h.out.keep hkp (fun b hb e => ?_)
    obtain ⟨ys, h1, _⟩ := h.ls k hk
    exact slab_apart h.out h1 (by decide) b hb (e ▸ hrow)
  · by_cases e : x = k
    · subst e
      simp only [if_true]
      have hm := h.ls x hx
      rw [hA, hp] at hm
      rw [hA]
      exact hm.put hj
    · rw [if_neg e]
      exact (h.ls x hx).keep hkp (fun b hb e2 => h.ap x k hx hk e b hb (e2 ▸ hrow))
theorem P1.cong {q : Nat → Nat} (h : P1 w wr K O cO L p) (he : ∀ k, k < K → q k ≤ p k) : P1 w wr K O cO L q := ⟨h.out, fun k hk => (h.ls k hk).less (he k hk), h.ap, h.kp⟩
end

/-- The lists, all marked; a row for what has grown; the first k0 of these, so many of each marked. -/
structure P2 (w wr : World) (K : Nat) (O : Option Addr) (cO : Nat) (L : Nat → Ld) (gb : Nat) (G : Nat → Ld) (k0 : Nat) (lim : Nat → Nat) : Prop where
  base : P1 w wr K O cO L (fun k => (L k).n)
  row : ∃ ys, Slab wr 25 1 (some ⟨gb, 0, none⟩) K K ys ∧ ∀ k, k < k0 → ys[k]? = some (.slice (G k).A ((L k).n + 64) (G k).c)
  gm : ∀ k, k < k0 → Marked wr (G k).A ((L k).n + 64) (G k).c k (lim k)
  g1 : ∀ k j, k < k0 → j < K → j ≠ k → ∀ b, rowB (G k).A b → ¬ rowB (L j).A b
  g2 : ∀ k j, k < k0 → j < k0 → j ≠ k → ∀ b, rowB (G k).A b → ¬ rowB (G j).A b
  gn : w.heap.size ≤ gb
  og : ¬ rowB O gb

/-- A list that has grown out of the k0-th: where that lies, or in a block that is nobody's. -/
def Mine (w : World) (K : Nat) (L : Nat → Ld) (G : Nat → Ld) (k0 : Nat) (A : Option Addr) (c : Nat) : Prop :=
  (A = (L k0).A ∧ c = (L k0).c) ∨ ∀ b, rowB A b → (∀ j, j < K → ¬ rowB (L j).A b) ∧ (∀ j, j < k0 → ¬ rowB (G j).A b) ∧ w.heap.size ≤ b

section
variable {w wr w' : World} {K cO gb k0 : Nat} {O : Option Addr} {L G : Nat → Ld} {lim : Nat → Nat}
theorem P2.fresh (h : P2 w wr K O cO L gb G k0 lim) (hk : Keeps NoB wr w') : P2 w w' K O cO L gb G k0 lim := by
  obtain ⟨ys, h1, h2⟩ := h.row
  exact ⟨h.base.fresh hk, ⟨ys, h1.fresh hk, h2⟩, fun k hk1 => (h.gm k hk1).fresh hk, h.g1, h.g2, h.gn, h.og⟩
/-- What is written in a list of numbers that is nobody's leaves all. -/
theorem P2.keepInts {A : Option Addr} {n c k q : Nat} (h : P2 w wr K O cO L gb G k0 lim) (hA : Marked wr A n c k q) (hk : Keeps (rowB A) wr w') (hl : ∀ b, rowB A b → (∀ j, j < K → ¬ rowB (L j).A b) ∧ (∀ j, j < k0 → ¬ rowB (G j).A b) ∧ w.heap.size ≤ b) : P2 w w' K O cO L gb G k0 lim := by
  obtain ⟨ys, h1, h2⟩ := h.row
  obtain ⟨zs, hz, _⟩ := id hA
  refine ⟨⟨h.base.keepOut hA hk, fun j hj => (h.base.ls j hj).keep hk (fun b hb hr => (hl b hr).1 j hj hb), h.base.ap, h.base.kp.trans' hk (fun _ _ h => h) (fun b hb hr => by have := (hl b hr).2.2; omega)⟩, ⟨ys, h1.keep hk (fun b hb hr => slab_apart h1 hz (by decide) b hb hr), h2⟩, fun j hj => (h.gm j hj).keep hk (fun b hb hr => (hl b hr).2.1 j hj hb), h.g1, h.g2, h.gn, h.og⟩
/-- The k0-th list grown on where it lies. -/
theorem P2.keepList {n' q : Nat} (h : P2 w wr K O cO L gb G k0 lim) (hk0 : k0 < K) (hk : Keeps (rowB (L k0).A) wr w') (hm : Marked w' (L k0).A n' (L k0).c k0 q) (hn : (L k0).n ≤ n') (hq : (L k0).n ≤ q) : P2 w w' K O cO L gb G k0 lim := by
  obtain ⟨ys, h1, h2⟩ := h.row
  have hA := h.base.ls k0 hk0
  obtain ⟨zs, hz, _⟩ := id hA
  refine ⟨⟨h.base.keepOut hA hk, fun j hj => ?_, h.base.ap, h.base.kp.trans' hk (fun _ _ h => h) (fun b hb hr => ⟨k0, hk0, hr⟩)⟩, ⟨ys, h1.keep hk (fun b hb hr => slab_apart h1 hz (by decide) b hb hr), h2⟩, fun j hj => (h.gm j hj).keep hk (fun b hb hr => h.g1 j k0 hj hk0 (by omega) b hb hr), h.g1, h.g2, h.gn, h.og⟩
  by_cases e : j = k0
  · subst e
    exact (hm.less hq).upto hn
  · exact (h.base.ls j hj).keep hk (fun b hb hr => h.base.ap j k0 hj hk0 e b hb hr)

/-- One more behind a list that grows. -/
theorem P2.grow {A A' : Option Addr} {c c' i : Nat} {ys : List Value} (h : P2 w wr K O cO L gb G k0 lim) (hk0 : k0 < K) (hA : Slab wr 3 1 A ((L k0).n + i) c ys) (hy : ∀ j, j < (L k0).n + i → ys[j]? = some (.int .i64 (mkI k0 j))) (hM : Mine w K L G k0 A c) (m : Nat) (news : List Value)
    (hs : Slab w' 3 1 A' ((L k0).n + i + m) c' (ys ++ news)) (hg : Grew wr w' A c A' c') : P2 w w' K O cO L gb G k0 lim ∧ Mine w K L G k0 A' c' := by
  have hyl : ys.length = (L k0).n + i := by have := hA.1; omega
  rcases hg with ⟨rfl, rfl, hk⟩ | ⟨hnew, hk⟩
  · refine ⟨?_, hM⟩
    rcases hM with ⟨rfl, rfl⟩ | hM
    · exact h.keepList hk0 hk (q := (L k0).n) ⟨_, hs, fun j hj => by rw [List.getElem?_append_left (by omega)]; exact hy j (by omega)⟩ (by omega) (Nat.le_refl _)
    · exact h.keepInts ⟨ys, hA, hy⟩ hk hM
  · refine ⟨h.fresh hk, .inr fun b hb => ?_⟩
    have hb2 := hnew b hb
    refine ⟨fun j hj hr => ?_, fun j hj hr => ?_, Nat.le_trans h.base.kp.size hb2⟩
    · have := (h.base.ls j hj).lt hr; omega
    · have := (h.gm j hj).lt hr; omega
/-- It is laid down in the row. -/
theorem P2.lay {A : Option Addr} {c : Nat} (h : P2 w wr K O cO L gb G k0 lim) (hk0 : k0 < K) (hm : Marked wr A ((L k0).n + 64) c k0 (lim k0)) (hM : Mine w K L G k0 A c) :
    P2 w (wr.setCell ⟨gb, k0, none⟩ (.slice A ((L k0).n + 64) c)) K O cO L gb (fun x => if x = k0 then ⟨A, 0, c⟩ else G x) (k0 + 1) lim := by
  obtain ⟨ys, h1, h2⟩ := h.row
  have hkp : Keeps (fun b => b = gb) wr (wr.setCell ⟨gb, k0, none⟩ (.slice A ((L k0).n + 64) c)) := (Keeps.refl (fun b => b = gb) wr).setCell (p := ⟨gb, k0, none⟩) (.inl rfl) _
  have hint : ∀ {B : Option Addr} {n c k q : Nat}, Marked wr B n c k q → ∀ b, rowB B b → ¬ b = gb := by
    rintro B n c k q ⟨zs, hz, _⟩ b hb rfl
    exact slab_apart h1 hz (by decide) b ⟨0, rfl⟩ hb
  refine ⟨⟨h.base.out.keep hkp (fun b hb e => h.og (e ▸ hb)), fun j hj => (h.base.ls j hj).keep hkp (hint (h.base.ls j hj)), h.base.ap, h.base.kp.trans' hkp (fun _ _ h => h) (fun b hb e => by have := h.gn; omega)⟩, ?_, fun j hj => ?_, fun k j hk hj hne b hb => ?_, fun k j hk hj hne b hb => ?_, h.gn, h.og⟩
  · refine ⟨ys.set k0 (.slice A ((L k0).n + 64) c), by have := h1.put (j := k0) hk0 (.slice A ((L k0).n + 64) c); rw [Nat.zero_add] at this; exact this, fun k hk => ?_⟩
    by_cases e : k0 = k
    · subst e; rw [List.getElem?_set_self (by have := h1.1; omega)]; simp
    · rw [List.getElem?_set_ne e, if_neg (Ne.symm e)]; exact h2 k (by omega)
  · by_cases e : j = k0
    · subst e; simp only [if_true]; exact hm.keep hkp (hint hm)
    · rw [if_neg e]; exact (h.gm j (by omega)).keep hkp (hint (h.gm j (by omega)))
  · by_cases e : k = k0
    · subst e
      simp only [if_true] at hb
      rcases hM with ⟨rfl, _⟩ | hM
      · exact h.base.ap k j hk0 hj (Ne.symm hne) b hb
      · exact (hM b hb).1 j hj
    · rw [if_neg e] at hb; exact h.g1 k j (by omega) hj hne b hb
  · by_cases e : k = k0
    · subst e
      simp only [if_true] at hb
      rw [if_neg hne]
      rcases hM with ⟨rfl, _⟩ | hM
      · exact fun hr => h.g1 j k (by omega) hk0 (Ne.symm hne) b hr hb
      · exact (hM b hb).2.1 j (by omega)
    · rw [if_neg e] at hb
      by_cases e2 : j = k0
      · subst e2
        simp only [if_true]
        rcases hM with ⟨rfl, _⟩ | hM
        · exact h.g1 k j (by omega) hk0 (Ne.symm e) b hb
        · exact fun hr => (hM b hr).2.1 k (by omega) hb
      · rw [if_neg e2]; exact h.g2 k j (by omega) (by omega) hne b hb
end
end Go.Proofs.YtjmljjmnamfljaaGreat
