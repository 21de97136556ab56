/- The box in memory, and its letters; plain lemmas. -/
import Derived.Test.YtmkidkfofbnjgaaOwnTop
namespace Go.Proofs.Ytmkidkfofbnjgaa
open Go.RowKit

mutual
theorem TermIn.weak {w : World} {B : Nat → Prop} {F : Bool} : ∀ (t : Tm) (cs : List Value), TermIn w B F cs t → TermIn w B false cs t
  | .mk k neg limbs text num items tail, cs, h => by
    unfold TermIn at h ⊢
    obtain ⟨la, ln, lc, ia, im, ic, ta, tn, tc, css, dss, e, hb, h1, h2, h3, h4, h5⟩ := h
    exact ⟨la, ln, lc, ia, im, ic, ta, tn, tc, css, dss, e, hb, h1.weak, h2.weak, TermsIn.weak items css h3, h4.weak, TermsIn.weak tail dss h5⟩
theorem TermsIn.weak {w : World} {B : Nat → Prop} {F : Bool} : ∀ (ts : List Tm) (css : List (List Value)), TermsIn w B F css ts → TermsIn w B false css ts
  | [], [], _ => by unfold TermsIn; trivial
  | t :: ts, cs :: css, h => by
    unfold TermsIn at h ⊢
    exact ⟨TermIn.weak t cs h.1, TermsIn.weak ts css h.2⟩
  | [], _ :: _, h => by unfold TermsIn at h; exact h.elim
  | _ :: _, [], h => by unfold TermsIn at h; exact h.elim
end

theorem Blk.put7 {w : World} {g : Nat} {t : TypeId} {a0 a1 a2 a3 a4 a5 a6 : Value} (h : Blk w g t #[a0, a1, a2, a3, a4, a5, a6]) (v0 v1 v2 v3 v4 v5 v6 : Value) :
    Blk (((((((w.setCell ⟨g, 0, none⟩ v0).setCell ⟨g, 1, none⟩ v1).setCell ⟨g, 2, none⟩ v2).setCell ⟨g, 3, none⟩ v3).setCell ⟨g, 4, none⟩ v4).setCell ⟨g, 5, none⟩ v5).setCell ⟨g, 6, none⟩ v6) g t #[v0, v1, v2, v3, v4, v5, v6] := by
  have := ((((((h.put 0 v0).put 1 v1).put 2 v2).put 3 v3).put 4 v4).put 5 v5).put 6 v6
  simpa using this

theorem TermIn.cells {w : World} {B : Nat → Prop} {F : Bool} {cs : List Value} {t : Tm} (h : TermIn w B F cs t) :
    ∃ kd ng la ln lc tx nm ia im ic ta tn tc, cs = [.int .u8 kd, .bool ng, .slice la ln lc, .string tx, .int .i64 nm, .slice ia im ic, .slice ta tn tc] ∧ kd = t.kind ∧ tx = t.text ∧ nm = t.num := by
  cases t
  unfold TermIn at h
  obtain ⟨la, ln, lc, ia, im, ic, ta, tn, tc, css, dss, e, _⟩ := h
  exact ⟨_, _, la, ln, lc, _, _, ia, im, ic, ta, tn, tc, e, rfl, rfl, rfl⟩

theorem Reads.sub {w : World} {B : Nat → Prop} {F : Bool} {g o n i : Nat} {css : List (List Value)} {c : List Value} (h : Reads w B F 7 (some ⟨g, o, none⟩) n css.flatten) (h7 : ∀ c ∈ css, c.length = 7) (hi : css[i]? = some c) :
    Reads w B F 7 (some ⟨g, o + i * 7, none⟩) 1 (List.flatten [c]) := by
  obtain ⟨hlt, he⟩ := List.getElem?_eq_some_iff.1 hi
  have hc7 : c.length = 7 := h7 c (he ▸ List.getElem_mem hlt)
  have hn : css.length = n := by have := h.1; rw [flat_len h7] at this; omega
  refine ⟨by simp [hc7], fun _ => ?_⟩
  obtain ⟨ad, e, hs, hb, hl, hcell⟩ := h.2 (by omega)
  injection e with e
  subst e
  refine ⟨_, rfl, rfl, hb, hl, fun j u hu => ?_⟩
  have hj : j < 7 := by
    have := (List.getElem?_eq_some_iff.1 hu).1
    simp at this; omega
  have := hcell (i * 7 + j) u (by rw [flat_get h7 i hlt j hj, he]; simpa using hu)
  simpa [Nat.add_assoc] using this

/-- A letter: its seven cells, what they read as, and the blocks that are its own. -/
structure Lt where
  cs : List Value
  t : Tm
  lo : Nat
  hi : Nat

def Lt.ok (w : World) (x : Lt) : Prop := TermIn w (fun k => x.lo ≤ k ∧ k < x.hi) true x.cs x.t ∧ x.lo ≤ x.hi ∧ x.hi ≤ w.heap.size
def Lt.misses (x : Lt) (k : Nat) : Prop := k < x.lo ∨ x.hi ≤ k

abbrev cellsOf (L : List Lt) : List (List Value) := L.map (·.cs)

/-- The program's box: block b; its row of letters; each letter in blocks of its own. -/
structure BoxAt (w : World) (b : Nat) (sv : Value) (L : List Lt) (at' : Nat) : Prop where
  blk : Blk w b 61 #[sv, .int .i64 at', .bool true]
  row : w.ownsRow 0 33 7 sv L.length (cellsOf L).flatten
  ok : ∀ x ∈ L, x.ok w
  off : ∀ x ∈ L, x.misses b ∧ ∀ g, sv.ownBlock = some g → x.misses g
  apart : L.Pairwise fun x y => x.hi ≤ y.lo

/-- The blocks that the box itself writes. -/
abbrev boxFp (b : Nat) (sv : Value) : Nat → Prop := fun k => k = b ∨ sv.ownBlock = some k

theorem Lt.ok.len {w : World} {x : Lt} (h : x.ok w) : x.cs.length = 7 := h.1.len
theorem Lt.ok.keep {w w' : World} {x : Lt} {fp : Nat → Prop} (h : x.ok w) (hk : Keeps fp w w') (hf : ∀ k, fp k → x.misses k) : x.ok w' :=
  ⟨TermIn.keep hk (fun k hB hfk => by rcases hf k hfk with h | h <;> omega) _ _ h.1, h.2.1, Nat.le_trans h.2.2 hk.size⟩

theorem ownsRow_ne {w : World} {b : Nat} {e t : TypeId} {size n base : Nat} {v : Value} {xs : List Value} {cs : Array Value} (h : w.ownsRow base e size v n xs) (hb : Blk w b t cs) (hne : e ≠ t) : v.ownBlock ≠ some b := by
  intro hg
  rcases h.2 with ⟨rfl, _⟩ | ⟨g, cap, cur, rfl, _, hh, _⟩
  · simp [Value.ownBlock] at hg
  · simp [Value.ownBlock] at hg
    subst hg
    exact hne (Blk.one (t := e) (t' := t) hh hb).1

theorem ownsRow_keep {w w' : World} {e : TypeId} {size n base : Nat} {v : Value} {xs : List Value} {fp : Nat → Prop} (h : w.ownsRow base e size v n xs) (hk : Keeps fp w w') (hg : ∀ g, v.ownBlock = some g → ¬ fp g) : w'.ownsRow base e size v n xs := by
  refine ⟨h.1, ?_⟩
  rcases h.2 with h0 | ⟨g, cap, cur, rfl, h1, h2, h3⟩
  · exact .inl h0
  · exact .inr ⟨g, cap, cur, rfl, h1, (hk.block g (Blk.lt (t := e) h2) (hg g rfl)).trans h2, h3⟩
theorem ownsRow_lt {w : World} {e : TypeId} {size n base : Nat} {v : Value} {xs : List Value} (h : w.ownsRow base e size v n xs) {g : Nat} (hg : v.ownBlock = some g) : g < w.heap.size := (h.lt g hg).2

theorem row_at {w : World} {g c i : Nat} {L : List Lt} {x : Lt} (hrow : w.ownsRow 0 33 7 (.slice (some ⟨g, 0, none⟩) L.length c) L.length (cellsOf L).flatten) (h7 : ∀ c ∈ cellsOf L, c.length = 7) (hx : L[i]? = some x) :
    Reads w (fun _ => True) true 7 (some ⟨g, i * 7, none⟩) 1 (List.flatten [x.cs]) := by
  have := Reads.sub ((Reads.of_own hrow).more (B' := fun _ => True) (fun _ _ _ => trivial)) h7 (i := i) (c := x.cs) (by simp [cellsOf, hx])
  simpa using this

section
variable {w w' : World} {b : Nat} {sv : Value} {L : List Lt} {i : Nat} {fp : Nat → Prop}
theorem BoxAt.sep (h : BoxAt w b sv L i) : sv.ownBlock ≠ some b := ownsRow_ne h.row h.blk (by decide)
theorem BoxAt.lens (h : BoxAt w b sv L i) : ∀ c ∈ cellsOf L, c.length = 7 := by
  intro c hc
  obtain ⟨x, hx, rfl⟩ := List.mem_map.1 hc
  exact (h.ok x hx).len
/-- What leaves the box's blocks and its letters' alone leaves the box as it is. -/
theorem BoxAt.keep (h : BoxAt w b sv L i) (hk : Keeps fp w w') (hb : ¬ fp b) (hg : ∀ g, sv.ownBlock = some g → ¬ fp g) (hl : ∀ x ∈ L, ∀ k, fp k → x.misses k) : BoxAt w' b sv L i := by
  refine ⟨h.blk.keep hk hb, ?_, fun x hx => (h.ok x hx).keep hk (hl x hx), h.off, h.apart⟩
  refine ⟨h.row.1, ?_⟩
  rcases h.row.2 with h0 | ⟨g, cap, cur, rfl, h1, h2, h3⟩
  · exact .inl h0
  · exact .inr ⟨g, cap, cur, rfl, h1, (hk.block g (Blk.lt (t := 33) h2) (hg g rfl)).trans h2, h3⟩
theorem BoxAt.fresh (h : BoxAt w b sv L i) (hk : Keeps NoB w w') : BoxAt w' b sv L i := h.keep hk id (fun _ _ => id) (fun _ _ _ hf => hf.elim)
end

end Go.Proofs.Ytmkidkfofbnjgaa
