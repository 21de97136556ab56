/- Both boxes beside each other: the program's, and the document's. Plain lemmas. -/
import Derived.Test.YtmkidkfofbnjgaaRefPut
import Derived.Test.YtmkidkfofbnjgaaAwake
namespace Go.Proofs.Ytmkidkfofbnjgaa
open Go.RowKit

/-- From w on nothing that was there has turned; behind it lie the program's box and the document's, apart; the document's letters are of what was there. -/
structure Pair (w w' : World) (b : Nat) (sv : Value) (L : List Lt) (i : Nat) (r : Nat) (A : Option Addr) (c : Nat) (css : List (List Value)) (us : List Tm) (j : Nat) : Prop where
  one : Run w w' b sv L i
  ref : RefAt w' r A c css us (fun k => k < w.heap.size) j
  hr : w.heap.size ≤ r
  hA : ∀ k, rowB A k → w.heap.size ≤ k
  sep : ∀ k, boxFp b sv k → ¬ refFp r A k
  off : ∀ x ∈ L, ∀ k, refFp r A k → x.misses k
  low : ∀ x ∈ L, w.heap.size ≤ x.lo

section
variable {w w' w'' : World} {b r c c' i j i' j' : Nat} {sv sv' : Value} {A A' : Option Addr} {L L' : List Lt} {css css' : List (List Value)} {us us' : List Tm}
theorem RefAt.lt {B : Nat → Prop} (h : RefAt w r A c css us B i) (k : Nat) (hk : refFp r A k) : k < w.heap.size := by
  rcases hk with rfl | hk
  · exact h.blk.lt
  · exact h.row.lt hk
theorem RefAt.len {B : Nat → Prop} (h : RefAt w r A c css us B i) : css.length = us.length := h.ok.lens.1
theorem Run.lt (h : Run w w' b sv L i) (k : Nat) (hk : boxFp b sv k) : k < w'.heap.size := by
  rcases hk with rfl | hk
  · exact h.box.blk.lt
  · exact ownsRow_lt h.box.row hk
theorem Pair.refB (h : Pair w w' b sv L i r A c css us j) (k : Nat) (hk : k < w.heap.size) : ¬ refFp r A k := by
  rintro (rfl | hf)
  · have := h.hr; omega
  · have := h.hA k hf; omega
theorem Pair.fresh (h : Pair w w' b sv L i r A c css us j) (k : Keeps NoB w' w'') : Pair w w'' b sv L i r A c css us j :=
  ⟨h.one.fresh k, h.ref.fresh k, h.hr, h.hA, h.sep, h.off, h.low⟩
/-- The program's box does a step. -/
theorem Pair.box (h : Pair w w' b sv L i r A c css us j) (k : Keeps (boxFp b sv) w' w'') (hbox : BoxAt w'' b sv' L' i') (hsv : sv'.ownBlock = sv.ownBlock ∨ ∃ g, sv'.ownBlock = some g ∧ w'.heap.size ≤ g) (hL : ∀ x ∈ L', x ∈ L ∨ w'.heap.size ≤ x.lo) : Pair w w'' b sv' L' i' r A c css us j := by
  refine ⟨h.one.turn k hbox hsv, h.ref.keep k (fun k h1 h2 => h.sep k h2 h1) (fun k hk hf => ?_), h.hr, h.hA, fun k hk hf => ?_, fun x hx k hf => ?_, fun x hx => (hL x hx).elim (h.low x) (fun e => Nat.le_trans h.one.keep.size e)⟩
  · rcases hf with rfl | hf
    · have := h.one.hb; omega
    · have := h.one.hg k hf; omega
  · rcases hk with rfl | hk
    · exact h.sep _ (.inl rfl) hf
    · rcases hsv with e | ⟨g, e, hg⟩
      · exact h.sep k (.inr (e ▸ hk)) hf
      · rw [e] at hk; injection hk with hk; subst hk
        have := h.ref.lt _ hf; omega
  · rcases hL x hx with h1 | h1
    · exact h.off x h1 k hf
    · have := h.ref.lt _ hf; exact .inl (by omega)
/-- The document's box does a step. -/
theorem Pair.doc (h : Pair w w' b sv L i r A c css us j) (k : Keeps (refFp r A) w' w'') (href : RefAt w'' r A' c' css' us' (fun k => k < w.heap.size) j') (hm : Moved w' A A') : Pair w w'' b sv L i r A' c' css' us' j' := by
  have hs := h.one.keep.size
  refine ⟨⟨h.one.box.keep k (h.sep b (.inl rfl)) (fun g hg => h.sep g (.inr hg)) (fun x hx k hf => h.off x hx k hf), h.one.keep.trans' k (fun _ _ => id) (fun k hk hf => h.refB k hk hf), h.one.hb, h.one.hg⟩, href, h.hr, fun k hk => (hm k hk).elim (h.hA k) (fun e => by omega), fun k hk hf => ?_, fun x hx k hf => ?_, h.low⟩
  · rcases hf with rfl | hf
    · exact h.sep _ hk (.inl rfl)
    · rcases hm k hf with h1 | h1
      · exact h.sep k hk (.inr h1)
      · have := h.one.lt k hk; omega
  · rcases hf with rfl | hf
    · exact h.off x hx _ (.inl rfl)
    · rcases hm k hf with h1 | h1
      · exact h.off x hx k (.inr h1)
      · have := (h.one.box.ok x hx).2.2; exact .inr (by omega)
end

/-- Both new. -/
theorem pair_new (w w0 : World) (h : Keeps NoB w w0) : Pair w ((w0.alloc (.cells #[.slice none 0 0, .int .i64 0, .bool true] 61)).alloc (.cells #[.slice none 0 0, .int .i64 0] 27)) w0.heap.size (.slice none 0 0) [] 0 (w0.heap.size + 1) none 0 [] [] 0 := by
  have hs := h.size
  have h1 : Run w (w0.alloc (.cells #[.slice none 0 0, .int .i64 0, .bool true] 61)) w0.heap.size (.slice none 0 0) [] 0 := ⟨box_new w0, h.alloc _, hs, fun g hg => by simp [Value.ownBlock] at hg⟩
  have h2 := h1.fresh ((Keeps.refl NoB (w0.alloc (.cells #[.slice none 0 0, .int .i64 0, .bool true] 61))).alloc (.cells #[.slice none 0 0, .int .i64 0] 27))
  have hb : Blk ((w0.alloc (.cells #[.slice none 0 0, .int .i64 0, .bool true] 61)).alloc (.cells #[.slice none 0 0, .int .i64 0] 27)) (w0.heap.size + 1) 27 #[.slice none 0 0, .int .i64 0] := by
    have := Blk.new (w0.alloc (.cells #[.slice none 0 0, .int .i64 0, .bool true] 61)) 27 #[.slice none 0 0, .int .i64 0]
    simpa using this
  refine ⟨h2, ⟨hb, Slab.nil _ _ _, by unfold TermsIn; trivial⟩, by omega, fun k ⟨o, hk⟩ => (by cases hk), fun k hk hf => ?_, fun x hx => (by cases hx), fun x hx => (by cases hx)⟩
  rcases hk with rfl | hk
  · rcases hf with hf | ⟨o, hf⟩
    · omega
    · cases hf
  · simp [Value.ownBlock] at hk
end Go.Proofs.Ytmkidkfofbnjgaa
