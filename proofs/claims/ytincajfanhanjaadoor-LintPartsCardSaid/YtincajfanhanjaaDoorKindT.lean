/- Words behind one another, with spaces: which words they are. Plain lists of bytes; no program in sight. What is built in: the tables as words. -/
import Derived.Lib.IndexMore
import Derived.Test.YtincajfanhanjaaDoorMore
namespace Go.Proofs.YtincajfanhanjaaDoor
open Go

/-- No space. -/
def wordy (s : List UInt8) : Bool := !s.contains 32
/-- Spaces ahead of each word. -/
def spaced : List (List UInt8) → List UInt8
  | [] => [32]
  | w :: ws => 32 :: (w ++ spaced ws)
theorem spaced_head (ws : List (List UInt8)) : ∃ t, spaced ws = 32 :: t := by
  cases ws with
  | nil => exact ⟨[], rfl⟩
  | cons w ws => exact ⟨_, rfl⟩
/-- Two words that a space follows are the same where one is a beginning of the other. -/
theorem word_prefix : ∀ {u v s t : List UInt8}, u.contains 32 = false → v.contains 32 = false → (u ++ 32 :: s) <+: (v ++ 32 :: t) → u = v
  | [], [], _, _, _, _, _ => rfl
  | [], b :: v, s, t, _, hv, h => by
    obtain ⟨r, hr⟩ := h
    simp only [List.nil_append, List.cons_append, List.cons.injEq] at hr
    simp only [List.contains_cons, Bool.or_eq_false_iff] at hv
    have h1 := hr.1
    rw [← h1] at hv
    exact absurd hv.1 (by decide)
  | a :: u, [], s, t, hu, _, h => by
    obtain ⟨r, hr⟩ := h
    simp only [List.nil_append, List.cons_append, List.cons.injEq] at hr
    simp only [List.contains_cons, Bool.or_eq_false_iff] at hu
    have h1 := hr.1
    rw [h1] at hu
    exact absurd hu.1 (by decide)
  | a :: u, b :: v, s, t, hu, hv, h => by
    obtain ⟨r, hr⟩ := h
    simp only [List.cons_append, List.cons.injEq] at hr
    simp only [List.contains_cons, Bool.or_eq_false_iff] at hu hv
    rw [hr.1, word_prefix (s := s) (t := t) hu.2 hv.2 ⟨r, hr.2⟩]
theorem contains_cons (b : UInt8) (l sub : List UInt8) : Lib.contains (b :: l) sub = (sub.isPrefixOf (b :: l) || Lib.contains l sub) := by
  have h := Lib.index_ge l sub
  unfold Lib.contains
  rw [Lib.index]
  split
  · rename_i h1; simp [h1]
  · rename_i h1
    rw [Bool.not_eq_true] at h1
    rw [h1, Bool.false_or]
    split
    · rename_i h2
      have h2 : Lib.index l sub = -1 := by simpa using h2
      rw [h2]
    · rename_i h2
      have h2 : Lib.index l sub ≠ -1 := by simpa using h2
      rw [decide_eq_decide]
      omega
theorem contains_skip {sub : List UInt8} : ∀ {w rest : List UInt8}, w.contains 32 = false → Lib.contains (w ++ rest) (32 :: sub) = Lib.contains rest (32 :: sub)
  | [], _, _ => rfl
  | a :: w, rest, h => by
    simp only [List.contains_cons, Bool.or_eq_false_iff] at h
    rw [List.cons_append, contains_cons, contains_skip h.2]
    have : ((32 : UInt8) == a) = false := h.1
    simp [List.isPrefixOf, this]
theorem spaced_has {name : List UInt8} (hn : name.contains 32 = false) (h0 : name ≠ []) : ∀ {ws : List (List UInt8)}, (∀ w ∈ ws, w.contains 32 = false) → Lib.contains (spaced ws) (32 :: (name ++ [32])) = decide (name ∈ ws)
  | [], _ => by
    obtain ⟨a, l, rfl⟩ := List.exists_cons_of_ne_nil h0
    simp [spaced, contains_cons, Lib.contains, Lib.index, List.isPrefixOf]
  | w :: ws, h => by
    obtain ⟨t, ht⟩ := spaced_head ws
    rw [spaced, contains_cons, contains_skip (h w List.mem_cons_self), spaced_has hn h0 (fun x hx => h x (List.mem_cons_of_mem _ hx)), ht]
    by_cases e : name = w
    · subst e
      have : (32 :: (name ++ [32])).isPrefixOf (32 :: (name ++ 32 :: t)) = true := by
        rw [List.isPrefixOf_iff_prefix]
        exact ⟨t, by simp⟩
      simp [this]
    · have : (32 :: (name ++ [32])).isPrefixOf (32 :: (w ++ 32 :: t)) = false := by
        rw [Bool.eq_false_iff, Ne, List.isPrefixOf_iff_prefix]
        rintro ⟨r, hr⟩
        simp only [List.cons_append, List.cons.injEq, true_and] at hr
        exact e (word_prefix (s := []) (t := t) hn (h w List.mem_cons_self) ⟨r, hr⟩)
      rw [this, Bool.false_or, decide_eq_decide]
      simp [e]
/-- A text that has no space: so said by Contains. -/
theorem space_in (s : List UInt8) : Lib.contains s [32] = s.contains 32 := by
  induction s with
  | nil => simp [Lib.contains, Lib.index]
  | cons a l ih =>
    rw [contains_cons, ih, List.contains_cons]
    simp [List.isPrefixOf]
end Go.Proofs.YtincajfanhanjaaDoor
namespace Go.Proofs.YtincajfanhanjaaDoor
open Go.RowKit

/-- The words of a kind and an arity (where there are none: one that is empty). -/
def wordsK : Nat → Nat → List (List UInt8)
  | 0, 0 => [[]]
  | 0, 1 => [[]]
  | 0, 2 => [[]]
  | 0, 3 => [[]]
  | 1, 0 => [[]]
  | 1, 1 => [[116, 117, 112, 108, 101, 95, 116, 111, 95, 108, 105, 115, 116], [108, 105, 115, 116, 95, 116, 111, 95, 116, 117, 112, 108, 101], [97, 116, 111, 109, 95, 116, 111, 95, 108, 105, 115, 116], [108, 105, 115, 116, 95, 116, 111, 95, 97, 116, 111, 109], [105, 110, 116, 101, 103, 101, 114, 95, 116, 111, 95, 108, 105, 115, 116], [108, 105, 115, 116, 95, 116, 111, 95, 105, 110, 116, 101, 103, 101, 114], [114, 101, 118, 101, 114, 115, 101], [115, 117, 109], [115, 111, 114, 116], [117, 115, 111, 114, 116], [108, 97, 115, 116], [116, 104, 114, 111, 119], [101, 114, 114, 111, 114], [101, 120, 105, 116]]
  | 1, 2 => [[43, 43], [45, 45], [109, 97, 120], [109, 105, 110], [110, 116, 104], [110, 116, 104, 116, 97, 105, 108], [109, 101, 109, 98, 101, 114], [115, 101, 113]]
  | 1, 3 => [[115, 101, 116, 101, 108, 101, 109, 101, 110, 116]]
  | 2, 0 => [[]]
  | 2, 1 => [[43], [45], [110, 111, 116], [97, 98, 115], [104, 100], [116, 108], [108, 101, 110, 103, 116, 104], [116, 117, 112, 108, 101, 95, 115, 105, 122, 101], [105, 115, 95, 105, 110, 116, 101, 103, 101, 114], [105, 115, 95, 97, 116, 111, 109], [105, 115, 95, 116, 117, 112, 108, 101], [105, 115, 95, 108, 105, 115, 116], [105, 115, 95, 112, 105, 100], [105, 115, 95, 114, 101, 102, 101, 114, 101, 110, 99, 101], [105, 115, 95, 102, 117, 110, 99, 116, 105, 111, 110], [105, 115, 95, 98, 111, 111, 108, 101, 97, 110]]
  | 2, 2 => [[43], [45], [42], [100, 105, 118], [114, 101, 109], [61, 61], [47, 61], [61, 58, 61], [61, 47, 61], [60], [61, 60], [62], [62, 61], [97, 110, 100], [111, 114], [120, 111, 114], [101, 108, 101, 109, 101, 110, 116], [105, 115, 95, 102, 117, 110, 99, 116, 105, 111, 110]]
  | 2, 3 => [[]]
  | 3, 0 => [[115, 101, 108, 102], [109, 97, 107, 101, 95, 114, 101, 102], [110, 111, 119]]
  | 3, 1 => [[115, 112, 97, 119, 110], [115, 112, 97, 119, 110, 95, 108, 105, 110, 107], [115, 112, 97, 119, 110, 95, 109, 111, 110, 105, 116, 111, 114], [108, 105, 110, 107], [117, 110, 108, 105, 110, 107], [109, 111, 110, 105, 116, 111, 114], [100, 101, 109, 111, 110, 105, 116, 111, 114], [116, 114, 97, 112, 95, 101, 120, 105, 116], [117, 110, 114, 101, 103, 105, 115, 116, 101, 114], [119, 104, 101, 114, 101, 105, 115], [112, 114, 105, 110, 116]]
  | 3, 2 => [[33], [101, 120, 105, 116], [114, 101, 103, 105, 115, 116, 101, 114]]
  | 3, 3 => [[]]
  | _, _ => [[]]
/-- They as the program has them. -/
def textK : Nat → Nat → ByteArray
  | 0, 0 => ⟨#[]⟩
  | 0, 1 => ⟨#[]⟩
  | 0, 2 => ⟨#[]⟩
  | 0, 3 => ⟨#[]⟩
  | 1, 0 => ⟨#[]⟩
  | 1, 1 => ⟨#[116, 117, 112, 108, 101, 95, 116, 111, 95, 108, 105, 115, 116, 32, 108, 105, 115, 116, 95, 116, 111, 95, 116, 117, 112, 108, 101, 32, 97, 116, 111, 109, 95, 116, 111, 95, 108, 105, 115, 116, 32, 108, 105, 115, 116, 95, 116, 111, 95, 97, 116, 111, 109, 32, 105, 110, 116, 101, 103, 101, 114, 95, 116, 111, 95, 108, 105, 115, 116, 32, 108, 105, 115, 116, 95, 116, 111, 95, 105, 110, 116, 101, 103, 101, 114, 32, 114, 101, 118, 101, 114, 115, 101, 32, 115, 117, 109, 32, 115, 111, 114, 116, 32, 117, 115, 111, 114, 116, 32, 108, 97, 115, 116, 32, 116, 104, 114, 111, 119, 32, 101, 114, 114, 111, 114, 32, 101, 120, 105, 116]⟩
  | 1, 2 => ⟨#[43, 43, 32, 45, 45, 32, 109, 97, 120, 32, 109, 105, 110, 32, 110, 116, 104, 32, 110, 116, 104, 116, 97, 105, 108, 32, 109, 101, 109, 98, 101, 114, 32, 115, 101, 113]⟩
  | 1, 3 => ⟨#[115, 101, 116, 101, 108, 101, 109, 101, 110, 116]⟩
  | 2, 0 => ⟨#[]⟩
  | 2, 1 => ⟨#[43, 32, 45, 32, 110, 111, 116, 32, 97, 98, 115, 32, 104, 100, 32, 116, 108, 32, 108, 101, 110, 103, 116, 104, 32, 116, 117, 112, 108, 101, 95, 115, 105, 122, 101, 32, 105, 115, 95, 105, 110, 116, 101, 103, 101, 114, 32, 105, 115, 95, 97, 116, 111, 109, 32, 105, 115, 95, 116, 117, 112, 108, 101, 32, 105, 115, 95, 108, 105, 115, 116, 32, 105, 115, 95, 112, 105, 100, 32, 105, 115, 95, 114, 101, 102, 101, 114, 101, 110, 99, 101, 32, 105, 115, 95, 102, 117, 110, 99, 116, 105, 111, 110, 32, 105, 115, 95, 98, 111, 111, 108, 101, 97, 110]⟩
  | 2, 2 => ⟨#[43, 32, 45, 32, 42, 32, 100, 105, 118, 32, 114, 101, 109, 32, 61, 61, 32, 47, 61, 32, 61, 58, 61, 32, 61, 47, 61, 32, 60, 32, 61, 60, 32, 62, 32, 62, 61, 32, 97, 110, 100, 32, 111, 114, 32, 120, 111, 114, 32, 101, 108, 101, 109, 101, 110, 116, 32, 105, 115, 95, 102, 117, 110, 99, 116, 105, 111, 110]⟩
  | 2, 3 => ⟨#[]⟩
  | 3, 0 => ⟨#[115, 101, 108, 102, 32, 109, 97, 107, 101, 95, 114, 101, 102, 32, 110, 111, 119]⟩
  | 3, 1 => ⟨#[115, 112, 97, 119, 110, 32, 115, 112, 97, 119, 110, 95, 108, 105, 110, 107, 32, 115, 112, 97, 119, 110, 95, 109, 111, 110, 105, 116, 111, 114, 32, 108, 105, 110, 107, 32, 117, 110, 108, 105, 110, 107, 32, 109, 111, 110, 105, 116, 111, 114, 32, 100, 101, 109, 111, 110, 105, 116, 111, 114, 32, 116, 114, 97, 112, 95, 101, 120, 105, 116, 32, 117, 110, 114, 101, 103, 105, 115, 116, 101, 114, 32, 119, 104, 101, 114, 101, 105, 115, 32, 112, 114, 105, 110, 116]⟩
  | 3, 2 => ⟨#[33, 32, 101, 120, 105, 116, 32, 114, 101, 103, 105, 115, 116, 101, 114]⟩
  | 3, 3 => ⟨#[]⟩
  | _, _ => ⟨#[]⟩
theorem text_spaced : ∀ k a : Nat, k < 4 → a < 4 → 32 :: ((textK k a).data.toList ++ [32]) = spaced (wordsK k a) ∧ (textK k a).size < 1000 ∧ ∀ w ∈ wordsK k a, w.contains 32 = false := by
  intro k a hk ha
  have hk' : k = 0 ∨ k = 1 ∨ k = 2 ∨ k = 3 := by omega
  have ha' : a = 0 ∨ a = 1 ∨ a = 2 ∨ a = 3 := by omega
  rcases hk' with rfl | rfl | rfl | rfl <;> rcases ha' with rfl | rfl | rfl | rfl <;> exact ⟨by decide +kernel, by decide +kernel, by decide +kernel⟩
/-- lint.Kind -/
def kindN (l : List UInt8) (a : Int) : Int :=
  if l = [] ∨ a < 0 ∨ 3 < a ∨ l.contains 32 = true then 0
  else if l ∈ wordsK 1 a.toNat then 1 else if l ∈ wordsK 2 a.toNat then 2 else if l ∈ wordsK 3 a.toNat then 3 else 0
theorem words_zero (a : Nat) {l : List UInt8} (h : l ≠ []) : l ∉ wordsK 0 a := by
  match a with
  | 0 | 1 | 2 | 3 | n + 4 => simpa [wordsK] using h
/-- What the world holds of the program's tables. -/
def LaidK (w : World) : Prop := (∀ k a : Nat, k < 4 → a < 4 → w.cell? ⟨0, k * 4 + a, none⟩ = some (.string (textK k a))) ∧ ∃ m, w.cell? ⟨2, 0, none⟩ = some (.int .i64 m)
theorem LaidK.keep {w w' : World} (h : LaidK w) (hk : Keeps NoB w w') : LaidK w' := ⟨fun k a h1 h2 => hk.cell id (h.1 k a h1 h2), h.2.imp fun _ h => hk.cell id h⟩
theorem index_byte (l : List UInt8) (c : UInt8) : decide (0 ≤ Lib.indexByte l c) = l.contains c := by
  induction l with
  | nil => simp [Lib.indexByte]
  | cons b l ih =>
    have h := Lib.indexByte_ge l c
    rw [List.contains_cons, ← ih, Lib.indexByte]
    by_cases e : b = c
    · subst e; simp
    · rw [if_neg (by simpa using e)]
      have e2 : (c == b) = false := by simpa using fun h => e h.symm
      rw [e2, Bool.false_or]
      split
      · rename_i h2
        have h2 : Lib.indexByte l c = -1 := by simpa using h2
        rw [h2]
      · rename_i h2
        have h2 : Lib.indexByte l c ≠ -1 := by simpa using h2
        rw [decide_eq_decide]; omega
end Go.Proofs.YtincajfanhanjaaDoor
