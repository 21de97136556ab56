/- slices.ContainsFunc at bif.Call's own function: is one of the arguments not right? Words behind one another, with spaces: which words they are. Plain lists of bytes; no program in sight. What is built in: the tables as words. DERIVED: THE SHELF's CONTRACTS AT THIS DUMP, IN PLAIN WORDS (tools/lay-plain.mjs out of 'YtjdbjjjbgibpaaaGreatDoorShelf.lean', which tools/lay-shelf.mjs wrote): THE SAME DECLARATIONS UNDER THE SAME YtjdbjjjbgibpaaaGreatDoorS: 'import', 'namespace', 'open', 'def', 'theorem' AND NOTHING ELSE: no command of the shelf's: FOR A HAND-IN. Each laying: the table of numbers ('.._ren') and one theorem, a field a fact of the dump's own or the kernel's comparison; each contract: ONE APPLICATION. lint.Kind. Slices of slices: what each of them reads as. -/
import Derived.Test.YtjdbjjjbgibpaaaGreatDoorTwoJn
import Derived.Lib.IndexMore
import Derived.Test.YtjdbjjjbgibpaaaGreatDoorTermLawJn
import Derived.Shelf.Strings.Search3
import Derived.Test.YtjdbjjjbgibpaaaGreatDoorProg
import Derived.Test.YtjdbjjjbgibpaaaGreatDoorRows
import Derived.WalkLawsBesides
import Derived.WalkSpells
import Derived.Deep.QuietTactic
import Derived.BigQuiet
import Derived.Deep.LoopGhost
import Derived.Lib.Walk
import Derived.Lib.SliceRun
import Derived.Lib.AppendZerosOnto
namespace Go.Proofs.YtjdbjjjbgibpaaaGreatDoor
set_option maxRecDepth 100000
open Go.RowKit

set_option maxRecDepth 100000 in
theorem callf_any (t : Tm) (w : World) (B : Nat → Prop) (F : Bool) (kd : Int) (ng : Bool) (la : Option Addr) (ln lc : Nat) (tx : ByteArray) (nm : Int) (ia : Option Addr) (im ic : Nat) (ta : Option Addr) (tn tc : Nat) (ht : TermIn w B F [.int .u8 kd, .bool ng, .slice la ln lc, .string tx, .int .i64 nm, .slice ia im ic, .slice ta tn tc] t) : Calls Tryz.prog 67 #[.agg #[.int .u8 kd, .bool ng, .slice la ln lc, .string tx, .int .i64 nm, .slice ia im ic, .slice ta tn tc]] w fun e w' => e = .returned (.bool (!rightT t)) ∧ Keeps NoB w w' := by
  have HT := hide (TermIn.keep ((Keeps.refl NoB w).alloc (.cells #[.int .u8 kd, .bool ng, .slice la ln lc, .string tx, .int .i64 nm, .slice ia im ic, .slice ta tn tc] 26)) (fun _ _ => id) _ _ ht)
  have HK0 := hide ((Keeps.refl NoB w).alloc (.cells #[.int .u8 kd, .bool ng, .slice la ln lc, .string tx, .int .i64 nm, .slice ia im ic, .slice ta tn tc] 26))
  clear ht
  go_enter Tryz.func67, Tryz.ntmps67
  go_wp2_with
    first
    | (go_at_call 7
       refine (tm_right t _ B F _ _ _ _ _ _ _ _ _ _ _ _ _ HT.out).mono ?_
       rintro e w1 ⟨rfl, hk1⟩
       have HK1 := hide (HK0.out.trans' hk1 (fun _ _ => id) (fun _ _ => id) : Keeps NoB w w1)
       clear hk1)
    | fail
  go_ret
  exact ⟨rfl, HK1.out⟩
set_option maxRecDepth 100000 in
set_option maxHeartbeats 2000000 in
theorem idx_right (ts : List Tm) (css : List (List Value)) (A : Option Addr) (n c : Nat) (w : World) (B : Nat → Prop) (F : Bool) (hr : Reads w B F 7 A n css.flatten) (ht : TermsIn w B F css ts) (hn : n ≤ 1000000) :
    Calls Tryz.prog 74 #[.slice A n c, .func (.func 67) #[] #[]] w fun e w' => ∃ i : Int, e = .returned (.int .i64 i) ∧ (decide (0 ≤ i) = !ts.all rightT) ∧ Keeps NoB w w' := by
  have hl : ts.length = n := by have h1 := hr.1; rw [flat_len ht.lens.2, ht.lens.1] at h1; omega
  have HR := hide hr; have HT := hide ht; have HL := hide hl
  clear hr ht hl
  go_enter Tryz.func74, Tryz.ntmps74
  go_wp2
  go_loopg [8] n (fun g s8 wx => ∃ k : Nat, k ≤ n ∧ g = n - k ∧ s8 = .int .i64 k ∧ Keeps NoB w wx ∧ Hid ((ts.take k).all rightT = true))
  case atStart => exact ⟨0, Nat.zero_le _, rfl, rfl, Keeps.refl _ _, hide (by simp)⟩
  case round =>
    obtain ⟨k, hk, rfl, rfl, hkw, HALL⟩ := hrel
    have HKW := hide hkw
    clear hkw
    by_cases hlt : k < n
    · have hk1 : (k : Int) < (n : Int) := by omega
      have hk0 : (0 : Int) ≤ (k : Int) := by omega
      obtain ⟨b, o, kd, ng, la, ln, lc, tx, nm, ia, im, ic, ta, tn, tc, t, hA, h1, h2, h3, f0, f1, f2, f3, f4, f5, f6⟩ := cells_at (HR.out.keep HKW.out (fun _ _ => id)) (TermsIn.keep HKW.out (fun _ _ => id) _ _ HT.out) k hlt
      subst hA
      have H1 := hide h1; have H2 := hide h2
      clear h1 h2 h3
      cases hv : rightT t with
      | true =>
        have HV := hide hv
        clear hv
        go_wp2_with
          first
          | (go_at_call 67
             refine (callf_any t _ B F _ _ _ _ _ _ _ _ _ _ _ _ _ H2.out).mono ?_
             rintro e w2 ⟨rfl, hk2⟩
             rw [HV.out]
             have HK2 := hide (HKW.out.trans' hk2 (fun _ _ => id) (fun _ _ => id) : Keeps NoB w w2)
             clear hk2)
          | fail
        go_roundg (n - (k + 1))
        case measure => omega
        case rel => exact ⟨k + 1, by omega, rfl, by go_num, HK2.out, hide (by rw [List.take_add_one, H1.out, List.all_append, HALL.out]; simp [HV.out])⟩
      | false =>
        have HV := hide hv
        clear hv
        go_wp2_with
          first
          | (go_at_call 67
             refine (callf_any t _ B F _ _ _ _ _ _ _ _ _ _ _ _ _ H2.out).mono ?_
             rintro e w2 ⟨rfl, hk2⟩
             rw [HV.out]
             have HK2 := hide (HKW.out.trans' hk2 (fun _ _ => id) (fun _ _ => id) : Keeps NoB w w2)
             clear hk2)
          | fail
        go_ret
        refine ⟨k, rfl, ?_, HK2.out⟩
        have h : ts.all rightT = false := by
          rw [List.all_eq_false]
          exact ⟨t, List.mem_of_getElem? H1.out, by rw [HV.out]; simp⟩
        rw [h]
        simp
    · obtain rfl : n = k := by omega
      have hkz : ¬ (n : Int) < (n : Int) := by omega
      go_wp2
      go_ret
      refine ⟨-1, rfl, ?_, HKW.out⟩
      have h := HALL.out
      rw [List.take_of_length_le (by have := HL.out; omega)] at h
      rw [h]
      decide
set_option maxRecDepth 100000 in
theorem contains_right (ts : List Tm) (css : List (List Value)) (A : Option Addr) (n c : Nat) (w : World) (B : Nat → Prop) (F : Bool) (hr : Reads w B F 7 A n css.flatten) (ht : TermsIn w B F css ts) (hn : n ≤ 1000000) :
    Calls Tryz.prog 66 #[.slice A n c, .func (.func 67) #[] #[]] w fun e w' => e = .returned (.bool (!ts.all rightT)) ∧ Keeps NoB w w' := by
  have HI := hide (idx_right ts css A n c w B F hr ht hn)
  clear hr ht
  go_enter Tryz.func66, Tryz.ntmps66
  go_wp2_with
    first
    | (go_at_call 74
       refine HI.out.mono ?_
       rintro e w1 ⟨i, rfl, hi, hk1⟩
       have HK1 := hide hk1; have HII := hide hi
       clear hk1 hi)
    | fail
  go_ret
  exact ⟨by rw [← HII.out]; rfl, HK1.out⟩
end Go.Proofs.YtjdbjjjbgibpaaaGreatDoor
namespace Go.Proofs.YtjdbjjjbgibpaaaGreatDoor
set_option maxRecDepth 100000
open Go

/-- No space. -/
def wordy (s : List UInt8) : Bool := !s.contains 32
/-- Spaces ahead of each word. -/
def spaced : List (List UInt8) → List UInt8
  | [] => [32]
  | w :: ws => 32 :: (w ++ spaced ws)
theorem spaced_head (ws : List (List UInt8)) : ∃ t, spaced ws = 32 :: t := by
  cases ws with
  | nil => exact ⟨[], rfl⟩
  | cons w ws => exact ⟨_, rfl⟩
/-- Two words that a space follows are the same where one is a beginning of the other. -/
theorem word_prefix : ∀ {u v s t : List UInt8}, u.contains 32 = false → v.contains 32 = false → (u ++ 32 :: s) <+: (v ++ 32 :: t) → u = v
  | [], [], _, _, _, _, _ => rfl
  | [], b :: v, s, t, _, hv, h => by
    obtain ⟨r, hr⟩ := h
    simp only [List.nil_append, List.cons_append, List.cons.injEq] at hr
    simp only [List.contains_cons, Bool.or_eq_false_iff] at hv
    have h1 := hr.1
    rw [← h1] at hv
    exact absurd hv.1 (by decide)
  | a :: u, [], s, t, hu, _, h => by
    obtain ⟨r, hr⟩ := h
    simp only [List.nil_append, List.cons_append, List.cons.injEq] at hr
    simp only [List.contains_cons, Bool.or_eq_false_iff] at hu
    have h1 := hr.1
    rw [h1] at hu
    exact absurd hu.1 (by decide)
  | a :: u, b :: v, s, t, hu, hv, h => by
    obtain ⟨r, hr⟩ := h
    simp only [List.cons_append, List.cons.injEq] at hr
    simp only [List.contains_cons, Bool.or_eq_false_iff] at hu hv
    rw [hr.1, word_prefix (s := s) (t := t) hu.2 hv.2 ⟨r, hr.2⟩]
theorem contains_cons (b : UInt8) (l sub : List UInt8) : Lib.contains (b :: l) sub = (sub.isPrefixOf (b :: l) || Lib.contains l sub) := by
  have h := Lib.index_ge l sub
  unfold Lib.contains
  rw [Lib.index]
  split
  · rename_i h1; simp [h1]
  · rename_i h1
    rw [Bool.not_eq_true] at h1
    rw [h1, Bool.false_or]
    split
    · rename_i h2
      have h2 : Lib.index l sub = -1 := by simpa using h2
      rw [h2]
    · rename_i h2
      have h2 : Lib.index l sub ≠ -1 := by simpa using h2
      rw [decide_eq_decide]
      omega
theorem contains_skip {sub : List UInt8} : ∀ {w rest : List UInt8}, w.contains 32 = false → Lib.contains (w ++ rest) (32 :: sub) = Lib.contains rest (32 :: sub)
  | [], _, _ => rfl
  | a :: w, rest, h => by
    simp only [List.contains_cons, Bool.or_eq_false_iff] at h
    rw [List.cons_append, contains_cons, contains_skip h.2]
    have : ((32 : UInt8) == a) = false := h.1
    simp [List.isPrefixOf, this]
theorem spaced_has {name : List UInt8} (hn : name.contains 32 = false) (h0 : name ≠ []) : ∀ {ws : List (List UInt8)}, (∀ w ∈ ws, w.contains 32 = false) → Lib.contains (spaced ws) (32 :: (name ++ [32])) = decide (name ∈ ws)
  | [], _ => by
    obtain ⟨a, l, rfl⟩ := List.exists_cons_of_ne_nil h0
    simp [spaced, contains_cons, Lib.contains, Lib.index, List.isPrefixOf]
  | w :: ws, h => by
    obtain ⟨t, ht⟩ := spaced_head ws
    rw [spaced, contains_cons, contains_skip (h w List.mem_cons_self), spaced_has hn h0 (fun x hx => h x (List.mem_cons_of_mem _ hx)), ht]
    by_cases e : name = w
    · subst e
      have : (32 :: (name ++ [32])).isPrefixOf (32 :: (name ++ 32 :: t)) = true := by
        rw [List.isPrefixOf_iff_prefix]
        exact ⟨t, by simp⟩
      simp [this]
    · have : (32 :: (name ++ [32])).isPrefixOf (32 :: (w ++ 32 :: t)) = false := by
        rw [Bool.eq_false_iff, Ne, List.isPrefixOf_iff_prefix]
        rintro ⟨r, hr⟩
        simp only [List.cons_append, List.cons.injEq, true_and] at hr
        exact e (word_prefix (s := []) (t := t) hn (h w List.mem_cons_self) ⟨r, hr⟩)
      rw [this, Bool.false_or, decide_eq_decide]
      simp [e]
end Go.Proofs.YtjdbjjjbgibpaaaGreatDoor
namespace Go.Proofs.YtjdbjjjbgibpaaaGreatDoor
open Go.RowKit

/-- The words of a kind and an arity (where there are none: one that is empty). -/
def wordsK : Nat → Nat → List (List UInt8)
  | 0, 0 => [[]]
  | 0, 1 => [[]]
  | 0, 2 => [[]]
  | 0, 3 => [[]]
  | 1, 0 => [[]]
  | 1, 1 => [[116, 117, 112, 108, 101, 95, 116, 111, 95, 108, 105, 115, 116], [108, 105, 115, 116, 95, 116, 111, 95, 116, 117, 112, 108, 101], [97, 116, 111, 109, 95, 116, 111, 95, 108, 105, 115, 116], [108, 105, 115, 116, 95, 116, 111, 95, 97, 116, 111, 109], [105, 110, 116, 101, 103, 101, 114, 95, 116, 111, 95, 108, 105, 115, 116], [108, 105, 115, 116, 95, 116, 111, 95, 105, 110, 116, 101, 103, 101, 114], [114, 101, 118, 101, 114, 115, 101], [115, 117, 109], [115, 111, 114, 116], [117, 115, 111, 114, 116], [108, 97, 115, 116], [116, 104, 114, 111, 119], [101, 114, 114, 111, 114], [101, 120, 105, 116]]
  | 1, 2 => [[43, 43], [45, 45], [109, 97, 120], [109, 105, 110], [110, 116, 104], [110, 116, 104, 116, 97, 105, 108], [109, 101, 109, 98, 101, 114], [115, 101, 113]]
  | 1, 3 => [[115, 101, 116, 101, 108, 101, 109, 101, 110, 116]]
  | 2, 0 => [[]]
  | 2, 1 => [[43], [45], [110, 111, 116], [97, 98, 115], [104, 100], [116, 108], [108, 101, 110, 103, 116, 104], [116, 117, 112, 108, 101, 95, 115, 105, 122, 101], [105, 115, 95, 105, 110, 116, 101, 103, 101, 114], [105, 115, 95, 97, 116, 111, 109], [105, 115, 95, 116, 117, 112, 108, 101], [105, 115, 95, 108, 105, 115, 116], [105, 115, 95, 112, 105, 100], [105, 115, 95, 114, 101, 102, 101, 114, 101, 110, 99, 101], [105, 115, 95, 102, 117, 110, 99, 116, 105, 111, 110], [105, 115, 95, 98, 111, 111, 108, 101, 97, 110]]
  | 2, 2 => [[43], [45], [42], [100, 105, 118], [114, 101, 109], [61, 61], [47, 61], [61, 58, 61], [61, 47, 61], [60], [61, 60], [62], [62, 61], [97, 110, 100], [111, 114], [120, 111, 114], [101, 108, 101, 109, 101, 110, 116], [105, 115, 95, 102, 117, 110, 99, 116, 105, 111, 110]]
  | 2, 3 => [[]]
  | 3, 0 => [[115, 101, 108, 102], [109, 97, 107, 101, 95, 114, 101, 102], [110, 111, 119]]
  | 3, 1 => [[115, 112, 97, 119, 110], [115, 112, 97, 119, 110, 95, 108, 105, 110, 107], [115, 112, 97, 119, 110, 95, 109, 111, 110, 105, 116, 111, 114], [108, 105, 110, 107], [117, 110, 108, 105, 110, 107], [109, 111, 110, 105, 116, 111, 114], [100, 101, 109, 111, 110, 105, 116, 111, 114], [116, 114, 97, 112, 95, 101, 120, 105, 116], [117, 110, 114, 101, 103, 105, 115, 116, 101, 114], [119, 104, 101, 114, 101, 105, 115], [112, 114, 105, 110, 116]]
  | 3, 2 => [[33], [101, 120, 105, 116], [114, 101, 103, 105, 115, 116, 101, 114]]
  | 3, 3 => [[]]
  | _, _ => [[]]
/-- They as the program has them. -/
def textK : Nat → Nat → ByteArray
  | 0, 0 => ⟨#[]⟩
  | 0, 1 => ⟨#[]⟩
  | 0, 2 => ⟨#[]⟩
  | 0, 3 => ⟨#[]⟩
  | 1, 0 => ⟨#[]⟩
  | 1, 1 => ⟨#[116, 117, 112, 108, 101, 95, 116, 111, 95, 108, 105, 115, 116, 32, 108, 105, 115, 116, 95, 116, 111, 95, 116, 117, 112, 108, 101, 32, 97, 116, 111, 109, 95, 116, 111, 95, 108, 105, 115, 116, 32, 108, 105, 115, 116, 95, 116, 111, 95, 97, 116, 111, 109, 32, 105, 110, 116, 101, 103, 101, 114, 95, 116, 111, 95, 108, 105, 115, 116, 32, 108, 105, 115, 116, 95, 116, 111, 95, 105, 110, 116, 101, 103, 101, 114, 32, 114, 101, 118, 101, 114, 115, 101, 32, 115, 117, 109, 32, 115, 111, 114, 116, 32, 117, 115, 111, 114, 116, 32, 108, 97, 115, 116, 32, 116, 104, 114, 111, 119, 32, 101, 114, 114, 111, 114, 32, 101, 120, 105, 116]⟩
  | 1, 2 => ⟨#[43, 43, 32, 45, 45, 32, 109, 97, 120, 32, 109, 105, 110, 32, 110, 116, 104, 32, 110, 116, 104, 116, 97, 105, 108, 32, 109, 101, 109, 98, 101, 114, 32, 115, 101, 113]⟩
  | 1, 3 => ⟨#[115, 101, 116, 101, 108, 101, 109, 101, 110, 116]⟩
  | 2, 0 => ⟨#[]⟩
  | 2, 1 => ⟨#[43, 32, 45, 32, 110, 111, 116, 32, 97, 98, 115, 32, 104, 100, 32, 116, 108, 32, 108, 101, 110, 103, 116, 104, 32, 116, 117, 112, 108, 101, 95, 115, 105, 122, 101, 32, 105, 115, 95, 105, 110, 116, 101, 103, 101, 114, 32, 105, 115, 95, 97, 116, 111, 109, 32, 105, 115, 95, 116, 117, 112, 108, 101, 32, 105, 115, 95, 108, 105, 115, 116, 32, 105, 115, 95, 112, 105, 100, 32, 105, 115, 95, 114, 101, 102, 101, 114, 101, 110, 99, 101, 32, 105, 115, 95, 102, 117, 110, 99, 116, 105, 111, 110, 32, 105, 115, 95, 98, 111, 111, 108, 101, 97, 110]⟩
  | 2, 2 => ⟨#[43, 32, 45, 32, 42, 32, 100, 105, 118, 32, 114, 101, 109, 32, 61, 61, 32, 47, 61, 32, 61, 58, 61, 32, 61, 47, 61, 32, 60, 32, 61, 60, 32, 62, 32, 62, 61, 32, 97, 110, 100, 32, 111, 114, 32, 120, 111, 114, 32, 101, 108, 101, 109, 101, 110, 116, 32, 105, 115, 95, 102, 117, 110, 99, 116, 105, 111, 110]⟩
  | 2, 3 => ⟨#[]⟩
  | 3, 0 => ⟨#[115, 101, 108, 102, 32, 109, 97, 107, 101, 95, 114, 101, 102, 32, 110, 111, 119]⟩
  | 3, 1 => ⟨#[115, 112, 97, 119, 110, 32, 115, 112, 97, 119, 110, 95, 108, 105, 110, 107, 32, 115, 112, 97, 119, 110, 95, 109, 111, 110, 105, 116, 111, 114, 32, 108, 105, 110, 107, 32, 117, 110, 108, 105, 110, 107, 32, 109, 111, 110, 105, 116, 111, 114, 32, 100, 101, 109, 111, 110, 105, 116, 111, 114, 32, 116, 114, 97, 112, 95, 101, 120, 105, 116, 32, 117, 110, 114, 101, 103, 105, 115, 116, 101, 114, 32, 119, 104, 101, 114, 101, 105, 115, 32, 112, 114, 105, 110, 116]⟩
  | 3, 2 => ⟨#[33, 32, 101, 120, 105, 116, 32, 114, 101, 103, 105, 115, 116, 101, 114]⟩
  | 3, 3 => ⟨#[]⟩
  | _, _ => ⟨#[]⟩
theorem text_spaced : ∀ k a : Nat, k < 4 → a < 4 → 32 :: ((textK k a).data.toList ++ [32]) = spaced (wordsK k a) ∧ (textK k a).size < 1000 ∧ ∀ w ∈ wordsK k a, w.contains 32 = false := by
  intro k a hk ha
  have hk' : k = 0 ∨ k = 1 ∨ k = 2 ∨ k = 3 := by omega
  have ha' : a = 0 ∨ a = 1 ∨ a = 2 ∨ a = 3 := by omega
  rcases hk' with rfl | rfl | rfl | rfl <;> rcases ha' with rfl | rfl | rfl | rfl <;> exact ⟨by decide +kernel, by decide +kernel, by decide +kernel⟩
/-- lint.Kind -/
def kindN (l : List UInt8) (a : Int) : Int :=
  if l = [] ∨ a < 0 ∨ 3 < a ∨ l.contains 32 = true then 0
  else if l ∈ wordsK 1 a.toNat then 1 else if l ∈ wordsK 2 a.toNat then 2 else if l ∈ wordsK 3 a.toNat then 3 else 0
theorem words_zero (a : Nat) {l : List UInt8} (h : l ≠ []) : l ∉ wordsK 0 a := by
  match a with
  | 0 | 1 | 2 | 3 | n + 4 => simpa [wordsK] using h
/-- What the world holds of the program's tables. -/
def LaidK (w : World) : Prop := (∀ k a : Nat, k < 4 → a < 4 → w.cell? ⟨0, k * 4 + a, none⟩ = some (.string (textK k a))) ∧ ∃ m, w.cell? ⟨2, 0, none⟩ = some (.int .i64 m)
theorem LaidK.keep {w w' : World} (h : LaidK w) (hk : Keeps NoB w w') : LaidK w' := ⟨fun k a h1 h2 => hk.cell id (h.1 k a h1 h2), h.2.imp fun _ h => hk.cell id h⟩
theorem index_byte (l : List UInt8) (c : UInt8) : decide (0 ≤ Lib.indexByte l c) = l.contains c := by
  induction l with
  | nil => simp [Lib.indexByte]
  | cons b l ih =>
    have h := Lib.indexByte_ge l c
    rw [List.contains_cons, ← ih, Lib.indexByte]
    by_cases e : b = c
    · subst e; simp
    · rw [if_neg (by simpa using e)]
      have e2 : (c == b) = false := by simpa using fun h => e h.symm
      rw [e2, Bool.false_or]
      split
      · rename_i h2
        have h2 : Lib.indexByte l c = -1 := by simpa using h2
        rw [h2]
      · rename_i h2
        have h2 : Lib.indexByte l c ≠ -1 := by simpa using h2
        rw [decide_eq_decide]; omega
end Go.Proofs.YtjdbjjjbgibpaaaGreatDoor
namespace Go.Proofs
open Go.Shelf
def Tryz.lays144_ren : Go.Shelf.Ren := ⟨fun | 144 => 65 | 143 => 73 | 219 => 95 | 217 => 114 | 225 => 115 | 224 => 116 | 267 => 117 | 266 => 131 | 314 => 132 | n => n, fun | 9 => 9 | 4 => 4 | 3 => 3 | 5 => 5 | 46 => 127 | 146 => 145 | 51 => 86 | n => n, fun | 1 => 2 | n => n⟩
theorem Tryz.lays144 : Go.Proofs.Lays.n144 Tryz.prog Tryz.lays144_ren := {
  mixed := by kernel_rfl
  f143 := Tryz.func73.trans (congrArg some (by kernel_rfl))
  f144 := Tryz.func65.trans (congrArg some (by kernel_rfl))
  f217 := Tryz.func114.trans (congrArg some (by kernel_rfl))
  f219 := Tryz.func95.trans (congrArg some (by kernel_rfl))
  f224 := Tryz.func116.trans (congrArg some (by kernel_rfl))
  f225 := Tryz.func115.trans (congrArg some (by kernel_rfl))
  f266 := Tryz.func131.trans (congrArg some (by kernel_rfl))
  f267 := Tryz.func117.trans (congrArg some (by kernel_rfl))
  f314 := Tryz.func132.trans (congrArg some (by kernel_rfl))
  t3 := Tryz.underlying3
  a3 := Tryz.isAgg3
  z3 := Tryz.sizeOf3
  v3 := Tryz.zeroValue3
  t4 := Tryz.underlying4
  a4 := Tryz.isAgg4
  z4 := Tryz.sizeOf4
  v4 := Tryz.zeroValue4
  t5 := Tryz.underlying5
  a5 := Tryz.isAgg5
  z5 := Tryz.sizeOf5
  v5 := Tryz.zeroValue5
  t9 := Tryz.underlying9
  a9 := Tryz.isAgg9
  z9 := Tryz.sizeOf9
  v9 := Tryz.zeroValue9
  t46 := Tryz.underlying127
  a46 := Tryz.isAgg127
  z46 := Tryz.sizeOf127
  v46 := Tryz.zeroValue127
  t51 := Tryz.underlying86
  a51 := Tryz.isAgg86
  z51 := Tryz.sizeOf86
  v51 := Tryz.zeroValue86
  t146 := Tryz.underlying145
  a146 := Tryz.isAgg145
  z146 := Tryz.sizeOf145
  v146 := Tryz.zeroValue145
  g1 := by kernel_rfl }
open Go.RowKit Go.Lib in
theorem Tryz.strings_Contains_one (s : ByteArray) (c : UInt8) (w : World) :
    Calls Tryz.prog 65 #[.string s, .string ⟨#[c]⟩] w fun e w' => e = .returned (.bool (decide (0 ≤ Lib.indexByte s.data.toList c))) ∧ w' = w := Any.strings_Contains_one Tryz.lays144 s c w
open Go.RowKit Go.Lib in
theorem Tryz.strings_Contains (s sub : ByteArray) (m : Int) (w : World) (hs : s.size < 4294967281) (hm : w.cell? ⟨2, 0, none⟩ = some (.int .i64 m)) :
    Calls Tryz.prog 65 #[.string s, .string sub] w fun e w' => e = .returned (.bool (Lib.contains s.data.toList sub.data.toList)) ∧ w' = w := Any.strings_Contains Tryz.lays144 s sub m w hs hm
end Go.Proofs
namespace Go.Proofs.YtjdbjjjbgibpaaaGreatDoor
set_option maxRecDepth 100000
open Go.RowKit

set_option maxRecDepth 100000 in
set_option maxHeartbeats 2000000 in
theorem kind_any (s : ByteArray) (a : Int) (w : World) (hL : LaidK w) (hs : s.size ≤ 140737488355328) :
    Calls Tryz.prog 55 #[.string s, .int .i64 a] w fun e w' => e = .returned (.int .i64 (kindN s.data.toList a)) ∧ w = w' := by
  have HL := hide hL
  clear hL
  by_cases h0 : s.data.toList = []
  · have HE : Hid (kindN s.data.toList a = 0) := hide (by unfold kindN; rw [if_pos (.inl h0)])
    have b0 : s.toList = [] := (Lib.toList_data s).trans h0
    have b0' : s.toList.isEmpty = true := by rw [b0]; rfl
    clear h0
    go_enter Tryz.func55, Tryz.ntmps55
    go_wp2
    go_ret
    exact ⟨by rw [HE.out]; rfl, rfl⟩
  have b0 : s.toList.isEmpty = false := by rw [Lib.toList_data]; cases h : s.data.toList with
    | nil => exact absurd h h0
    | cons => rfl
  by_cases h1 : a < 0
  · have HE : Hid (kindN s.data.toList a = 0) := hide (by unfold kindN; rw [if_pos (.inr (.inl h1))])
    have b1 : decide (a < 0) = true := by simpa using h1
    clear h0
    go_enter Tryz.func55, Tryz.ntmps55
    go_wp2
    go_ret
    exact ⟨by rw [HE.out]; rfl, rfl⟩
  by_cases h2 : 3 < a
  · have HE : Hid (kindN s.data.toList a = 0) := hide (by unfold kindN; rw [if_pos (.inr (.inr (.inl h2)))])
    have b1 : decide (a < 0) = false := by simpa using h1
    have b2 : decide (3 < a) = true := by simpa using h2
    clear h0 h1
    go_enter Tryz.func55, Tryz.ntmps55
    go_wp2
    go_ret
    exact ⟨by rw [HE.out]; rfl, rfl⟩
  have b1 : decide (a < 0) = false := by simpa using h1
  have b2 : decide (3 < a) = false := by simpa using h2
  cases h3 : s.data.toList.contains 32 with
  | true =>
    have HE : Hid (kindN s.data.toList a = 0) := hide (by unfold kindN; rw [if_pos (.inr (.inr (.inr h3)))])
    have H3 := hide h3
    clear h0 h1 h2 h3
    go_enter Tryz.func55, Tryz.ntmps55
    go_wp2_with
      first
      | (go_at_call 65
         refine (Tryz.strings_Contains_one s 32 w).mono ?_
         rintro e w' ⟨rfl, rfl⟩
         rw [index_byte, H3.out])
      | fail
    go_ret
    exact ⟨by rw [HE.out]; rfl, rfl⟩
  | false =>
    obtain ⟨an, rfl⟩ := Int.eq_ofNat_of_zero_le (by omega : 0 ≤ a)
    have ha3 : an < 4 := by omega
    have H3 := hide h3; have H0 := hide h0
    have HE : Hid (kindN s.data.toList (an : Int) = if s.data.toList ∈ wordsK 1 an then 1 else if s.data.toList ∈ wordsK 2 an then 2 else if s.data.toList ∈ wordsK 3 an then 3 else 0) := hide (by
      unfold kindN
      rw [if_neg (by simp only [not_or]; exact ⟨h0, by omega, by omega, by rw [h3]; simp⟩)]
      rfl)
    clear h0 h1 h2 h3
    go_enter Tryz.func55, Tryz.ntmps55
    go_wp2_with
      first
      | (go_at_call 65
         refine (Tryz.strings_Contains_one s 32 w).mono ?_
         rintro e w' ⟨rfl, rfl⟩
         rw [index_byte, H3.out])
      | fail
    go_loop [20] (fun i => ∃ k : Nat, k ≤ 4 ∧ i = .int .i64 k ∧ ∀ j, j < k → s.data.toList ∉ wordsK j an) (fun i => 4 - (intOf i).toNat)
    case atStart => exact ⟨0, by omega, rfl, fun j hj => absurd hj (by omega)⟩
    case round =>
      obtain ⟨k, hk, rfl, hno⟩ := hrel
      have HNO := hide hno
      clear hno
      by_cases hlt : k < 4
      · have f0 := HL.out.1 k an hlt ha3
        obtain ⟨m, hm⟩ := HL.out.2
        have hk1 : (k : Int) < 4 := by omega
        have hk0 : (0 : Int) ≤ (k : Int) := by omega
        have ha1 : (an : Int) < 4 := by omega
        obtain ⟨hsp, hts, hwo⟩ := text_spaced k an hlt ha3
        obtain ⟨t, ht⟩ : ∃ t, textK k an = t := ⟨_, rfl⟩
        rw [ht] at f0 hsp hts
        have hc : Lib.contains ((⟨#[32]⟩ : ByteArray) ++ t ++ ⟨#[32]⟩).data.toList ((⟨#[32]⟩ : ByteArray) ++ s ++ ⟨#[32]⟩).data.toList = decide (s.data.toList ∈ wordsK k an) := by
          have e1 : ((⟨#[32]⟩ : ByteArray) ++ t ++ ⟨#[32]⟩).data.toList = spaced (wordsK k an) := by rw [← hsp]; simp
          have e2 : ((⟨#[32]⟩ : ByteArray) ++ s ++ ⟨#[32]⟩).data.toList = 32 :: (s.data.toList ++ [32]) := by simp
          rw [e1, e2]
          exact spaced_has H3.out H0.out hwo
        have HC := hide hc
        have hm1 : (⟨#[32]⟩ : ByteArray).size = 1 := rfl
        have z1 : ((⟨#[32]⟩ : ByteArray) ++ t).size = t.size + 1 := by rw [ByteArray.size_append, hm1]; omega
        have z2 : ((⟨#[32]⟩ : ByteArray) ++ s).size = s.size + 1 := by rw [ByteArray.size_append, hm1]; omega
        have z3 : ((⟨#[32]⟩ : ByteArray) ++ t ++ ⟨#[32]⟩).size < 4294967281 := by rw [ByteArray.size_append, z1, hm1]; omega
        have Z3 := hide z3
        clear ht hsp hwo hc z3 hm1
        cases hin : decide (s.data.toList ∈ wordsK k an) with
        | true =>
          have HIN := hide hin
          clear hin
          go_wp2_with
            first
            | (go_at_call 65
               refine (Tryz.strings_Contains _ _ m _ Z3.out hm).mono ?_
               rintro e w2 ⟨rfl, rfl⟩
               rw [HC.out, HIN.out])
            | fail
          go_ret
          have hv : kindN s.data.toList (an : Int) = (k : Int) := by
            have hi : s.data.toList ∈ wordsK k an := by simpa using HIN.out
            rw [HE.out]
            have hk' : k = 0 ∨ k = 1 ∨ k = 2 ∨ k = 3 := by omega
            rcases hk' with rfl | rfl | rfl | rfl
            · exact absurd hi (words_zero an H0.out)
            · rw [if_pos hi]; rfl
            · rw [if_neg (HNO.out 1 (by omega)), if_pos hi]; rfl
            · rw [if_neg (HNO.out 1 (by omega)), if_neg (HNO.out 2 (by omega)), if_pos hi]; rfl
          exact ⟨by rw [hv]; rfl, rfl⟩
        | false =>
          have HIN := hide hin
          clear hin
          go_wp2_with
            first
            | (go_at_call 65
               refine (Tryz.strings_Contains _ _ m _ Z3.out hm).mono ?_
               rintro e w2 ⟨rfl, rfl⟩
               rw [HC.out, HIN.out])
            | fail
          go_round
          case rel => exact ⟨k + 1, by omega, by go_num, fun j hj => by
            rcases Nat.lt_succ_iff_lt_or_eq.1 hj with h | rfl
            · exact HNO.out j h
            · simpa using HIN.out⟩
          case measure => simp [intOf]; omega
      · obtain rfl : k = 4 := by omega
        go_wp2
        go_ret
        have hv : kindN s.data.toList (an : Int) = 0 := by
          rw [HE.out, if_neg (HNO.out 1 (by omega)), if_neg (HNO.out 2 (by omega)), if_neg (HNO.out 3 (by omega))]
        exact ⟨by rw [hv]; rfl, rfl⟩
end Go.Proofs.YtjdbjjjbgibpaaaGreatDoor
namespace Go.Proofs.YtjdbjjjbgibpaaaGreatDoor
open Go.RowKit

/-- Cells that are slices, and what each of these reads as. -/
def HeadsAt (w : World) (B : Nat → Prop) (F : Bool) (size : Nat) : List Value → List (List Value) → Prop
  | [], [] => True
  | v :: vs, xs :: xss => (∃ A n c, v = .slice A n c ∧ Reads w B F size A n xs) ∧ HeadsAt w B F size vs xss
  | [], _ :: _ => False
  | _ :: _, [] => False

theorem HeadsAt.len {w : World} {B : Nat → Prop} {F : Bool} {size : Nat} : ∀ {vs : List Value} {xss : List (List Value)}, HeadsAt w B F size vs xss → vs.length = xss.length
  | [], [], _ => rfl
  | v :: vs, xs :: xss, h => by unfold HeadsAt at h; simp [HeadsAt.len h.2]
  | [], _ :: _, h => by unfold HeadsAt at h; exact h.elim
  | _ :: _, [], h => by unfold HeadsAt at h; exact h.elim
theorem HeadsAt.at {w : World} {B : Nat → Prop} {F : Bool} {size : Nat} : ∀ {vs : List Value} {xss : List (List Value)}, HeadsAt w B F size vs xss → ∀ k, k < vs.length → ∃ A n c xs, vs[k]? = some (.slice A n c) ∧ xss[k]? = some xs ∧ Reads w B F size A n xs
  | [], _, _, k, hk => by simp at hk
  | v :: vs, xs :: xss, h, k, hk => by
    unfold HeadsAt at h
    cases k with
    | zero =>
      obtain ⟨A, n, c, rfl, hr⟩ := h.1
      exact ⟨A, n, c, xs, rfl, rfl, hr⟩
    | succ k => exact HeadsAt.at h.2 k (by simpa using hk)
  | _ :: _, [], h, _, _ => by unfold HeadsAt at h; exact h.elim
theorem HeadsAt.keep {w w' : World} {B : Nat → Prop} {F : Bool} {size : Nat} {fp : Nat → Prop} (hk : Keeps fp w w') (hf : ∀ k, B k → ¬ fp k) : ∀ {vs : List Value} {xss : List (List Value)}, HeadsAt w B F size vs xss → HeadsAt w' B F size vs xss
  | [], [], _ => by unfold HeadsAt; trivial
  | v :: vs, xs :: xss, h => by
    unfold HeadsAt at h ⊢
    obtain ⟨⟨A, n, c, e, hr⟩, h2⟩ := h
    exact ⟨⟨A, n, c, e, hr.keep hk hf⟩, HeadsAt.keep hk hf h2⟩
  | [], _ :: _, h => by unfold HeadsAt at h; exact h.elim
  | _ :: _, [], h => by unfold HeadsAt at h; exact h.elim
theorem heads_take {xss : List (List Value)} {k : Nat} {xs : List Value} (h : xss[k]? = some xs) : (xss.take (k + 1)).flatten = (xss.take k).flatten ++ xs := by
  rw [List.take_add_one, h, List.flatten_append]; simp
theorem heads_take_le (xss : List (List Value)) (k : Nat) : (xss.take k).flatten.length ≤ xss.flatten.length := by
  have h : xss.flatten = (xss.take k).flatten ++ (xss.drop k).flatten := by rw [← List.flatten_append, List.take_append_drop]
  rw [h, List.length_append]; omega
end Go.Proofs.YtjdbjjjbgibpaaaGreatDoor
