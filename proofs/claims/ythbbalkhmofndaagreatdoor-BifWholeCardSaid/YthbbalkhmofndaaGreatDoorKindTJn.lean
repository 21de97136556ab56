/- slices.ContainsFunc at bif.Call's own function: is one of the arguments not right? Words behind one another, with spaces: which words they are. Plain lists of bytes; no program in sight. What is built in: the tables as words. -/
import Derived.Test.YthbbalkhmofndaaGreatDoorTwoJn
import Derived.Lib.IndexMore
import Derived.Test.YthbbalkhmofndaaGreatDoorMoreJn
namespace Go.Proofs.YthbbalkhmofndaaGreatDoor
open Go.RowKit

set_option maxRecDepth 100000 in
theorem callf_any (t : Tm) (w : World) (B : Nat → Prop) (F : Bool) (kd : Int) (ng : Bool) (la : Option Addr) (ln lc : Nat) (tx : ByteArray) (nm : Int) (ia : Option Addr) (im ic : Nat) (ta : Option Addr) (tn tc : Nat) (ht : TermIn w B F [.int .u8 kd, .bool ng, .slice la ln lc, .string tx, .int .i64 nm, .slice ia im ic, .slice ta tn tc] t) : Calls Tryz.prog 23 #[.agg #[.int .u8 kd, .bool ng, .slice la ln lc, .string tx, .int .i64 nm, .slice ia im ic, .slice ta tn tc]] w fun e w' => e = .returned (.bool (!rightT t)) ∧ Keeps NoB w w' := by
  have HT := hide (TermIn.keep ((Keeps.refl NoB w).alloc (.cells #[.int .u8 kd, .bool ng, .slice la ln lc, .string tx, .int .i64 nm, .slice ia im ic, .slice ta tn tc] 26)) (fun _ _ => id) _ _ ht)
  have HK0 := hide ((Keeps.refl NoB w).alloc (.cells #[.int .u8 kd, .bool ng, .slice la ln lc, .string tx, .int .i64 nm, .slice ia im ic, .slice ta tn tc] 26))
  clear ht
  go_enter Tryz.func23, Tryz.ntmps23
  go_wp2_with
    first
    | (go_at_call 7
       refine (tm_right t _ B F _ _ _ _ _ _ _ _ _ _ _ _ _ HT.out).mono ?_
       rintro e w1 ⟨rfl, hk1⟩
       have HK1 := hide (HK0.out.trans' hk1 (fun _ _ => id) (fun _ _ => id) : Keeps NoB w w1)
       clear hk1)
    | fail
  go_ret
  exact ⟨rfl, HK1.out⟩
set_option maxRecDepth 100000 in
set_option maxHeartbeats 2000000 in
theorem idx_right (ts : List Tm) (css : List (List Value)) (A : Option Addr) (n c : Nat) (w : World) (B : Nat → Prop) (F : Bool) (hr : Reads w B F 7 A n css.flatten) (ht : TermsIn w B F css ts) (hn : n ≤ 1000000) :
    Calls Tryz.prog 44 #[.slice A n c, .func (.func 23) #[] #[]] w fun e w' => ∃ i : Int, e = .returned (.int .i64 i) ∧ (decide (0 ≤ i) = !ts.all rightT) ∧ Keeps NoB w w' := by
  have hl : ts.length = n := by have h1 := hr.1; rw [flat_len ht.lens.2, ht.lens.1] at h1; omega
  have HR := hide hr; have HT := hide ht; have HL := hide hl
  clear hr ht hl
  go_enter Tryz.func44, Tryz.ntmps44
  go_wp2
  go_loopg [8] n (fun g s8 wx => ∃ k : Nat, k ≤ n ∧ g = n - k ∧ s8 = .int .i64 k ∧ Keeps NoB w wx ∧ Hid ((ts.take k).all rightT = true))
  case atStart => exact ⟨0, Nat.zero_le _, rfl, rfl, Keeps.refl _ _, hide (by simp)⟩
  case round =>
    obtain ⟨k, hk, rfl, rfl, hkw, HALL⟩ := hrel
    have HKW := hide hkw
    clear hkw
    by_cases hlt : k < n
    · have hk1 : (k : Int) < (n : Int) := by omega
      have hk0 : (0 : Int) ≤ (k : Int) := by omega
      obtain ⟨b, o, kd, ng, la, ln, lc, tx, nm, ia, im, ic, ta, tn, tc, t, hA, h1, h2, h3, f0, f1, f2, f3, f4, f5, f6⟩ := cells_at (HR.out.keep HKW.out (fun _ _ => id)) (TermsIn.keep HKW.out (fun _ _ => id) _ _ HT.out) k hlt
      subst hA
      have H1 := hide h1; have H2 := hide h2
      clear h1 h2 h3
      cases hv : rightT t with
      | true =>
        have HV := hide hv
        clear hv
        go_wp2_with
          first
          | (go_at_call 23
             refine (callf_any t _ B F _ _ _ _ _ _ _ _ _ _ _ _ _ H2.out).mono ?_
             rintro e w2 ⟨rfl, hk2⟩
             rw [HV.out]
             have HK2 := hide (HKW.out.trans' hk2 (fun _ _ => id) (fun _ _ => id) : Keeps NoB w w2)
             clear hk2)
          | fail
        go_roundg (n - (k + 1))
        case measure => omega
        case rel => exact ⟨k + 1, by omega, rfl, by go_num, HK2.out, hide (by rw [List.take_add_one, H1.out, List.all_append, HALL.out]; simp [HV.out])⟩
      | false =>
        have HV := hide hv
        clear hv
        go_wp2_with
          first
          | (go_at_call 23
             refine (callf_any t _ B F _ _ _ _ _ _ _ _ _ _ _ _ _ H2.out).mono ?_
             rintro e w2 ⟨rfl, hk2⟩
             rw [HV.out]
             have HK2 := hide (HKW.out.trans' hk2 (fun _ _ => id) (fun _ _ => id) : Keeps NoB w w2)
             clear hk2)
          | fail
        go_ret
        refine ⟨k, rfl, ?_, HK2.out⟩
        have h : ts.all rightT = false := by
          rw [List.all_eq_false]
          exact ⟨t, List.mem_of_getElem? H1.out, by rw [HV.out]; simp⟩
        rw [h]
        simp
    · obtain rfl : n = k := by omega
      have hkz : ¬ (n : Int) < (n : Int) := by omega
      go_wp2
      go_ret
      refine ⟨-1, rfl, ?_, HKW.out⟩
      have h := HALL.out
      rw [List.take_of_length_le (by have := HL.out; omega)] at h
      rw [h]
      decide
set_option maxRecDepth 100000 in
theorem contains_right (ts : List Tm) (css : List (List Value)) (A : Option Addr) (n c : Nat) (w : World) (B : Nat → Prop) (F : Bool) (hr : Reads w B F 7 A n css.flatten) (ht : TermsIn w B F css ts) (hn : n ≤ 1000000) :
    Calls Tryz.prog 22 #[.slice A n c, .func (.func 23) #[] #[]] w fun e w' => e = .returned (.bool (!ts.all rightT)) ∧ Keeps NoB w w' := by
  have HI := hide (idx_right ts css A n c w B F hr ht hn)
  clear hr ht
  go_enter Tryz.func22, Tryz.ntmps22
  go_wp2_with
    first
    | (go_at_call 44
       refine HI.out.mono ?_
       rintro e w1 ⟨i, rfl, hi, hk1⟩
       have HK1 := hide hk1; have HII := hide hi
       clear hk1 hi)
    | fail
  go_ret
  exact ⟨by rw [← HII.out]; rfl, HK1.out⟩
end Go.Proofs.YthbbalkhmofndaaGreatDoor
namespace Go.Proofs.YthbbalkhmofndaaGreatDoor
open Go

/-- No space. -/
def wordy (s : List UInt8) : Bool := !s.contains 32
/-- Spaces ahead of each word. -/
def spaced : List (List UInt8) → List UInt8
  | [] => [32]
  | w :: ws => 32 :: (w ++ spaced ws)
theorem spaced_head (ws : List (List UInt8)) : ∃ t, spaced ws = 32 :: t := by
  cases ws with
  | nil => exact ⟨[], rfl⟩
  | cons w ws => exact ⟨_, rfl⟩
/-- Two words that a space follows are the same where one is a beginning of the other. -/
theorem word_prefix : ∀ {u v s t : List UInt8}, u.contains 32 = false → v.contains 32 = false → (u ++ 32 :: s) <+: (v ++ 32 :: t) → u = v
  | [], [], _, _, _, _, _ => rfl
  | [], b :: v, s, t, _, hv, h => by
    obtain ⟨r, hr⟩ := h
    simp only [List.nil_append, List.cons_append, List.cons.injEq] at hr
    simp only [List.contains_cons, Bool.or_eq_false_iff] at hv
    have h1 := hr.1
    rw [← h1] at hv
    exact absurd hv.1 (by decide)
  | a :: u, [], s, t, hu, _, h => by
    obtain ⟨r, hr⟩ := h
    simp only [List.nil_append, List.cons_append, List.cons.injEq] at hr
    simp only [List.contains_cons, Bool.or_eq_false_iff] at hu
    have h1 := hr.1
    rw [h1] at hu
    exact absurd hu.1 (by decide)
  | a :: u, b :: v, s, t, hu, hv, h => by
    obtain ⟨r, hr⟩ := h
    simp only [List.cons_append, List.cons.injEq] at hr
    simp only [List.contains_cons, Bool.or_eq_false_iff] at hu hv
    rw [hr.1, word_prefix (s := s) (t := t) hu.2 hv.2 ⟨r, hr.2⟩]
theorem contains_cons (b : UInt8) (l sub : List UInt8) : Lib.contains (b :: l) sub = (sub.isPrefixOf (b :: l) || Lib.contains l sub) := by
  have h := Lib.index_ge l sub
  unfold Lib.contains
  rw [Lib.index]
  split
  · rename_i h1; simp [h1]
  · rename_i h1
    rw [Bool.not_eq_true] at h1
    rw [h1, Bool.false_or]
    split
    · rename_i h2
      have h2 : Lib.index l sub = -1 := by simpa using h2
      rw [h2]
    · rename_i h2
      have h2 : Lib.index l sub ≠ -1 := by simpa using h2
      rw [decide_eq_decide]
      omega
theorem contains_skip {sub : List UInt8} : ∀ {w rest : List UInt8}, w.contains 32 = false → Lib.contains (w ++ rest) (32 :: sub) = Lib.contains rest (32 :: sub)
  | [], _, _ => rfl
  | a :: w, rest, h => by
    simp only [List.contains_cons, Bool.or_eq_false_iff] at h
    rw [List.cons_append, contains_cons, contains_skip h.2]
    have : ((32 : UInt8) == a) = false := h.1
    simp [List.isPrefixOf, this]
theorem spaced_has {name : List UInt8} (hn : name.contains 32 = false) (h0 : name ≠ []) : ∀ {ws : List (List UInt8)}, (∀ w ∈ ws, w.contains 32 = false) → Lib.contains (spaced ws) (32 :: (name ++ [32])) = decide (name ∈ ws)
  | [], _ => by
    obtain ⟨a, l, rfl⟩ := List.exists_cons_of_ne_nil h0
    simp [spaced, contains_cons, Lib.contains, Lib.index, List.isPrefixOf]
  | w :: ws, h => by
    obtain ⟨t, ht⟩ := spaced_head ws
    rw [spaced, contains_cons, contains_skip (h w List.mem_cons_self), spaced_has hn h0 (fun x hx => h x (List.mem_cons_of_mem _ hx)), ht]
    by_cases e : name = w
    · subst e
      have : (32 :: (name ++ [32])).isPrefixOf (32 :: (name ++ 32 :: t)) = true := by
        rw [List.isPrefixOf_iff_prefix]
        exact ⟨t, by simp⟩
      simp [this]
    · have : (32 :: (name ++ [32])).isPrefixOf (32 :: (w ++ 32 :: t)) = false := by
        rw [Bool.eq_false_iff, Ne, List.isPrefixOf_iff_prefix]
        rintro ⟨r, hr⟩
        simp only [List.cons_append, List.cons.injEq, true_and] at hr
        exact e (word_prefix (s := []) (t := t) hn (h w List.mem_cons_self) ⟨r, hr⟩)
      rw [this, Bool.false_or, decide_eq_decide]
      simp [e]
/-- A text that has no space: so said by Contains. -/
theorem space_in (s : List UInt8) : Lib.contains s [32] = s.contains 32 := by
  induction s with
  | nil => simp [Lib.contains, Lib.index]
  | cons a l ih =>
    rw [contains_cons, ih, List.contains_cons]
    simp [List.isPrefixOf]
end Go.Proofs.YthbbalkhmofndaaGreatDoor
namespace Go.Proofs.YthbbalkhmofndaaGreatDoor
open Go.RowKit

/-- The words of a kind and an arity (where there are none: one that is empty). -/
def wordsK : Nat → Nat → List (List UInt8)
  | 0, 0 => [[]]
  | 0, 1 => [[]]
  | 0, 2 => [[]]
  | 0, 3 => [[]]
  | 1, 0 => [[]]
  | 1, 1 => [[116, 117, 112, 108, 101, 95, 116, 111, 95, 108, 105, 115, 116], [108, 105, 115, 116, 95, 116, 111, 95, 116, 117, 112, 108, 101], [97, 116, 111, 109, 95, 116, 111, 95, 108, 105, 115, 116], [108, 105, 115, 116, 95, 116, 111, 95, 97, 116, 111, 109], [105, 110, 116, 101, 103, 101, 114, 95, 116, 111, 95, 108, 105, 115, 116], [108, 105, 115, 116, 95, 116, 111, 95, 105, 110, 116, 101, 103, 101, 114], [114, 101, 118, 101, 114, 115, 101], [115, 117, 109], [115, 111, 114, 116], [117, 115, 111, 114, 116], [108, 97, 115, 116], [116, 104, 114, 111, 119], [101, 114, 114, 111, 114], [101, 120, 105, 116]]
  | 1, 2 => [[43, 43], [45, 45], [109, 97, 120], [109, 105, 110], [110, 116, 104], [110, 116, 104, 116, 97, 105, 108], [109, 101, 109, 98, 101, 114], [115, 101, 113]]
  | 1, 3 => [[115, 101, 116, 101, 108, 101, 109, 101, 110, 116]]
  | 2, 0 => [[]]
  | 2, 1 => [[43], [45], [110, 111, 116], [97, 98, 115], [104, 100], [116, 108], [108, 101, 110, 103, 116, 104], [116, 117, 112, 108, 101, 95, 115, 105, 122, 101], [105, 115, 95, 105, 110, 116, 101, 103, 101, 114], [105, 115, 95, 97, 116, 111, 109], [105, 115, 95, 116, 117, 112, 108, 101], [105, 115, 95, 108, 105, 115, 116], [105, 115, 95, 112, 105, 100], [105, 115, 95, 114, 101, 102, 101, 114, 101, 110, 99, 101], [105, 115, 95, 102, 117, 110, 99, 116, 105, 111, 110], [105, 115, 95, 98, 111, 111, 108, 101, 97, 110]]
  | 2, 2 => [[43], [45], [42], [100, 105, 118], [114, 101, 109], [61, 61], [47, 61], [61, 58, 61], [61, 47, 61], [60], [61, 60], [62], [62, 61], [97, 110, 100], [111, 114], [120, 111, 114], [101, 108, 101, 109, 101, 110, 116], [105, 115, 95, 102, 117, 110, 99, 116, 105, 111, 110]]
  | 2, 3 => [[]]
  | 3, 0 => [[115, 101, 108, 102], [109, 97, 107, 101, 95, 114, 101, 102], [110, 111, 119]]
  | 3, 1 => [[115, 112, 97, 119, 110], [115, 112, 97, 119, 110, 95, 108, 105, 110, 107], [115, 112, 97, 119, 110, 95, 109, 111, 110, 105, 116, 111, 114], [108, 105, 110, 107], [117, 110, 108, 105, 110, 107], [109, 111, 110, 105, 116, 111, 114], [100, 101, 109, 111, 110, 105, 116, 111, 114], [116, 114, 97, 112, 95, 101, 120, 105, 116], [117, 110, 114, 101, 103, 105, 115, 116, 101, 114], [119, 104, 101, 114, 101, 105, 115], [112, 114, 105, 110, 116]]
  | 3, 2 => [[33], [101, 120, 105, 116], [114, 101, 103, 105, 115, 116, 101, 114]]
  | 3, 3 => [[]]
  | _, _ => [[]]
/-- They as the program has them. -/
def textK : Nat → Nat → ByteArray
  | 0, 0 => ⟨#[]⟩
  | 0, 1 => ⟨#[]⟩
  | 0, 2 => ⟨#[]⟩
  | 0, 3 => ⟨#[]⟩
  | 1, 0 => ⟨#[]⟩
  | 1, 1 => ⟨#[116, 117, 112, 108, 101, 95, 116, 111, 95, 108, 105, 115, 116, 32, 108, 105, 115, 116, 95, 116, 111, 95, 116, 117, 112, 108, 101, 32, 97, 116, 111, 109, 95, 116, 111, 95, 108, 105, 115, 116, 32, 108, 105, 115, 116, 95, 116, 111, 95, 97, 116, 111, 109, 32, 105, 110, 116, 101, 103, 101, 114, 95, 116, 111, 95, 108, 105, 115, 116, 32, 108, 105, 115, 116, 95, 116, 111, 95, 105, 110, 116, 101, 103, 101, 114, 32, 114, 101, 118, 101, 114, 115, 101, 32, 115, 117, 109, 32, 115, 111, 114, 116, 32, 117, 115, 111, 114, 116, 32, 108, 97, 115, 116, 32, 116, 104, 114, 111, 119, 32, 101, 114, 114, 111, 114, 32, 101, 120, 105, 116]⟩
  | 1, 2 => ⟨#[43, 43, 32, 45, 45, 32, 109, 97, 120, 32, 109, 105, 110, 32, 110, 116, 104, 32, 110, 116, 104, 116, 97, 105, 108, 32, 109, 101, 109, 98, 101, 114, 32, 115, 101, 113]⟩
  | 1, 3 => ⟨#[115, 101, 116, 101, 108, 101, 109, 101, 110, 116]⟩
  | 2, 0 => ⟨#[]⟩
  | 2, 1 => ⟨#[43, 32, 45, 32, 110, 111, 116, 32, 97, 98, 115, 32, 104, 100, 32, 116, 108, 32, 108, 101, 110, 103, 116, 104, 32, 116, 117, 112, 108, 101, 95, 115, 105, 122, 101, 32, 105, 115, 95, 105, 110, 116, 101, 103, 101, 114, 32, 105, 115, 95, 97, 116, 111, 109, 32, 105, 115, 95, 116, 117, 112, 108, 101, 32, 105, 115, 95, 108, 105, 115, 116, 32, 105, 115, 95, 112, 105, 100, 32, 105, 115, 95, 114, 101, 102, 101, 114, 101, 110, 99, 101, 32, 105, 115, 95, 102, 117, 110, 99, 116, 105, 111, 110, 32, 105, 115, 95, 98, 111, 111, 108, 101, 97, 110]⟩
  | 2, 2 => ⟨#[43, 32, 45, 32, 42, 32, 100, 105, 118, 32, 114, 101, 109, 32, 61, 61, 32, 47, 61, 32, 61, 58, 61, 32, 61, 47, 61, 32, 60, 32, 61, 60, 32, 62, 32, 62, 61, 32, 97, 110, 100, 32, 111, 114, 32, 120, 111, 114, 32, 101, 108, 101, 109, 101, 110, 116, 32, 105, 115, 95, 102, 117, 110, 99, 116, 105, 111, 110]⟩
  | 2, 3 => ⟨#[]⟩
  | 3, 0 => ⟨#[115, 101, 108, 102, 32, 109, 97, 107, 101, 95, 114, 101, 102, 32, 110, 111, 119]⟩
  | 3, 1 => ⟨#[115, 112, 97, 119, 110, 32, 115, 112, 97, 119, 110, 95, 108, 105, 110, 107, 32, 115, 112, 97, 119, 110, 95, 109, 111, 110, 105, 116, 111, 114, 32, 108, 105, 110, 107, 32, 117, 110, 108, 105, 110, 107, 32, 109, 111, 110, 105, 116, 111, 114, 32, 100, 101, 109, 111, 110, 105, 116, 111, 114, 32, 116, 114, 97, 112, 95, 101, 120, 105, 116, 32, 117, 110, 114, 101, 103, 105, 115, 116, 101, 114, 32, 119, 104, 101, 114, 101, 105, 115, 32, 112, 114, 105, 110, 116]⟩
  | 3, 2 => ⟨#[33, 32, 101, 120, 105, 116, 32, 114, 101, 103, 105, 115, 116, 101, 114]⟩
  | 3, 3 => ⟨#[]⟩
  | _, _ => ⟨#[]⟩
theorem text_spaced : ∀ k a : Nat, k < 4 → a < 4 → 32 :: ((textK k a).data.toList ++ [32]) = spaced (wordsK k a) ∧ (textK k a).size < 1000 ∧ ∀ w ∈ wordsK k a, w.contains 32 = false := by
  intro k a hk ha
  have hk' : k = 0 ∨ k = 1 ∨ k = 2 ∨ k = 3 := by omega
  have ha' : a = 0 ∨ a = 1 ∨ a = 2 ∨ a = 3 := by omega
  rcases hk' with rfl | rfl | rfl | rfl <;> rcases ha' with rfl | rfl | rfl | rfl <;> exact ⟨by decide +kernel, by decide +kernel, by decide +kernel⟩
/-- lint.Kind -/
def kindN (l : List UInt8) (a : Int) : Int :=
  if l = [] ∨ a < 0 ∨ 3 < a ∨ l.contains 32 = true then 0
  else if l ∈ wordsK 1 a.toNat then 1 else if l ∈ wordsK 2 a.toNat then 2 else if l ∈ wordsK 3 a.toNat then 3 else 0
theorem words_zero (a : Nat) {l : List UInt8} (h : l ≠ []) : l ∉ wordsK 0 a := by
  match a with
  | 0 | 1 | 2 | 3 | n + 4 => simpa [wordsK] using h
/-- What the world holds of the program's tables. -/
def LaidK (w : World) : Prop := (∀ k a : Nat, k < 4 → a < 4 → w.cell? ⟨0, k * 4 + a, none⟩ = some (.string (textK k a))) ∧ ∃ m, w.cell? ⟨3, 0, none⟩ = some (.int .i64 m)
theorem LaidK.keep {w w' : World} (h : LaidK w) (hk : Keeps NoB w w') : LaidK w' := ⟨fun k a h1 h2 => hk.cell id (h.1 k a h1 h2), h.2.imp fun _ h => hk.cell id h⟩
theorem index_byte (l : List UInt8) (c : UInt8) : decide (0 ≤ Lib.indexByte l c) = l.contains c := by
  induction l with
  | nil => simp [Lib.indexByte]
  | cons b l ih =>
    have h := Lib.indexByte_ge l c
    rw [List.contains_cons, ← ih, Lib.indexByte]
    by_cases e : b = c
    · subst e; simp
    · rw [if_neg (by simpa using e)]
      have e2 : (c == b) = false := by simpa using fun h => e h.symm
      rw [e2, Bool.false_or]
      split
      · rename_i h2
        have h2 : Lib.indexByte l c = -1 := by simpa using h2
        rw [h2]
      · rename_i h2
        have h2 : Lib.indexByte l c ≠ -1 := by simpa using h2
        rw [decide_eq_decide]; omega
end Go.Proofs.YthbbalkhmofndaaGreatDoor
