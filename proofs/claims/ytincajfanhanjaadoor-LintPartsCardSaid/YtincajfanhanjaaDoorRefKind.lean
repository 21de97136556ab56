/- The document's answer: among, Kind. -/
import Derived.Test.YtincajfanhanjaaDoorKind
namespace Go.Proofs.YtincajfanhanjaaDoor
open Go.RowKit

theorem among_snoc {xs : List (List UInt8)} {k : Nat} {x s : List UInt8} (h : xs[k]? = some x) (h1 : s ∉ xs.take k) (h2 : x ≠ s) : s ∉ xs.take (k + 1) := by
  rw [List.take_add_one, h, List.mem_append]
  rintro (h3 | h3)
  · exact h1 h3
  · simp at h3; exact h2 h3.symm
theorem str_cell {w : World} {B : Nat → Prop} {F : Bool} {A : Option Addr} {n : Nat} {xs : List (List UInt8)} (h : Reads w B F 1 A n (xs.map (fun x => Value.string ⟨x.toArray⟩))) {k : Nat} (hk : k < n) : ∃ b o x, A = some ⟨b, o, none⟩ ∧ xs[k]? = some x ∧ w.cell? ⟨b, o + k, none⟩ = some (.string ⟨x.toArray⟩) := by
  have hl : xs.length = n := by have := h.1; simpa using this
  obtain ⟨⟨b, o, sp⟩, hA, hs, _, _, hc⟩ := h.2 (by omega)
  simp only at hs
  subst hs hA
  exact ⟨b, o, xs[k], rfl, List.getElem?_eq_getElem (by omega), (hc k _ (by rw [List.getElem?_map, List.getElem?_eq_getElem (by omega)]; rfl)).1⟩
set_option maxRecDepth 100000 in
theorem among_any (s : ByteArray) (A : Option Addr) (n c : Nat) (xs : List (List UInt8)) (w : World) (B : Nat → Prop) (F : Bool) (hr : Reads w B F 1 A n (xs.map (fun x => Value.string ⟨x.toArray⟩))) (hn : n ≤ 1000000) :
    Calls Tryd.prog 20 #[.string s, .slice A n c] w fun e w' => e = .returned (.bool (decide (s.data.toList ∈ xs))) ∧ w = w' := by
  have hl : xs.length = n := by have := hr.1; simpa using this
  have HR := hide hr; have HLN := hide hl
  clear hr hl
  go_enter Tryd.func20, Tryd.ntmps20
  go_wp2
  go_loop [5] (fun i => ∃ k : Nat, k ≤ n ∧ i = .int .i64 k ∧ s.data.toList ∉ xs.take k) (fun i => n - (intOf i).toNat)
  case atStart => exact ⟨0, Nat.zero_le _, rfl, by simp⟩
  case round =>
    obtain ⟨k, hk, rfl, hno⟩ := hrel
    have HNO := hide hno
    clear hno
    by_cases hlt : k < n
    · obtain ⟨b, o, x, rfl, hx, f0⟩ := str_cell HR.out hlt
      have HX := hide hx
      have hk1 : (k : Int) < (n : Int) := by omega
      have hk0 : (0 : Int) ≤ (k : Int) := by omega
      clear hx
      by_cases e : x = s.data.toList
      · subst e
        have e2 : (({ data := s.data.toList.toArray } : ByteArray).toList == s.toList) = true := by simp
        go_wp2
        go_ret
        have hm : s.data.toList ∈ xs := List.mem_of_getElem? HX.out
        exact ⟨by rw [decide_eq_true hm]; rfl, rfl⟩
      · have HE := hide e
        have e2 : (x == s.toList) = false := by rw [Lib.toList_data]; simpa using e
        clear e
        go_wp2
        go_round
        case rel => exact ⟨k + 1, by omega, by go_num, among_snoc HX.out HNO.out HE.out⟩
        case measure => simp [intOf]; omega
    · obtain rfl : k = n := by omega
      have hf : s.data.toList ∉ xs := by
        have := HNO.out
        rw [List.take_of_length_le (by have := HLN.out; omega)] at this
        exact this
      have HF := hide hf
      clear hf
      go_wp2
      go_ret
      exact ⟨by rw [decide_eq_false HF.out]; rfl, rfl⟩

theorem lits_reads (w : World) (cs : Array Value) (ws : List (List UInt8)) (n g : Nat) (hc : cs = (ws.map (fun x => Value.string ⟨x.toArray⟩)).toArray) (hn : ws.length = n) (hg : w.heap.size = g) : Reads (w.alloc (.cells cs 9)) (fun _ => True) true 1 (some ⟨w.heap.size, 0, none⟩) n (ws.map (fun x => Value.string ⟨x.toArray⟩)) := by
  subst hc hn
  refine ⟨by simp, fun _ => ⟨_, rfl, rfl, trivial, (Blk.new w 9 _).lt, fun j u hu => ⟨?_, fun _ => (Blk.new w 9 _).free _⟩⟩⟩
  rw [(Blk.new w 9 _).cell, ← hu]
  simp
theorem among_lits (s : ByteArray) (ws : List (List UInt8)) (n : Nat) (w : World) (cs : Array Value) (hc : cs = (ws.map (fun x => Value.string ⟨x.toArray⟩)).toArray) (hn : ws.length = n) (hn2 : n ≤ 1000) :
    Calls Tryd.prog 20 #[.string s, .slice (some ⟨w.heap.size, 0, none⟩) n n] (w.alloc (.cells cs 9)) fun e w' => e = .returned (.bool (decide (s.data.toList ∈ ws))) ∧ Keeps NoB w w' := by
  refine (among_any s _ n n ws _ _ _ (lits_reads w cs ws n _ hc hn rfl) (by omega)).mono ?_
  rintro e w' ⟨rfl, rfl⟩
  exact ⟨rfl, (Keeps.refl _ _).alloc _⟩
theorem words_real {l : List UInt8} {k a : Nat} (h : l ∈ wordsK k a) (hr : (wordsK k a).all (fun x => !x.isEmpty && !x.contains 32) = true) : l ≠ [] ∧ l.contains 32 = false := by
  have h1 := List.all_eq_true.1 hr l h
  simp only [Bool.and_eq_true, Bool.not_eq_true'] at h1
  exact ⟨by rintro rfl; exact absurd h1.1 (by simp), h1.2⟩
theorem words_apart {l : List UInt8} {k k' a : Nat} (h : l ∈ wordsK k a) (hr : (wordsK k a).all (fun x => !(wordsK k' a).contains x) = true) : l ∉ wordsK k' a := by
  have h1 := List.all_eq_true.1 hr l h
  simpa using h1
def refN (l : List UInt8) (a : Int) : Int :=
  if a = 0 then (if l ∈ wordsK 3 0 then 3 else 0)
  else if a = 1 then (if l ∈ wordsK 2 1 then 2 else if l ∈ wordsK 1 1 then 1 else if l ∈ wordsK 3 1 then 3 else 0)
  else if a = 2 then (if l ∈ wordsK 2 2 then 2 else if l ∈ wordsK 1 2 then 1 else if l ∈ wordsK 3 2 then 3 else 0)
  else if a = 3 then (if l ∈ wordsK 1 3 then 1 else 0) else 0
theorem ref_kind_eq (l : List UInt8) (a : Int) : refN l a = kindN l a := by
  have hreal : (∀ k a : Nat, (k, a) ∈ [(3, 0), (2, 1), (1, 1), (3, 1), (2, 2), (1, 2), (3, 2), (1, 3)] → (wordsK k a).all (fun x => !x.isEmpty && !x.contains 32) = true) := fun k a h => by
    have h0 : [((3 : Nat), (0 : Nat)), (2, 1), (1, 1), (3, 1), (2, 2), (1, 2), (3, 2), (1, 3)].all (fun x => (wordsK x.1 x.2).all (fun x => !x.isEmpty && !x.contains 32)) = true := by decide +kernel
    exact List.all_eq_true.1 h0 _ h
  by_cases h0 : l = [] ∨ l.contains 32 = true
  · have hk : kindN l a = 0 := by unfold kindN; rw [if_pos (h0.elim .inl (fun h => .inr (.inr (.inr h))))]
    have hn : ∀ k a : Nat, (k, a) ∈ [(3, 0), (2, 1), (1, 1), (3, 1), (2, 2), (1, 2), (3, 2), (1, 3)] → l ∉ wordsK k a := fun k a hm h => by
      obtain ⟨h1, h2⟩ := words_real h (hreal k a hm)
      rcases h0 with h0 | h0
      · exact h1 h0
      · rw [h2] at h0; cases h0
    rw [hk]
    unfold refN
    simp only [if_neg (hn 3 0 (by decide)), if_neg (hn 2 1 (by decide)), if_neg (hn 1 1 (by decide)), if_neg (hn 3 1 (by decide)), if_neg (hn 2 2 (by decide)), if_neg (hn 1 2 (by decide)), if_neg (hn 3 2 (by decide)), if_neg (hn 1 3 (by decide)), ite_self]
  simp only [not_or] at h0
  by_cases hlow : a < 0 ∨ 3 < a
  · have hk : kindN l a = 0 := by unfold kindN; rw [if_pos (hlow.elim (fun h => .inr (.inl h)) (fun h => .inr (.inr (.inl h))))]
    rw [hk]
    unfold refN
    rw [if_neg (by omega), if_neg (by omega), if_neg (by omega), if_neg (by omega)]
  have hk : kindN l a = if l ∈ wordsK 1 a.toNat then 1 else if l ∈ wordsK 2 a.toNat then 2 else if l ∈ wordsK 3 a.toNat then 3 else 0 := by
    unfold kindN
    rw [if_neg (by simp only [not_or] at hlow ⊢; exact ⟨h0.1, hlow.1, hlow.2, h0.2⟩)]
  have hz : ∀ k a : Nat, wordsK k a = [[]] → l ∉ wordsK k a := fun k a e h => by rw [e] at h; exact h0.1 (by simpa using h)
  rw [hk]
  have ha : a = 0 ∨ a = 1 ∨ a = 2 ∨ a = 3 := by omega
  unfold refN
  rcases ha with rfl | rfl | rfl | rfl
  · rw [if_pos rfl]
    show _ = if l ∈ wordsK 1 0 then 1 else if l ∈ wordsK 2 0 then 2 else if l ∈ wordsK 3 0 then 3 else 0
    rw [if_neg (hz 1 0 rfl), if_neg (hz 2 0 rfl)]
  · rw [if_neg (by decide), if_pos rfl]
    show _ = if l ∈ wordsK 1 1 then 1 else if l ∈ wordsK 2 1 then 2 else if l ∈ wordsK 3 1 then 3 else 0
    by_cases h : l ∈ wordsK 1 1
    · rw [if_neg (words_apart h (by decide +kernel)), if_pos h, if_pos h]
    · rw [if_neg h, if_neg h]
  · rw [if_neg (by decide), if_neg (by decide), if_pos rfl]
    show _ = if l ∈ wordsK 1 2 then 1 else if l ∈ wordsK 2 2 then 2 else if l ∈ wordsK 3 2 then 3 else 0
    by_cases h : l ∈ wordsK 1 2
    · rw [if_neg (words_apart h (by decide +kernel)), if_pos h, if_pos h]
    · rw [if_neg h, if_neg h]
  · rw [if_neg (by decide), if_neg (by decide), if_neg (by decide), if_pos rfl]
    show _ = if l ∈ wordsK 1 3 then 1 else if l ∈ wordsK 2 3 then 2 else if l ∈ wordsK 3 3 then 3 else 0
    rw [if_neg (hz 2 3 rfl), if_neg (hz 3 3 rfl)]
def RefKP (s : ByteArray) (a : Int) (w : World) (e : Ending) (w' : World) : Prop := e = .returned (.int .i64 (refN s.data.toList a)) ∧ Keeps NoB w w'

set_option maxRecDepth 100000 in
set_option maxHeartbeats 2000000 in
theorem ref_kind0 (s : ByteArray) (w : World) : Calls Tryd.prog 9 #[.string s, .int .i64 0] w (RefKP s 0 w) := by
  by_cases h0 : s.data.toList ∈ wordsK 3 0
  · have H0 := hide h0
    clear h0
    go_enter Tryd.func9, Tryd.ntmps9
    go_wp2_with fail
    refine (among_lits s (wordsK 3 0) 3 _ _ rfl rfl (by omega)).mono ?_
    rintro e w1 ⟨rfl, hk⟩
    have HK1 : Hid (Keeps NoB w w1) := hide (hk)
    clear hk
    rw [decide_eq_true H0.out]
    go_wp2_with fail
    go_ret
    exact ⟨by unfold refN; rw [if_pos rfl, if_pos H0.out]; rfl, HK1.out⟩
  ·
    have H0 := hide h0
    clear h0
    go_enter Tryd.func9, Tryd.ntmps9
    go_wp2_with fail
    refine (among_lits s (wordsK 3 0) 3 _ _ rfl rfl (by omega)).mono ?_
    rintro e w1 ⟨rfl, hk⟩
    have HK1 : Hid (Keeps NoB w w1) := hide (hk)
    clear hk
    rw [decide_eq_false H0.out]
    go_wp2_with fail
    go_ret
    exact ⟨by unfold refN; rw [if_pos rfl, if_neg H0.out]; rfl, HK1.out⟩
set_option maxRecDepth 100000 in
set_option maxHeartbeats 2000000 in
theorem ref_kind1 (s : ByteArray) (w : World) : Calls Tryd.prog 9 #[.string s, .int .i64 1] w (RefKP s 1 w) := by
  by_cases h0 : s.data.toList ∈ wordsK 2 1
  · have H0 := hide h0
    clear h0
    go_enter Tryd.func9, Tryd.ntmps9
    go_wp2_with fail
    refine (among_lits s (wordsK 2 1) 16 _ _ rfl rfl (by omega)).mono ?_
    rintro e w1 ⟨rfl, hk⟩
    have HK1 : Hid (Keeps NoB w w1) := hide (hk)
    clear hk
    rw [decide_eq_true H0.out]
    go_wp2_with fail
    go_ret
    exact ⟨by unfold refN; rw [if_neg (by decide), if_pos rfl, if_pos H0.out]; rfl, HK1.out⟩
  ·
    by_cases h1 : s.data.toList ∈ wordsK 1 1
    · have H0 := hide h0; have H1 := hide h1
      clear h0 h1
      go_enter Tryd.func9, Tryd.ntmps9
      go_wp2_with fail
      refine (among_lits s (wordsK 2 1) 16 _ _ rfl rfl (by omega)).mono ?_
      rintro e w1 ⟨rfl, hk⟩
      have HK1 : Hid (Keeps NoB w w1) := hide (hk)
      clear hk
      rw [decide_eq_false H0.out]
      go_wp2_with fail
      refine (among_lits s (wordsK 1 1) 14 _ _ rfl rfl (by omega)).mono ?_
      rintro e w2 ⟨rfl, hk⟩
      have HK2 : Hid (Keeps NoB w w2) := hide (HK1.out.trans' hk (fun _ _ => id) (fun _ _ => id))
      clear hk
      rw [decide_eq_true H1.out]
      go_wp2_with fail
      go_ret
      exact ⟨by unfold refN; rw [if_neg (by decide), if_pos rfl, if_neg H0.out, if_pos H1.out]; rfl, HK2.out⟩
    ·
      by_cases h2 : s.data.toList ∈ wordsK 3 1
      · have H0 := hide h0; have H1 := hide h1; have H2 := hide h2
        clear h0 h1 h2
        go_enter Tryd.func9, Tryd.ntmps9
        go_wp2_with fail
        refine (among_lits s (wordsK 2 1) 16 _ _ rfl rfl (by omega)).mono ?_
        rintro e w1 ⟨rfl, hk⟩
        have HK1 : Hid (Keeps NoB w w1) := hide (hk)
        clear hk
        rw [decide_eq_false H0.out]
        go_wp2_with fail
        refine (among_lits s (wordsK 1 1) 14 _ _ rfl rfl (by omega)).mono ?_
        rintro e w2 ⟨rfl, hk⟩
        have HK2 : Hid (Keeps NoB w w2) := hide (HK1.out.trans' hk (fun _ _ => id) (fun _ _ => id))
        clear hk
        rw [decide_eq_false H1.out]
        go_wp2_with fail
        refine (among_lits s (wordsK 3 1) 11 _ _ rfl rfl (by omega)).mono ?_
        rintro e w3 ⟨rfl, hk⟩
        have HK3 : Hid (Keeps NoB w w3) := hide (HK2.out.trans' hk (fun _ _ => id) (fun _ _ => id))
        clear hk
        rw [decide_eq_true H2.out]
        go_wp2_with fail
        go_ret
        exact ⟨by unfold refN; rw [if_neg (by decide), if_pos rfl, if_neg H0.out, if_neg H1.out, if_pos H2.out]; rfl, HK3.out⟩
      ·
        have H0 := hide h0; have H1 := hide h1; have H2 := hide h2
        clear h0 h1 h2
        go_enter Tryd.func9, Tryd.ntmps9
        go_wp2_with fail
        refine (among_lits s (wordsK 2 1) 16 _ _ rfl rfl (by omega)).mono ?_
        rintro e w1 ⟨rfl, hk⟩
        have HK1 : Hid (Keeps NoB w w1) := hide (hk)
        clear hk
        rw [decide_eq_false H0.out]
        go_wp2_with fail
        refine (among_lits s (wordsK 1 1) 14 _ _ rfl rfl (by omega)).mono ?_
        rintro e w2 ⟨rfl, hk⟩
        have HK2 : Hid (Keeps NoB w w2) := hide (HK1.out.trans' hk (fun _ _ => id) (fun _ _ => id))
        clear hk
        rw [decide_eq_false H1.out]
        go_wp2_with fail
        refine (among_lits s (wordsK 3 1) 11 _ _ rfl rfl (by omega)).mono ?_
        rintro e w3 ⟨rfl, hk⟩
        have HK3 : Hid (Keeps NoB w w3) := hide (HK2.out.trans' hk (fun _ _ => id) (fun _ _ => id))
        clear hk
        rw [decide_eq_false H2.out]
        go_wp2_with fail
        go_ret
        exact ⟨by unfold refN; rw [if_neg (by decide), if_pos rfl, if_neg H0.out, if_neg H1.out, if_neg H2.out]; rfl, HK3.out⟩
set_option maxRecDepth 100000 in
set_option maxHeartbeats 2000000 in
theorem ref_kind2 (s : ByteArray) (w : World) : Calls Tryd.prog 9 #[.string s, .int .i64 2] w (RefKP s 2 w) := by
  by_cases h0 : s.data.toList ∈ wordsK 2 2
  · have H0 := hide h0
    clear h0
    go_enter Tryd.func9, Tryd.ntmps9
    go_wp2_with fail
    refine (among_lits s (wordsK 2 2) 18 _ _ rfl rfl (by omega)).mono ?_
    rintro e w1 ⟨rfl, hk⟩
    have HK1 : Hid (Keeps NoB w w1) := hide (hk)
    clear hk
    rw [decide_eq_true H0.out]
    go_wp2_with fail
    go_ret
    exact ⟨by unfold refN; rw [if_neg (by decide), if_neg (by decide), if_pos rfl, if_pos H0.out]; rfl, HK1.out⟩
  ·
    by_cases h1 : s.data.toList ∈ wordsK 1 2
    · have H0 := hide h0; have H1 := hide h1
      clear h0 h1
      go_enter Tryd.func9, Tryd.ntmps9
      go_wp2_with fail
      refine (among_lits s (wordsK 2 2) 18 _ _ rfl rfl (by omega)).mono ?_
      rintro e w1 ⟨rfl, hk⟩
      have HK1 : Hid (Keeps NoB w w1) := hide (hk)
      clear hk
      rw [decide_eq_false H0.out]
      go_wp2_with fail
      refine (among_lits s (wordsK 1 2) 8 _ _ rfl rfl (by omega)).mono ?_
      rintro e w2 ⟨rfl, hk⟩
      have HK2 : Hid (Keeps NoB w w2) := hide (HK1.out.trans' hk (fun _ _ => id) (fun _ _ => id))
      clear hk
      rw [decide_eq_true H1.out]
      go_wp2_with fail
      go_ret
      exact ⟨by unfold refN; rw [if_neg (by decide), if_neg (by decide), if_pos rfl, if_neg H0.out, if_pos H1.out]; rfl, HK2.out⟩
    ·
      by_cases h2 : s.data.toList ∈ wordsK 3 2
      · have H0 := hide h0; have H1 := hide h1; have H2 := hide h2
        clear h0 h1 h2
        go_enter Tryd.func9, Tryd.ntmps9
        go_wp2_with fail
        refine (among_lits s (wordsK 2 2) 18 _ _ rfl rfl (by omega)).mono ?_
        rintro e w1 ⟨rfl, hk⟩
        have HK1 : Hid (Keeps NoB w w1) := hide (hk)
        clear hk
        rw [decide_eq_false H0.out]
        go_wp2_with fail
        refine (among_lits s (wordsK 1 2) 8 _ _ rfl rfl (by omega)).mono ?_
        rintro e w2 ⟨rfl, hk⟩
        have HK2 : Hid (Keeps NoB w w2) := hide (HK1.out.trans' hk (fun _ _ => id) (fun _ _ => id))
        clear hk
        rw [decide_eq_false H1.out]
        go_wp2_with fail
        refine (among_lits s (wordsK 3 2) 3 _ _ rfl rfl (by omega)).mono ?_
        rintro e w3 ⟨rfl, hk⟩
        have HK3 : Hid (Keeps NoB w w3) := hide (HK2.out.trans' hk (fun _ _ => id) (fun _ _ => id))
        clear hk
        rw [decide_eq_true H2.out]
        go_wp2_with fail
        go_ret
        exact ⟨by unfold refN; rw [if_neg (by decide), if_neg (by decide), if_pos rfl, if_neg H0.out, if_neg H1.out, if_pos H2.out]; rfl, HK3.out⟩
      ·
        have H0 := hide h0; have H1 := hide h1; have H2 := hide h2
        clear h0 h1 h2
        go_enter Tryd.func9, Tryd.ntmps9
        go_wp2_with fail
        refine (among_lits s (wordsK 2 2) 18 _ _ rfl rfl (by omega)).mono ?_
        rintro e w1 ⟨rfl, hk⟩
        have HK1 : Hid (Keeps NoB w w1) := hide (hk)
        clear hk
        rw [decide_eq_false H0.out]
        go_wp2_with fail
        refine (among_lits s (wordsK 1 2) 8 _ _ rfl rfl (by omega)).mono ?_
        rintro e w2 ⟨rfl, hk⟩
        have HK2 : Hid (Keeps NoB w w2) := hide (HK1.out.trans' hk (fun _ _ => id) (fun _ _ => id))
        clear hk
        rw [decide_eq_false H1.out]
        go_wp2_with fail
        refine (among_lits s (wordsK 3 2) 3 _ _ rfl rfl (by omega)).mono ?_
        rintro e w3 ⟨rfl, hk⟩
        have HK3 : Hid (Keeps NoB w w3) := hide (HK2.out.trans' hk (fun _ _ => id) (fun _ _ => id))
        clear hk
        rw [decide_eq_false H2.out]
        go_wp2_with fail
        go_ret
        exact ⟨by unfold refN; rw [if_neg (by decide), if_neg (by decide), if_pos rfl, if_neg H0.out, if_neg H1.out, if_neg H2.out]; rfl, HK3.out⟩
set_option maxRecDepth 100000 in
theorem ref_kind3 (s : ByteArray) (w : World) : Calls Tryd.prog 9 #[.string s, .int .i64 3] w (RefKP s 3 w) := by
  by_cases h : s.data.toList ∈ wordsK 1 3
  · have hs : s = ⟨#[115, 101, 116, 101, 108, 101, 109, 101, 110, 116]⟩ := by
      have h1 : s.data.toList = [115, 101, 116, 101, 108, 101, 109, 101, 110, 116] := by simpa [wordsK] using h
      exact WideShapes.bytes_inj h1
    subst hs
    have H := hide h
    clear h
    go_enter Tryd.func9, Tryd.ntmps9
    go_wp2_with fail
    go_ret
    exact ⟨by unfold refN; rw [if_neg (by decide), if_neg (by decide), if_neg (by decide), if_pos rfl, if_pos H.out]; rfl, Keeps.refl _ _⟩
  · have h1 : (s.toList == [115, 101, 116, 101, 108, 101, 109, 101, 110, 116]) = false := by
      rw [Lib.toList_data]
      simpa [wordsK] using h
    have H := hide h
    clear h
    go_enter Tryd.func9, Tryd.ntmps9
    go_wp2_with fail
    go_ret
    exact ⟨by unfold refN; rw [if_neg (by decide), if_neg (by decide), if_neg (by decide), if_pos rfl, if_neg H.out]; rfl, Keeps.refl _ _⟩
set_option maxRecDepth 100000 in
theorem ref_kind4 (s : ByteArray) (a : Int) (h0 : a ≠ 0) (h1 : a ≠ 1) (h2 : a ≠ 2) (h3 : a ≠ 3) (w : World) : Calls Tryd.prog 9 #[.string s, .int .i64 a] w (RefKP s a w) := by
  have HE : Hid (refN s.data.toList a = 0) := hide (by unfold refN; rw [if_neg h0, if_neg h1, if_neg h2, if_neg h3])
  have b0 : (a == 0) = false := by simpa using h0
  have b1 : (a == 1) = false := by simpa using h1
  have b2 : (a == 2) = false := by simpa using h2
  have b3 : (a == 3) = false := by simpa using h3
  clear h0 h1 h2 h3
  go_enter Tryd.func9, Tryd.ntmps9
  go_wp2_with fail
  go_ret
  exact ⟨by rw [HE.out]; rfl, Keeps.refl _ _⟩
/-- The document's Kind tells the same. -/
theorem ref_kind_any (s : ByteArray) (a : Int) (w : World) : Calls Tryd.prog 9 #[.string s, .int .i64 a] w fun e w' => e = .returned (.int .i64 (kindN s.data.toList a)) ∧ Keeps NoB w w' := by
  have h : Calls Tryd.prog 9 #[.string s, .int .i64 a] w (RefKP s a w) := by
    by_cases h0 : a = 0
    · subst h0; exact ref_kind0 s w
    by_cases h1 : a = 1
    · subst h1; exact ref_kind1 s w
    by_cases h2 : a = 2
    · subst h2; exact ref_kind2 s w
    by_cases h3 : a = 3
    · subst h3; exact ref_kind3 s w
    exact ref_kind4 s a h0 h1 h2 h3 w
  refine h.mono ?_
  rintro e w' ⟨he, hk⟩
  rw [ref_kind_eq] at he
  exact ⟨he, hk⟩
end Go.Proofs.YtincajfanhanjaaDoor
