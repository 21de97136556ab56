/- The chapter's example: awake() is true; names that are not. -/
import Derived.Test.YthoaaihghgabcaaGreatSame
namespace Go.Proofs.YthoaaihghgabcaaGreat
open Go.RowKit Go.Maps

section
variable {a : Option Addr} {w : World} (hm : Calls Tryz.prog 22 #[.pointer a] w fun e w' => e = .returned (.bool false) ∧ w = w')
include hm
theorem find_un (s : ByteArray) : Calls Tryz.prog 13 #[.pointer a, .string s] w fun e w' => e = .returned (.tuple #[.int .i64 0, .bool false]) ∧ w = w' := by
  go_enter Tryz.func13, Tryz.ntmps13
  go_wp2_with (go_at_call 22; refine hm.mono ?_; rintro e w' ⟨rfl, rfl⟩)
  go_ret2
  exact ⟨rfl, rfl⟩
theorem put_un (s : ByteArray) (p : Int) : Calls Tryz.prog 12 #[.pointer a, .string s, .int .i64 p] w fun e w' => e = .returned (.bool false) ∧ w = w' := by
  go_enter Tryz.func12, Tryz.ntmps12
  go_wp2_with (go_at_call 22; refine hm.mono ?_; rintro e w' ⟨rfl, rfl⟩)
  go_ret
  exact ⟨rfl, rfl⟩
theorem take_un (s : ByteArray) : Calls Tryz.prog 18 #[.pointer a, .string s] w fun e w' => e = .returned (.bool false) ∧ w = w' := by
  have hf := find_un hm s
  go_enter Tryz.func18, Tryz.ntmps18
  go_wp2_with (go_at_call 13; refine hf.mono ?_; rintro e w' ⟨rfl, rfl⟩)
  go_ret
  exact ⟨rfl, rfl⟩
theorem end_un (p : Int) : Calls Tryz.prog 14 #[.pointer a, .int .i64 p] w fun e w' => e = .returned (.slice none 0 0) ∧ w = w' := by
  go_enter Tryz.func14, Tryz.ntmps14
  go_wp2_with (go_at_call 22; refine hm.mono ?_; rintro e w' ⟨rfl, rfl⟩)
  go_ret
  exact ⟨rfl, rfl⟩
theorem all_un : Calls Tryz.prog 10 #[.pointer a] w fun e w' => e = .returned (.slice none 0 0) ∧ w = w' := by
  go_enter Tryz.func10, Tryz.ntmps10
  go_wp2_with (go_at_call 22; refine hm.mono ?_; rintro e w' ⟨rfl, rfl⟩)
  go_ret
  exact ⟨rfl, rfl⟩
end

/-- From w on nothing that was there has turned; the names lie behind. -/
structure Run (w w' : World) (b m1 m2 N : Nat) (L : List Nm) : Prop where
  at' : NamesAt w' b m1 m2 N L
  keep : Keeps NoB w w'
  hb : w.heap.size ≤ b
  h1 : w.heap.size ≤ m1
  h2 : w.heap.size ≤ m2
section
variable {w w' w'' : World} {b m1 m2 N N' : Nat} {L L' : List Nm}
theorem Run.fresh (h : Run w w' b m1 m2 N L) (k : Keeps NoB w' w'') : Run w w'' b m1 m2 N L := ⟨h.at'.fresh k, h.keep.trans' k (fun _ _ => id) (fun _ _ => id), h.hb, h.h1, h.h2⟩
theorem Run.turn (h : Run w w' b m1 m2 N L) (k : Keeps (fun k => k = m1 ∨ k = m2) w' w'') (hn : NamesAt w'' b m1 m2 N' L') : Run w w'' b m1 m2 N' L' :=
  ⟨hn, h.keep.trans' k (fun _ _ => id) (fun x hx e => by have := h.h1; have := h.h2; omega), h.hb, h.h1, h.h2⟩
end

theorem sizeA : (ByteArray.mk #[97]).size ≤ maxLen := by unfold maxLen; decide
theorem sizeB : (ByteArray.mk #[98]).size ≤ maxLen := by unfold maxLen; decide
theorem ok7 : IntOk 7 := by unfold IntOk; decide
theorem ok8 : IntOk 8 := by unfold IntOk; decide
theorem sizeOnly {x : Nm} (h : x ∈ [((⟨#[98]⟩ : ByteArray), (7 : Int))]) : x.1.size ≤ maxLen := by
  rw [List.mem_singleton] at h; rw [h]; exact sizeB
theorem dropA : dropName ⟨#[97]⟩ [(⟨#[97]⟩, 7)] = [] := by simp [dropName]
theorem b_not : hasN ⟨#[98]⟩ [] = false := rfl
set_option maxRecDepth 100000 in
set_option maxHeartbeats 2000000 in
theorem awake_any (w : World) : Calls Tryz.prog 6 #[] w (TrueK w) := by
  go_enter Tryz.func6, Tryz.ntmps6
  go_wp2_with fail
  refine (new_any w).mono ?_
  rintro e w1 ⟨rfl, h1, hk⟩
  generalize hb : w.heap.size + 2 = b at *
  generalize hm1 : w.heap.size + 1 = m2 at *
  obtain ⟨m1, hm2⟩ : ∃ m1, w.heap.size = m1 := ⟨_, rfl⟩
  have R1 := hide (show Run w w1 b m1 m2 0 [] from ⟨hm2 ▸ h1, hk, by omega, by omega, by omega⟩)
  clear h1 hk hb hm1 hm2
  go_wp2_with fail
  refine (put_yes w1 b m1 m2 0 [] ⟨#[97]⟩ 7 R1.out.at' sizeA ok7 rfl rfl (by omega)).mono ?_
  rintro e w2 ⟨rfl, h1, hk⟩
  have R2 := hide (show Run w w2 b m1 m2 1 [(⟨#[97]⟩, 7)] from R1.out.turn hk h1)
  clear h1 hk R1
  go_wp2_with fail
  refine (put_no w2 b m1 m2 1 [(⟨#[97]⟩, 7)] ⟨#[97]⟩ 8 R2.out.at' sizeA ok8 (.inl (by simp [hasN]))).mono ?_
  rintro e w3 ⟨rfl, rfl⟩
  go_wp2_with fail
  refine (put_no w2 b m1 m2 1 [(⟨#[97]⟩, 7)] ⟨#[98]⟩ 7 R2.out.at' sizeB ok7 (.inr (by simp [hasP]))).mono ?_
  rintro e w3 ⟨rfl, rfl⟩
  go_wp2_with fail
  refine (find_at w2 b m1 m2 1 [(⟨#[97]⟩, 7)] ⟨#[97]⟩ 7 true R2.out.at' (.inl ⟨rfl, by simp⟩) sizeA).mono ?_
  rintro e w3 ⟨rfl, rfl⟩
  go_wp2_with fail
  refine (end_yes w2 b m1 m2 1 [(⟨#[97]⟩, 7)] ⟨#[97]⟩ 7 R2.out.at' sizeA ok7 (by simp)).mono ?_
  rintro e w3 ⟨g, rfl, hg, hgl, h1, hk⟩
  rw [dropA] at h1
  have R3 := hide (R2.out.turn hk h1)
  have HG := hide hg
  clear h1 hk R2 hg
  go_wp2_with fail
  refine (find_at w3 b m1 m2 1 [] ⟨#[97]⟩ 0 false R3.out.at' (.inr ⟨rfl, by simp [names], rfl⟩) sizeA).mono ?_
  rintro e w4 ⟨rfl, rfl⟩
  go_wp2_with fail
  have R4 := hide (R3.out.fresh ((Keeps.refl NoB w3).alloc (.cells #[.string ⟨#[97]⟩] 9)))
  refine (texts_self _ _ 1 1 1 [⟨#[97]⟩] _ (fun _ => True) (fun _ => True) true true (by
    have hb := HG.out.alloc (.cells #[.string ⟨#[97]⟩] 9)
    exact ⟨rfl, fun _ => ⟨_, rfl, rfl, trivial, hb.lt, fun j u hu => ⟨by rw [hb.cell, ← hu]; simp, fun _ => hb.free _⟩⟩⟩) (by
    have hb := Blk.new w3 9 #[.string ⟨#[97]⟩]
    exact ⟨rfl, fun _ => ⟨_, rfl, rfl, trivial, hb.lt, fun j u hu => ⟨by rw [hb.cell, ← hu]; simp, fun _ => hb.free _⟩⟩⟩) (by omega)).mono ?_
  rintro e w5 ⟨rfl, hk⟩
  have R5 := hide (R4.out.fresh hk)
  clear hk R4 HG R3
  go_wp2_with fail
  refine (put_yes w5 b m1 m2 1 [] ⟨#[98]⟩ 7 R5.out.at' sizeB ok7 rfl rfl (by omega)).mono ?_
  rintro e w6 ⟨rfl, h1, hk⟩
  have R6 := hide (show Run w w6 b m1 m2 2 [(⟨#[98]⟩, 7)] from R5.out.turn hk h1)
  clear h1 hk R5
  go_wp2_with fail
  refine (all_at w6 b m1 m2 2 [(⟨#[98]⟩, 7)] R6.out.at' (by omega) (fun x hx => sizeOnly hx) (by simp)).mono ?_
  rintro e w7 ⟨A, c, rfl, hs, hk, _⟩
  have R7 := hide (R6.out.fresh hk)
  have HSL := hide hs
  clear hk hs R6
  go_wp2_with fail
  refine (nameds_self A _ 1 c 1 [(⟨#[98]⟩, 7)] _ _ (fun _ => True) true true ((HSL.out.fresh ((Keeps.refl NoB w7).alloc (.cells #[.string ⟨#[98]⟩, .int .i64 7] 42))).reads) (two_reads (Blk.new w7 42 #[.string ⟨#[98]⟩, .int .i64 7])) (by omega)).mono ?_
  rintro e w8 ⟨rfl, hk⟩
  have R8 := hide ((R7.out.fresh ((Keeps.refl NoB w7).alloc (.cells #[.string ⟨#[98]⟩, .int .i64 7] 42))).fresh hk)
  clear hk
  go_wp2_with fail
  go_ret
  exact ⟨rfl, R8.out.keep⟩
end Go.Proofs.YthoaaihghgabcaaGreat
