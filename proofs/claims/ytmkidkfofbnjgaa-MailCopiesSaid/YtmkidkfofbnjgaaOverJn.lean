/- pigeonholekit: KeptLimbs. pigeonholekit: KeptTerm, KeptTerms. pigeonholekit: OverLimbs, OverTerm, OverTerms. -/
import Derived.Test.YtmkidkfofbnjgaaLentTJn
namespace Go.Proofs.Ytmkidkfofbnjgaa
open Go.RowKit

theorem slab_cell {w : World} {e : TypeId} {size n c g : Nat} {xs : List Value} (h : Slab w e size (some ⟨g, 0, none⟩) n c xs) {j : Nat} {u : Value} (hu : xs[j]? = some u) : w.cell? ⟨g, j, none⟩ = some u ∧ w.frozen? ⟨g, j, none⟩ = false := by
  have hn : 0 < n := by
    have h1 := (List.getElem?_eq_some_iff.1 hu).1
    rw [h.1] at h1
    rcases Nat.eq_zero_or_pos n with e | e
    · subst e; simp at h1
    · exact e
  obtain ⟨ad, e, _, _, _, hc⟩ := h.reads.2 hn
  injection e with e; subst e
  have := hc j u hu
  simp only [Nat.zero_add] at this
  exact ⟨this.1, this.2 trivial⟩
theorem marksL_at {m k : Nat} (h : k < m) : (marksL m)[k]? = some (.int .u32 (IntKind.u32.wrap (markV 1 (k : Int)))) := by
  unfold marksL; rw [List.getElem?_map, List.getElem?_range h]; rfl

set_option maxRecDepth 100000 in
set_option maxHeartbeats 1000000 in
theorem keptLimbs_any (g n c : Nat) (A : Option Addr) (xs : List Int) (w : World) (B : Nat → Prop) (F : Bool) (hs : Slab w 92 1 (some ⟨g, 0, none⟩) (n + 12) (n + 12) (xs.map (Value.int .u32) ++ marksL 12)) (hl : xs.length = n) (h : Reads w B F 1 A n (xs.map (Value.int .u32))) (hn : n ≤ 1000000) :
    Calls Try.prog 47 #[.slice (some ⟨g, 0, none⟩) n (n + 12), .slice A n c] w fun e w' => e = .returned (.bool true) ∧ Keeps NoB w w' := by
  have HS0 := hide hs; have HL := hide hl; have HR := hide h
  have hwr : IntKind.i64.wrap ((n : Int) + 12) = (n : Int) + 12 := IntWalk.i64_in _ (by omega)
  have hnn : ((n : Int) != (n : Int)) = false := by simp
  clear hs hl h
  go_enter Try.func47, Try.ntmps47
  go_wp2_with fail
  go_loopg [6] (n + 12) (fun g s6 wr => ∃ i : Nat, i ≤ n + 12 ∧ g = n + 12 - i ∧ s6 = .int .i64 i ∧ Keeps NoB w wr)
  case atStart => exact ⟨0, Nat.zero_le _, rfl, rfl, Keeps.refl _ _⟩
  case round =>
    obtain ⟨i, hi, rfl, rfl, hkw⟩ := hrel
    have HKW := hide hkw; clear hkw
    have hi0 : (0 : Int) ≤ i := by omega
    by_cases hin : i < n
    · have hiz2 : (i : Int) < (n : Int) + 12 := by omega
      have hiz3 : ¬ n ≤ i := by omega
      obtain ⟨x, hx⟩ : ∃ x, xs[i]? = some x := ⟨_, List.getElem?_eq_getElem (by have := HL.out; omega)⟩
      have p1 := (slab_cell HS0.out (j := i) (u := .int .u32 x) (by rw [List.getElem?_append_left (by simp; have := HL.out; omega)]; simp [hx])).1
      obtain ⟨⟨b, o, sp⟩, hA, hsp, _, _, hc⟩ := HR.out.2 (by omega)
      simp only at hsp
      subst hsp hA
      have p2 := (hc i (.int .u32 x) (by simp [hx])).1
      have HP := hide (And.intro p1 p2)
      have hxx : (x == x) = true := by simp
      clear hx p1 p2 hc
      go_wp2_with fail
      refine order_begin (fun W => Keeps NoB w W) (fun _ => true) (by kernel_rfl) 36 rfl ?_
      have HS : Keeps NoB w wr.drew := HKW.out.drew
      generalize wr.drew = W0 at *
      refine order_pure (i := 0) rfl (by kernel_rfl) (fun _ _ _ h => h) (.inl ⟨rfl, fun _ => by go_simp; rfl⟩) ?_
      try simp only [Act.put, List.setIfInBounds_toArray, List.set_cons_succ, List.set_cons_zero]
      refine order_pure (i := 1) rfl (by kernel_rfl) (fun _ _ _ h => h) (.inl ⟨rfl, fun _ => by go_simp; rfl⟩) ?_
      try simp only [Act.put, List.setIfInBounds_toArray, List.set_cons_succ, List.set_cons_zero]
      refine order_pure (i := 2) rfl (by kernel_rfl) (fun _ _ _ h => h) (.inl ⟨rfl, fun _ => by go_simp; rfl⟩) ?_
      try simp only [Act.put, List.setIfInBounds_toArray, List.set_cons_succ, List.set_cons_zero]
      refine order_pure (i := 3) rfl (by kernel_rfl) (fun _ _ _ h => h) (.inl ⟨rfl, fun _ => by go_simp; rfl⟩) ?_
      try simp only [Act.put, List.setIfInBounds_toArray, List.set_cons_succ, List.set_cons_zero]
      refine order_pure (i := 4) rfl (by kernel_rfl) (fun _ _ _ h => h) (.inl ⟨rfl, fun _ => by go_simp; rfl⟩) ?_
      try simp only [Act.put, List.setIfInBounds_toArray, List.set_cons_succ, List.set_cons_zero]
      refine order_pure (i := 5) rfl (by kernel_rfl) (fun _ _ _ h => h) (.inl ⟨rfl, fun _ => by go_simp; rfl⟩) ?_
      try simp only [Act.put, List.setIfInBounds_toArray, List.set_cons_succ, List.set_cons_zero]
      refine order_pure (i := 6) rfl (by kernel_rfl) (fun _ _ _ h => h) (.inl ⟨rfl, fun _ => by go_simp; rfl⟩) ?_
      try simp only [Act.put, List.setIfInBounds_toArray, List.set_cons_succ, List.set_cons_zero]
      refine order_pure (i := 7) rfl (by kernel_rfl) (fun _ _ _ h => h) (.inl ⟨rfl, fun _ => by go_simp; rfl⟩) ?_
      try simp only [Act.put, List.setIfInBounds_toArray, List.set_cons_succ, List.set_cons_zero]
      refine order_held (i := 8) rfl (by kernel_rfl) (fun _ _ _ h => h) (.inl ⟨rfl, fun W hW => by
        have q0 : W.cell? ⟨g, i, none⟩ = some (.int .u32 x) := hW.cell id HP.out.1
        go_simp; rfl⟩) HS ?_
      try simp only [Act.put, List.setIfInBounds_toArray, List.set_cons_succ, List.set_cons_zero]
      refine order_pure (i := 9) rfl (by kernel_rfl) (fun _ _ _ h => h) (.inl ⟨rfl, fun _ => by go_simp; rfl⟩) ?_
      try simp only [Act.put, List.setIfInBounds_toArray, List.set_cons_succ, List.set_cons_zero]
      refine order_pure (i := 10) rfl (by kernel_rfl) (fun _ _ _ h => h) (.inl ⟨rfl, fun _ => by go_simp; rfl⟩) ?_
      try simp only [Act.put, List.setIfInBounds_toArray, List.set_cons_succ, List.set_cons_zero]
      refine order_pure (i := 11) rfl (by kernel_rfl) (fun _ _ _ h => h) (.inl ⟨rfl, fun _ => by go_simp; rfl⟩) ?_
      try simp only [Act.put, List.setIfInBounds_toArray, List.set_cons_succ, List.set_cons_zero]
      refine order_held (i := 12) rfl (by kernel_rfl) (fun _ _ _ h => h) (.inl ⟨rfl, fun W hW => by
        have q0 : W.cell? ⟨b, o + i, none⟩ = some (.int .u32 x) := hW.cell id HP.out.2
        go_simp; rfl⟩) HS ?_
      try simp only [Act.put, List.setIfInBounds_toArray, List.set_cons_succ, List.set_cons_zero]
      refine order_pure (i := 13) rfl (by kernel_rfl) (fun _ _ _ h => h) (.inl ⟨rfl, fun _ => by go_simp; rfl⟩) ?_
      try simp only [Act.put, List.setIfInBounds_toArray, List.set_cons_succ, List.set_cons_zero]
      refine order_pure (i := 14) rfl (by kernel_rfl) (fun _ _ _ h => h) (.inl ⟨rfl, fun _ => by go_simp; rfl⟩) ?_
      try simp only [Act.put, List.setIfInBounds_toArray, List.set_cons_succ, List.set_cons_zero]
      refine order_pure (i := 15) rfl (by kernel_rfl) (fun _ _ _ h => h) (.inl ⟨rfl, fun _ => by go_simp; rfl⟩) ?_
      try simp only [Act.put, List.setIfInBounds_toArray, List.set_cons_succ, List.set_cons_zero]
      refine order_pure (i := 16) rfl (by kernel_rfl) (fun _ _ _ h => h) (.inl ⟨rfl, fun _ => by go_simp; rfl⟩) ?_
      try simp only [Act.put, List.setIfInBounds_toArray, List.set_cons_succ, List.set_cons_zero]
      refine order_pure (i := 17) rfl (by kernel_rfl) (fun _ _ _ h => h) (.inl ⟨rfl, fun _ => by go_simp; rfl⟩) ?_
      try simp only [Act.put, List.setIfInBounds_toArray, List.set_cons_succ, List.set_cons_zero]
      refine order_pure (i := 18) rfl (by kernel_rfl) (fun _ _ _ h => h) (.inl ⟨rfl, fun _ => by go_simp; rfl⟩) ?_
      try simp only [Act.put, List.setIfInBounds_toArray, List.set_cons_succ, List.set_cons_zero]
      refine order_pure (i := 19) rfl (by kernel_rfl) (fun _ _ _ h => h) (.inl ⟨rfl, fun _ => by go_simp; rfl⟩) ?_
      try simp only [Act.put, List.setIfInBounds_toArray, List.set_cons_succ, List.set_cons_zero]
      refine order_pure (i := 20) rfl (by kernel_rfl) (fun _ _ _ h => h) (.inl ⟨rfl, fun _ => by go_simp; rfl⟩) ?_
      try simp only [Act.put, List.setIfInBounds_toArray, List.set_cons_succ, List.set_cons_zero]
      refine order_pure (i := 21) rfl (by kernel_rfl) (fun _ _ _ h => h) (.inl ⟨rfl, fun _ => by go_simp; rfl⟩) ?_
      try simp only [Act.put, List.setIfInBounds_toArray, List.set_cons_succ, List.set_cons_zero]
      refine order_skip (i := 22) rfl (by kernel_rfl) (fun _ _ _ h => h) (by kernel_rfl) ?_
      try simp only [Act.put, List.setIfInBounds_toArray, List.set_cons_succ, List.set_cons_zero]
      refine order_skip (i := 23) rfl (by kernel_rfl) (fun _ _ _ h => h) (by kernel_rfl) ?_
      try simp only [Act.put, List.setIfInBounds_toArray, List.set_cons_succ, List.set_cons_zero]
      refine order_skip (i := 24) rfl (by kernel_rfl) (fun _ _ _ h => h) (by kernel_rfl) ?_
      try simp only [Act.put, List.setIfInBounds_toArray, List.set_cons_succ, List.set_cons_zero]
      refine order_skip (i := 25) rfl (by kernel_rfl) (fun _ _ _ h => h) (by kernel_rfl) ?_
      try simp only [Act.put, List.setIfInBounds_toArray, List.set_cons_succ, List.set_cons_zero]
      refine order_skip (i := 26) rfl (by kernel_rfl) (fun _ _ _ h => h) (by kernel_rfl) ?_
      try simp only [Act.put, List.setIfInBounds_toArray, List.set_cons_succ, List.set_cons_zero]
      refine order_skip (i := 27) rfl (by kernel_rfl) (fun _ _ _ h => h) (by kernel_rfl) ?_
      try simp only [Act.put, List.setIfInBounds_toArray, List.set_cons_succ, List.set_cons_zero]
      refine order_skip (i := 28) rfl (by kernel_rfl) (fun _ _ _ h => h) (by kernel_rfl) ?_
      try simp only [Act.put, List.setIfInBounds_toArray, List.set_cons_succ, List.set_cons_zero]
      refine order_skip (i := 29) rfl (by kernel_rfl) (fun _ _ _ h => h) (by kernel_rfl) ?_
      try simp only [Act.put, List.setIfInBounds_toArray, List.set_cons_succ, List.set_cons_zero]
      refine order_skip (i := 30) rfl (by kernel_rfl) (fun _ _ _ h => h) (by kernel_rfl) ?_
      try simp only [Act.put, List.setIfInBounds_toArray, List.set_cons_succ, List.set_cons_zero]
      refine order_skip (i := 31) rfl (by kernel_rfl) (fun _ _ _ h => h) (by kernel_rfl) ?_
      try simp only [Act.put, List.setIfInBounds_toArray, List.set_cons_succ, List.set_cons_zero]
      refine order_skip (i := 32) rfl (by kernel_rfl) (fun _ _ _ h => h) (by kernel_rfl) ?_
      try simp only [Act.put, List.setIfInBounds_toArray, List.set_cons_succ, List.set_cons_zero]
      refine order_skip (i := 33) rfl (by kernel_rfl) (fun _ _ _ h => h) (by kernel_rfl) ?_
      try simp only [Act.put, List.setIfInBounds_toArray, List.set_cons_succ, List.set_cons_zero]
      refine order_pure (i := 34) rfl (by kernel_rfl) (fun _ _ _ h => h) (.inl ⟨rfl, fun _ => by go_simp; rfl⟩) ?_
      try simp only [Act.put, List.setIfInBounds_toArray, List.set_cons_succ, List.set_cons_zero]
      refine order_pure (i := 35) rfl (by kernel_rfl) (fun _ _ _ h => h) (.inl ⟨rfl, fun _ => by go_simp; rfl⟩) ?_
      try simp only [Act.put, List.setIfInBounds_toArray, List.set_cons_succ, List.set_cons_zero]
      refine order_done (by kernel_rfl) ?_
      go_wp2_with fail
      go_roundg (n + 12 - (i + 1))
      case measure => omega
      case rel => exact ⟨i + 1, by omega, rfl, by go_num, HS⟩
    · by_cases hin2 : i < n + 12
      · obtain ⟨k, rfl⟩ : ∃ k, i = n + k := ⟨i - n, by omega⟩
        have hk12 : k < 12 := by omega
        have hiz : ¬ n + k < n := by omega
        have hiz2 : ((n + k : Nat) : Int) < (n : Int) + 12 := by omega
        have hiz3 : n ≤ n + k := by omega
        have hsub : IntKind.i64.wrap (((n + k : Nat) : Int) - n) = (k : Int) := by rw [IntWalk.i64_in _ (by omega)]; omega
        have p1 := (slab_cell HS0.out (j := n + k) (u := .int .u32 (IntKind.u32.wrap (markV 1 (k : Int)))) (by rw [List.getElem?_append_right (by simp [HL.out])]; simp only [List.length_map, HL.out, Nat.add_sub_cancel_left]; exact marksL_at hk12)).1
        have HP := hide p1
        clear p1
        generalize hm : n + k = m at *
        have HM := hide hm
        go_wp2_with fail
        refine order_begin (fun W => Keeps NoB w W) (fun _ => true) (by kernel_rfl) 36 rfl ?_
        have HS : Keeps NoB w wr.drew := HKW.out.drew
        generalize wr.drew = W0 at *
        refine order_pure (i := 0) rfl (by kernel_rfl) (fun _ _ _ h => h) (.inl ⟨rfl, fun _ => by go_simp; rfl⟩) ?_
        try simp only [Act.put, List.setIfInBounds_toArray, List.set_cons_succ, List.set_cons_zero]
        refine order_pure (i := 1) rfl (by kernel_rfl) (fun _ _ _ h => h) (.inl ⟨rfl, fun _ => by go_simp; rfl⟩) ?_
        try simp only [Act.put, List.setIfInBounds_toArray, List.set_cons_succ, List.set_cons_zero]
        refine order_pure (i := 2) rfl (by kernel_rfl) (fun _ _ _ h => h) (.inl ⟨rfl, fun _ => by go_simp; rfl⟩) ?_
        try simp only [Act.put, List.setIfInBounds_toArray, List.set_cons_succ, List.set_cons_zero]
        refine order_pure (i := 3) rfl (by kernel_rfl) (fun _ _ _ h => h) (.inl ⟨rfl, fun _ => by go_simp; rfl⟩) ?_
        try simp only [Act.put, List.setIfInBounds_toArray, List.set_cons_succ, List.set_cons_zero]
        refine order_pure (i := 4) rfl (by kernel_rfl) (fun _ _ _ h => h) (.inl ⟨rfl, fun _ => by go_simp; rfl⟩) ?_
        try simp only [Act.put, List.setIfInBounds_toArray, List.set_cons_succ, List.set_cons_zero]
        refine order_skip (i := 5) rfl (by kernel_rfl) (fun _ _ _ h => h) (by kernel_rfl) ?_
        try simp only [Act.put, List.setIfInBounds_toArray, List.set_cons_succ, List.set_cons_zero]
        refine order_skip (i := 6) rfl (by kernel_rfl) (fun _ _ _ h => h) (by kernel_rfl) ?_
        try simp only [Act.put, List.setIfInBounds_toArray, List.set_cons_succ, List.set_cons_zero]
        refine order_skip (i := 7) rfl (by kernel_rfl) (fun _ _ _ h => h) (by kernel_rfl) ?_
        try simp only [Act.put, List.setIfInBounds_toArray, List.set_cons_succ, List.set_cons_zero]
        refine order_skip (i := 8) rfl (by kernel_rfl) (fun _ _ _ h => h) (by kernel_rfl) ?_
        try simp only [Act.put, List.setIfInBounds_toArray, List.set_cons_succ, List.set_cons_zero]
        refine order_skip (i := 9) rfl (by kernel_rfl) (fun _ _ _ h => h) (by kernel_rfl) ?_
        try simp only [Act.put, List.setIfInBounds_toArray, List.set_cons_succ, List.set_cons_zero]
        refine order_skip (i := 10) rfl (by kernel_rfl) (fun _ _ _ h => h) (by kernel_rfl) ?_
        try simp only [Act.put, List.setIfInBounds_toArray, List.set_cons_succ, List.set_cons_zero]
        refine order_skip (i := 11) rfl (by kernel_rfl) (fun _ _ _ h => h) (by kernel_rfl) ?_
        try simp only [Act.put, List.setIfInBounds_toArray, List.set_cons_succ, List.set_cons_zero]
        refine order_skip (i := 12) rfl (by kernel_rfl) (fun _ _ _ h => h) (by kernel_rfl) ?_
        try simp only [Act.put, List.setIfInBounds_toArray, List.set_cons_succ, List.set_cons_zero]
        refine order_skip (i := 13) rfl (by kernel_rfl) (fun _ _ _ h => h) (by kernel_rfl) ?_
        try simp only [Act.put, List.setIfInBounds_toArray, List.set_cons_succ, List.set_cons_zero]
        refine order_skip (i := 14) rfl (by kernel_rfl) (fun _ _ _ h => h) (by kernel_rfl) ?_
        try simp only [Act.put, List.setIfInBounds_toArray, List.set_cons_succ, List.set_cons_zero]
        refine order_pure (i := 15) rfl (by kernel_rfl) (fun _ _ _ h => h) (.inl ⟨rfl, fun _ => by go_simp; rfl⟩) ?_
        try simp only [Act.put, List.setIfInBounds_toArray, List.set_cons_succ, List.set_cons_zero]
        refine order_pure (i := 16) rfl (by kernel_rfl) (fun _ _ _ h => h) (.inl ⟨rfl, fun _ => by go_simp; rfl⟩) ?_
        try simp only [Act.put, List.setIfInBounds_toArray, List.set_cons_succ, List.set_cons_zero]
        refine order_pure (i := 17) rfl (by kernel_rfl) (fun _ _ _ h => h) (.inl ⟨rfl, fun _ => by go_simp; rfl⟩) ?_
        try simp only [Act.put, List.setIfInBounds_toArray, List.set_cons_succ, List.set_cons_zero]
        refine order_pure (i := 18) rfl (by kernel_rfl) (fun _ _ _ h => h) (.inl ⟨rfl, fun _ => by go_simp; rfl⟩) ?_
        try simp only [Act.put, List.setIfInBounds_toArray, List.set_cons_succ, List.set_cons_zero]
        refine order_pure (i := 19) rfl (by kernel_rfl) (fun _ _ _ h => h) (.inl ⟨rfl, fun _ => by go_simp; rfl⟩) ?_
        try simp only [Act.put, List.setIfInBounds_toArray, List.set_cons_succ, List.set_cons_zero]
        refine order_pure (i := 20) rfl (by kernel_rfl) (fun _ _ _ h => h) (.inl ⟨rfl, fun _ => by go_simp; rfl⟩) ?_
        try simp only [Act.put, List.setIfInBounds_toArray, List.set_cons_succ, List.set_cons_zero]
        refine order_pure (i := 21) rfl (by kernel_rfl) (fun _ _ _ h => h) (.inl ⟨rfl, fun _ => by go_simp; rfl⟩) ?_
        try simp only [Act.put, List.setIfInBounds_toArray, List.set_cons_succ, List.set_cons_zero]
        refine order_pure (i := 22) rfl (by kernel_rfl) (fun _ _ _ h => h) (.inl ⟨rfl, fun _ => by go_simp; rfl⟩) ?_
        try simp only [Act.put, List.setIfInBounds_toArray, List.set_cons_succ, List.set_cons_zero]
        refine order_pure (i := 23) rfl (by kernel_rfl) (fun _ _ _ h => h) (.inl ⟨rfl, fun _ => by go_simp; rfl⟩) ?_
        try simp only [Act.put, List.setIfInBounds_toArray, List.set_cons_succ, List.set_cons_zero]
        refine order_pure (i := 24) rfl (by kernel_rfl) (fun _ _ _ h => h) (.inl ⟨rfl, fun _ => by go_simp; rfl⟩) ?_
        try simp only [Act.put, List.setIfInBounds_toArray, List.set_cons_succ, List.set_cons_zero]
        refine order_held (i := 25) rfl (by kernel_rfl) (fun _ _ _ h => h) (.inl ⟨rfl, fun W hW => by
          have q0 : W.cell? ⟨g, m, none⟩ = some (.int .u32 (IntKind.u32.wrap (markV 1 (k : Int)))) := hW.cell id HP.out
          go_simp; rfl⟩) HS ?_
        try simp only [Act.put, List.setIfInBounds_toArray, List.set_cons_succ, List.set_cons_zero]
        refine order_pure (i := 26) rfl (by kernel_rfl) (fun _ _ _ h => h) (.inl ⟨rfl, fun _ => by go_simp; rfl⟩) ?_
        try simp only [Act.put, List.setIfInBounds_toArray, List.set_cons_succ, List.set_cons_zero]
        refine order_pure (i := 27) rfl (by kernel_rfl) (fun _ _ _ h => h) (.inl ⟨rfl, fun _ => by go_simp; rfl⟩) ?_
        try simp only [Act.put, List.setIfInBounds_toArray, List.set_cons_succ, List.set_cons_zero]
        refine order_pure (i := 28) rfl (by kernel_rfl) (fun _ _ _ h => h) (.inl ⟨rfl, fun _ => by go_simp; rfl⟩) ?_
        try simp only [Act.put, List.setIfInBounds_toArray, List.set_cons_succ, List.set_cons_zero]
        refine order_pure (i := 29) rfl (by kernel_rfl) (fun _ _ _ h => h) (.inl ⟨rfl, fun _ => by go_simp; rfl⟩) ?_
        try simp only [Act.put, List.setIfInBounds_toArray, List.set_cons_succ, List.set_cons_zero]
        refine order_one (i := 30) rfl (by kernel_rfl) (fun K hK => ?_)
        go_simp
        refine (mark_any 1 k (by omega) (by omega) (by omega) (by omega) _).mono ?_
        rintro e w' ⟨rfl, rfl⟩
        refine hK _ _ (fun _ h => h) ?_
        clear hK
        try simp only [Act.put, List.setIfInBounds_toArray, List.set_cons_succ, List.set_cons_zero]
        have hxx : (IntKind.u32.wrap (markV 1 (k : Int)) == IntKind.u32.wrap (markV 1 (k : Int))) = true := by simp
        refine order_pure (i := 31) rfl (by kernel_rfl) (fun _ _ _ h => h) (.inl ⟨rfl, fun _ => by go_simp; rfl⟩) ?_
        try simp only [Act.put, List.setIfInBounds_toArray, List.set_cons_succ, List.set_cons_zero]
        refine order_pure (i := 32) rfl (by kernel_rfl) (fun _ _ _ h => h) (.inl ⟨rfl, fun _ => by go_simp; rfl⟩) ?_
        try simp only [Act.put, List.setIfInBounds_toArray, List.set_cons_succ, List.set_cons_zero]
        refine order_pure (i := 33) rfl (by kernel_rfl) (fun _ _ _ h => h) (.inl ⟨rfl, fun _ => by go_simp; rfl⟩) ?_
        try simp only [Act.put, List.setIfInBounds_toArray, List.set_cons_succ, List.set_cons_zero]
        refine order_pure (i := 34) rfl (by kernel_rfl) (fun _ _ _ h => h) (.inl ⟨rfl, fun _ => by go_simp; rfl⟩) ?_
        try simp only [Act.put, List.setIfInBounds_toArray, List.set_cons_succ, List.set_cons_zero]
        refine order_pure (i := 35) rfl (by kernel_rfl) (fun _ _ _ h => h) (.inl ⟨rfl, fun _ => by go_simp; rfl⟩) ?_
        try simp only [Act.put, List.setIfInBounds_toArray, List.set_cons_succ, List.set_cons_zero]
        refine order_done (by kernel_rfl) ?_
        go_wp2_with fail
        go_roundg (n + 12 - (m + 1))
        case measure => omega
        case rel => exact ⟨m + 1, by omega, rfl, by go_num, HS⟩
      · obtain rfl : i = n + 12 := by omega
        have hiz2 : ¬ ((n + 12 : Nat) : Int) < (n : Int) + 12 := by omega
        go_wp2_with fail
        go_ret
        exact ⟨rfl, HKW.out⟩
end Go.Proofs.Ytmkidkfofbnjgaa
namespace Go.Proofs.Ytmkidkfofbnjgaa
open Go.RowKit


/-- The k-th of lent terms. -/
theorem LsIn.at {w : World} : ∀ {ts : List Tm} {css : List (List Value)} {lo hi k : Nat} {t : Tm}, LsIn w lo hi css ts → ts[k]? = some t → ∃ kd ng la ln lc tx nm ia im ic ta tn tc lo' hi', css[k]? = some [.int .u8 kd, .bool ng, .slice la ln lc, .string tx, .int .i64 nm, .slice ia im ic, .slice ta tn tc] ∧ lo ≤ lo' ∧ hi' ≤ hi ∧ LIn w lo' hi' [.int .u8 kd, .bool ng, .slice la ln lc, .string tx, .int .i64 nm, .slice ia im ic, .slice ta tn tc] t ∧ t.size ≤ Tm.size.sizes ts
  | [], _, _, _, _, _, _, h => by simp at h
  | u :: ts, [], _, _, _, _, h, _ => by unfold LsIn at h; exact h.elim
  | u :: ts, cs :: css, lo, hi, 0, t, h, ht => by
    obtain rfl : u = t := by simpa using ht
    unfold LsIn at h
    obtain ⟨m, h1, h2⟩ := h
    have hm := LsIn.le h2
    have h3 := LIn.term (B := fun _ => True) h1 (fun _ _ _ => trivial)
    obtain ⟨kd, ng, la, ln, lc, tx, nm, ia, im, ic, ta, tn, tc, rfl, _⟩ := h3.cells
    exact ⟨kd, ng, la, ln, lc, tx, nm, ia, im, ic, ta, tn, tc, lo, m, rfl, Nat.le_refl _, hm, h1, by simp only [Tm.size.sizes]; omega⟩
  | u :: ts, cs :: css, lo, hi, k + 1, t, h, ht => by
    unfold LsIn at h
    obtain ⟨m, h1, h2⟩ := h
    have hm := LIn.le h1
    obtain ⟨kd, ng, la, ln, lc, tx, nm, ia, im, ic, ta, tn, tc, lo', hi', a1, a2, a3, a4, a5⟩ := LsIn.at h2 (by simpa using ht)
    exact ⟨kd, ng, la, ln, lc, tx, nm, ia, im, ic, ta, tn, tc, lo', hi', by simpa using a1, by omega, a3, a4, by simp only [Tm.size.sizes]; omega⟩

def At7 (w : World) (g m : Nat) (v0 v1 v2 v3 v4 v5 v6 : Value) : Prop :=
  w.cell? ⟨g, m * 7, none⟩ = some v0 ∧ w.cell? ⟨g, m * 7 + 1, none⟩ = some v1 ∧ w.cell? ⟨g, m * 7 + 2, none⟩ = some v2 ∧ w.cell? ⟨g, m * 7 + 3, none⟩ = some v3 ∧ w.cell? ⟨g, m * 7 + 4, none⟩ = some v4 ∧ w.cell? ⟨g, m * 7 + 5, none⟩ = some v5 ∧ w.cell? ⟨g, m * 7 + 6, none⟩ = some v6

theorem lent_at {w : World} {g n c k : Nat} {css : List (List Value)} {zs : List Value} {v0 v1 v2 v3 v4 v5 v6 : Value} (hs : Slab w 33 7 (some ⟨g, 0, none⟩) n c (css.flatten ++ zs)) (h7 : ∀ c ∈ css, c.length = 7) (h : css[k]? = some [v0, v1, v2, v3, v4, v5, v6]) : At7 w g k v0 v1 v2 v3 v4 v5 v6 := by
  obtain ⟨g0, g1, g2, g3, g4, g5, g6⟩ := flat_cells h7 h
  have q : ∀ (j : Nat) (u : Value), css.flatten[j]? = some u → w.cell? ⟨g, j, none⟩ = some u := fun j u hu =>
    (slab_cell hs (by rw [List.getElem?_append_left (List.getElem?_eq_some_iff.1 hu).1]; exact hu)).1
  exact ⟨q _ _ g0, q _ _ g1, q _ _ g2, q _ _ g3, q _ _ g4, q _ _ g5, q _ _ g6⟩
theorem marksC_at {m k : Nat} (hk : k < m) (j : Nat) (hj : j < 7) : (marksC m)[k * 7 + j]? = (markC 1 (k : Int))[j]? := by
  induction m with
  | zero => omega
  | succ m ih =>
    rw [marksC_succ]
    by_cases e : k = m
    · subst e
      rw [List.getElem?_append_right (by rw [marksC_len]; omega), marksC_len]
      congr 1; omega
    · rw [List.getElem?_append_left (by rw [marksC_len]; omega)]
      exact ih (by omega)
theorem mark_at {w : World} {g n c k m : Nat} {css : List (List Value)} (hs : Slab w 33 7 (some ⟨g, 0, none⟩) (n + 12) c (css.flatten ++ marksC 12)) (h7 : ∀ c ∈ css, c.length = 7) (hl : css.length = n) (hk : k < 12) (hm : n + k = m) : At7 w g m (.int .u8 0) (.bool false) (.slice none 0 0) (.string { data := #[] }) (.int .i64 (markV 1 k)) (.slice none 0 0) (.slice none 0 0) := by
  subst hm
  have q : ∀ (j : Nat) (u : Value), j < 7 → (markC 1 (k : Int))[j]? = some u → w.cell? ⟨g, (n + k) * 7 + j, none⟩ = some u := fun j u hj hu =>
    (slab_cell hs (by rw [List.getElem?_append_right (by rw [flat_len h7, hl]; omega), flat_len h7, hl, show (n + k) * 7 + j - n * 7 = k * 7 + j from by omega, marksC_at hk j hj]; exact hu)).1
  exact ⟨by have := q 0 _ (by omega) rfl; simpa using this, q 1 _ (by omega) rfl, q 2 _ (by omega) rfl, q 3 _ (by omega) rfl, q 4 _ (by omega) rfl, q 5 _ (by omega) rfl, q 6 _ (by omega) rfl⟩

def TrueK (w : World) (e : Ending) (w' : World) : Prop := e = .returned (.bool true) ∧ Keeps NoB w w'
def KeptSaid (M : Nat) : Prop := ∀ (ts : List Tm), Tm.size.sizes ts ≤ M → ∀ (g n c : Nat) (A : Option Addr) (css dss : List (List Value)) (lo hi : Nat) (w : World) (B : Nat → Prop) (F : Bool), n ≤ 3000 →
  Slab w 33 7 (some ⟨g, 0, none⟩) (n + 12) (n + 12) (css.flatten ++ marksC 12) → css.length = n → LsIn w lo hi css ts → Reads w B F 7 A n dss.flatten → TermsIn w B F dss ts →
  Calls Try.prog 48 #[.slice (some ⟨g, 0, none⟩) n (n + 12), .slice A n c] w (TrueK w)

set_option maxRecDepth 100000 in
set_option maxHeartbeats 1000000 in
theorem keptTerm_of (M : Nat) (IH : Hid (KeptSaid M)) (t : Tm) (hM : t.size ≤ M + 1) (w : World) (lo hi : Nat) (B : Nat → Prop) (F : Bool) (kd nm : Int) (ng : Bool) (la ia ta : Option Addr) (ln lc im ic tn tc : Nat) (tx : ByteArray) (kd' nm' : Int) (ng' : Bool) (la' ia' ta' : Option Addr) (ln' lc' im' ic' tn' tc' : Nat) (tx' : ByteArray)
    (hl : LIn w lo hi [.int .u8 kd, .bool ng, .slice la ln lc, .string tx, .int .i64 nm, .slice ia im ic, .slice ta tn tc] t) (ht : TermIn w B F [.int .u8 kd', .bool ng', .slice la' ln' lc', .string tx', .int .i64 nm', .slice ia' im' ic', .slice ta' tn' tc'] t) : Calls Try.prog 37 #[.agg #[.int .u8 kd, .bool ng, .slice la ln lc, .string tx, .int .i64 nm, .slice ia im ic, .slice ta tn tc], .agg #[.int .u8 kd', .bool ng', .slice la' ln' lc', .string tx', .int .i64 nm', .slice ia' im' ic', .slice ta' tn' tc']] w (TrueK w) := by
  have HLT := hide (LIn.term (B := fun _ => True) hl (fun _ _ _ => trivial))
  have HTT := hide ht
  obtain ⟨limbs, items, tail, css, dss, rfl, h1, l1, h2, l2, h3, h4, l3, h5⟩ := term_open ht
  have hsz : Tm.size.sizes items ≤ M ∧ Tm.size.sizes tail ≤ M := by simp only [Tm.size] at hM; omega
  unfold LIn at hl
  obtain ⟨xla, xln, xlc, g, xim, xic, g', xtn, xtc, ess, fss, m1, m2, e, ⟨s1, s2, s3⟩, ⟨g0, e0, a1, a2, a3, a4, a5⟩, ⟨b1, b2, b3, b4, b5⟩, ⟨c1, c2, c3, c4, c5⟩⟩ := hl
  simp only [List.cons.injEq, Value.int.injEq, Value.bool.injEq, Value.slice.injEq, Value.string.injEq, true_and, and_true] at e
  obtain ⟨-, -, ⟨rfl, rfl, rfl⟩, -, -, ⟨rfl, rfl, rfl⟩, rfl, rfl, rfl⟩ := e
  subst e0 a3 b2 c2
  obtain rfl : ln = ln' := a4.symm.trans l1
  obtain rfl : im = im' := by rw [← b3, ← l2]; exact (LsIn.lens b5).1
  obtain rfl : tn = tn' := by rw [← c3, ← l3]; exact (LsIn.lens c5).1
  have HL := hide (And.intro h1 (And.intro h2 (And.intro h3 (And.intro h4 h5))))
  have HG := hide (And.intro a5 (And.intro b4 (And.intro b5 (And.intro c4 c5))))
  have HSZ := hide hsz; have HLN := hide a4; have HIM := hide b3; have HTN := hide c3
  clear h1 h2 h3 h4 h5 a5 b4 b5 c4 c5 hsz hM a4 b3 c3 l1 l2 l3 ht
  have HB1 := hide ((Blk.new w 33 #[.int .u8 kd, .bool ng, .slice (some ⟨g0, 0, none⟩) ln (ln + 12), .string tx, .int .i64 nm, .slice (some ⟨g, 0, none⟩) im (im + 12), .slice (some ⟨g', 0, none⟩) tn (tn + 12)]).alloc (.cells #[.int .u8 kd', .bool ng', .slice la' ln lc', .string tx', .int .i64 nm', .slice ia' im ic', .slice ta' tn tc'] 33))
  have hb2 := Blk.new (w.alloc (.cells #[.int .u8 kd, .bool ng, .slice (some ⟨g0, 0, none⟩) ln (ln + 12), .string tx, .int .i64 nm, .slice (some ⟨g, 0, none⟩) im (im + 12), .slice (some ⟨g', 0, none⟩) tn (tn + 12)] 33)) 33 #[.int .u8 kd', .bool ng', .slice la' ln lc', .string tx', .int .i64 nm', .slice ia' im ic', .slice ta' tn tc']
  have HB2 := hide (show Blk ((w.alloc (.cells #[.int .u8 kd, .bool ng, .slice (some ⟨g0, 0, none⟩) ln (ln + 12), .string tx, .int .i64 nm, .slice (some ⟨g, 0, none⟩) im (im + 12), .slice (some ⟨g', 0, none⟩) tn (tn + 12)] 33)).alloc (.cells #[.int .u8 kd', .bool ng', .slice la' ln lc', .string tx', .int .i64 nm', .slice ia' im ic', .slice ta' tn tc'] 33)) (w.heap.size + 1) 33 #[.int .u8 kd', .bool ng', .slice la' ln lc', .string tx', .int .i64 nm', .slice ia' im ic', .slice ta' tn tc'] from by simpa using hb2)
  have HK0 := hide (((Keeps.refl NoB w).alloc (.cells #[.int .u8 kd, .bool ng, .slice (some ⟨g0, 0, none⟩) ln (ln + 12), .string tx, .int .i64 nm, .slice (some ⟨g, 0, none⟩) im (im + 12), .slice (some ⟨g', 0, none⟩) tn (tn + 12)] 33)).alloc (.cells #[.int .u8 kd', .bool ng', .slice la' ln lc', .string tx', .int .i64 nm', .slice ia' im ic', .slice ta' tn tc'] 33))
  clear hb2
  have x0 : ((w.alloc (.cells #[.int .u8 kd, .bool ng, .slice (some ⟨g0, 0, none⟩) ln (ln + 12), .string tx, .int .i64 nm, .slice (some ⟨g, 0, none⟩) im (im + 12), .slice (some ⟨g', 0, none⟩) tn (tn + 12)] 33)).alloc (.cells #[.int .u8 kd', .bool ng', .slice la' ln lc', .string tx', .int .i64 nm', .slice ia' im ic', .slice ta' tn tc'] 33)).cell? ⟨w.heap.size, 0, none⟩ = some (.int .u8 kd) := HB1.out.cell 0
  have x1 : ((w.alloc (.cells #[.int .u8 kd, .bool ng, .slice (some ⟨g0, 0, none⟩) ln (ln + 12), .string tx, .int .i64 nm, .slice (some ⟨g, 0, none⟩) im (im + 12), .slice (some ⟨g', 0, none⟩) tn (tn + 12)] 33)).alloc (.cells #[.int .u8 kd', .bool ng', .slice la' ln lc', .string tx', .int .i64 nm', .slice ia' im ic', .slice ta' tn tc'] 33)).cell? ⟨w.heap.size, 1, none⟩ = some (.bool ng) := HB1.out.cell 1
  have x2 : ((w.alloc (.cells #[.int .u8 kd, .bool ng, .slice (some ⟨g0, 0, none⟩) ln (ln + 12), .string tx, .int .i64 nm, .slice (some ⟨g, 0, none⟩) im (im + 12), .slice (some ⟨g', 0, none⟩) tn (tn + 12)] 33)).alloc (.cells #[.int .u8 kd', .bool ng', .slice la' ln lc', .string tx', .int .i64 nm', .slice ia' im ic', .slice ta' tn tc'] 33)).cell? ⟨w.heap.size, 2, none⟩ = some (.slice (some ⟨g0, 0, none⟩) ln (ln + 12)) := HB1.out.cell 2
  have x3 : ((w.alloc (.cells #[.int .u8 kd, .bool ng, .slice (some ⟨g0, 0, none⟩) ln (ln + 12), .string tx, .int .i64 nm, .slice (some ⟨g, 0, none⟩) im (im + 12), .slice (some ⟨g', 0, none⟩) tn (tn + 12)] 33)).alloc (.cells #[.int .u8 kd', .bool ng', .slice la' ln lc', .string tx', .int .i64 nm', .slice ia' im ic', .slice ta' tn tc'] 33)).cell? ⟨w.heap.size, 3, none⟩ = some (.string tx) := HB1.out.cell 3
  have x4 : ((w.alloc (.cells #[.int .u8 kd, .bool ng, .slice (some ⟨g0, 0, none⟩) ln (ln + 12), .string tx, .int .i64 nm, .slice (some ⟨g, 0, none⟩) im (im + 12), .slice (some ⟨g', 0, none⟩) tn (tn + 12)] 33)).alloc (.cells #[.int .u8 kd', .bool ng', .slice la' ln lc', .string tx', .int .i64 nm', .slice ia' im ic', .slice ta' tn tc'] 33)).cell? ⟨w.heap.size, 4, none⟩ = some (.int .i64 nm) := HB1.out.cell 4
  have x5 : ((w.alloc (.cells #[.int .u8 kd, .bool ng, .slice (some ⟨g0, 0, none⟩) ln (ln + 12), .string tx, .int .i64 nm, .slice (some ⟨g, 0, none⟩) im (im + 12), .slice (some ⟨g', 0, none⟩) tn (tn + 12)] 33)).alloc (.cells #[.int .u8 kd', .bool ng', .slice la' ln lc', .string tx', .int .i64 nm', .slice ia' im ic', .slice ta' tn tc'] 33)).cell? ⟨w.heap.size, 5, none⟩ = some (.slice (some ⟨g, 0, none⟩) im (im + 12)) := HB1.out.cell 5
  have x6 : ((w.alloc (.cells #[.int .u8 kd, .bool ng, .slice (some ⟨g0, 0, none⟩) ln (ln + 12), .string tx, .int .i64 nm, .slice (some ⟨g, 0, none⟩) im (im + 12), .slice (some ⟨g', 0, none⟩) tn (tn + 12)] 33)).alloc (.cells #[.int .u8 kd', .bool ng', .slice la' ln lc', .string tx', .int .i64 nm', .slice ia' im ic', .slice ta' tn tc'] 33)).cell? ⟨w.heap.size, 6, none⟩ = some (.slice (some ⟨g', 0, none⟩) tn (tn + 12)) := HB1.out.cell 6
  have y0 : ((w.alloc (.cells #[.int .u8 kd, .bool ng, .slice (some ⟨g0, 0, none⟩) ln (ln + 12), .string tx, .int .i64 nm, .slice (some ⟨g, 0, none⟩) im (im + 12), .slice (some ⟨g', 0, none⟩) tn (tn + 12)] 33)).alloc (.cells #[.int .u8 kd', .bool ng', .slice la' ln lc', .string tx', .int .i64 nm', .slice ia' im ic', .slice ta' tn tc'] 33)).cell? ⟨w.heap.size + 1, 0, none⟩ = some (.int .u8 kd') := HB2.out.cell 0
  have y1 : ((w.alloc (.cells #[.int .u8 kd, .bool ng, .slice (some ⟨g0, 0, none⟩) ln (ln + 12), .string tx, .int .i64 nm, .slice (some ⟨g, 0, none⟩) im (im + 12), .slice (some ⟨g', 0, none⟩) tn (tn + 12)] 33)).alloc (.cells #[.int .u8 kd', .bool ng', .slice la' ln lc', .string tx', .int .i64 nm', .slice ia' im ic', .slice ta' tn tc'] 33)).cell? ⟨w.heap.size + 1, 1, none⟩ = some (.bool ng') := HB2.out.cell 1
  have y2 : ((w.alloc (.cells #[.int .u8 kd, .bool ng, .slice (some ⟨g0, 0, none⟩) ln (ln + 12), .string tx, .int .i64 nm, .slice (some ⟨g, 0, none⟩) im (im + 12), .slice (some ⟨g', 0, none⟩) tn (tn + 12)] 33)).alloc (.cells #[.int .u8 kd', .bool ng', .slice la' ln lc', .string tx', .int .i64 nm', .slice ia' im ic', .slice ta' tn tc'] 33)).cell? ⟨w.heap.size + 1, 2, none⟩ = some (.slice la' ln lc') := HB2.out.cell 2
  have y3 : ((w.alloc (.cells #[.int .u8 kd, .bool ng, .slice (some ⟨g0, 0, none⟩) ln (ln + 12), .string tx, .int .i64 nm, .slice (some ⟨g, 0, none⟩) im (im + 12), .slice (some ⟨g', 0, none⟩) tn (tn + 12)] 33)).alloc (.cells #[.int .u8 kd', .bool ng', .slice la' ln lc', .string tx', .int .i64 nm', .slice ia' im ic', .slice ta' tn tc'] 33)).cell? ⟨w.heap.size + 1, 3, none⟩ = some (.string tx') := HB2.out.cell 3
  have y4 : ((w.alloc (.cells #[.int .u8 kd, .bool ng, .slice (some ⟨g0, 0, none⟩) ln (ln + 12), .string tx, .int .i64 nm, .slice (some ⟨g, 0, none⟩) im (im + 12), .slice (some ⟨g', 0, none⟩) tn (tn + 12)] 33)).alloc (.cells #[.int .u8 kd', .bool ng', .slice la' ln lc', .string tx', .int .i64 nm', .slice ia' im ic', .slice ta' tn tc'] 33)).cell? ⟨w.heap.size + 1, 4, none⟩ = some (.int .i64 nm') := HB2.out.cell 4
  have y5 : ((w.alloc (.cells #[.int .u8 kd, .bool ng, .slice (some ⟨g0, 0, none⟩) ln (ln + 12), .string tx, .int .i64 nm, .slice (some ⟨g, 0, none⟩) im (im + 12), .slice (some ⟨g', 0, none⟩) tn (tn + 12)] 33)).alloc (.cells #[.int .u8 kd', .bool ng', .slice la' ln lc', .string tx', .int .i64 nm', .slice ia' im ic', .slice ta' tn tc'] 33)).cell? ⟨w.heap.size + 1, 5, none⟩ = some (.slice ia' im ic') := HB2.out.cell 5
  have y6 : ((w.alloc (.cells #[.int .u8 kd, .bool ng, .slice (some ⟨g0, 0, none⟩) ln (ln + 12), .string tx, .int .i64 nm, .slice (some ⟨g, 0, none⟩) im (im + 12), .slice (some ⟨g', 0, none⟩) tn (tn + 12)] 33)).alloc (.cells #[.int .u8 kd', .bool ng', .slice la' ln lc', .string tx', .int .i64 nm', .slice ia' im ic', .slice ta' tn tc'] 33)).cell? ⟨w.heap.size + 1, 6, none⟩ = some (.slice ta' tn tc') := HB2.out.cell 6
  have mk1 : True := trivial
  go_enter Try.func37, Try.ntmps37
  go_wp2_with
    first
    | (go_at_call 27
       refine (same_self _ ((w.alloc (.cells #[.int .u8 kd, .bool ng, .slice (some ⟨g0, 0, none⟩) ln (ln + 12), .string tx, .int .i64 nm, .slice (some ⟨g, 0, none⟩) im (im + 12), .slice (some ⟨g', 0, none⟩) tn (tn + 12)] 33)).alloc (.cells #[.int .u8 kd', .bool ng', .slice la' ln lc', .string tx', .int .i64 nm', .slice ia' im ic', .slice ta' tn tc'] 33)) (fun _ => True) B true F [.int .u8 kd, .bool ng, .slice (some ⟨g0, 0, none⟩) ln (ln + 12), .string tx, .int .i64 nm, .slice (some ⟨g, 0, none⟩) im (im + 12), .slice (some ⟨g', 0, none⟩) tn (tn + 12)] [.int .u8 kd', .bool ng', .slice la' ln lc', .string tx', .int .i64 nm', .slice ia' im ic', .slice ta' tn tc'] (TermIn.keep HK0.out (fun _ _ => id) _ _ HLT.out) (TermIn.keep HK0.out (fun _ _ => id) _ _ HTT.out)).mono ?_
       rintro e w1 ⟨rfl, hk⟩
       have HK1 := hide (HK0.out.trans' hk (fun _ _ => id) (fun _ _ => id) : Keeps NoB w w1)
       have HB11 := hide (HB1.out.keep hk id); have HB21 := hide (HB2.out.keep hk id)
       clear x0 x1 x2 x3 x4 x5 x6 y0 y1 y2 y3 y4 y5 y6 hk HB1 HB2 HK0
       have x2 : w1.cell? ⟨w.heap.size, 2, none⟩ = some (.slice (some ⟨g0, 0, none⟩) ln (ln + 12)) := HB11.out.cell 2
       have y2 : w1.cell? ⟨w.heap.size + 1, 2, none⟩ = some (.slice la' ln lc') := HB21.out.cell 2)
    | (go_at_call 47
       refine (keptLimbs_any g0 ln lc' la' limbs w1 B F (HG.out.1.fresh HK1.out) HLN.out (HL.out.1.keep HK1.out (fun _ _ => id)) (by omega)).mono ?_
       rintro e w2 ⟨rfl, hk⟩
       have HK2 := hide (HK1.out.trans' hk (fun _ _ => id) (fun _ _ => id) : Keeps NoB w w2)
       have HB12 := hide (HB11.out.keep hk id); have HB22 := hide (HB21.out.keep hk id)
       clear x2 y2 hk HB11 HB21
       have x5 : w2.cell? ⟨w.heap.size, 5, none⟩ = some (.slice (some ⟨g, 0, none⟩) im (im + 12)) := HB12.out.cell 5
       have y5 : w2.cell? ⟨w.heap.size + 1, 5, none⟩ = some (.slice ia' im ic') := HB22.out.cell 5)
    | (go_at_call 48
       clear mk1
       refine (IH.out items HSZ.out.1 g im ic' ia' ess css _ _ w2 B F s2 (HG.out.2.1.fresh HK2.out) HIM.out (LsIn.keep HK2.out HG.out.2.2.1 (fun _ _ _ => id)) (HL.out.2.1.keep HK2.out (fun _ _ => id)) (TermsIn.keep HK2.out (fun _ _ => id) _ _ HL.out.2.2.1)).mono ?_
       rintro e w3 ⟨rfl, hk⟩
       have HK3 := hide (HK2.out.trans' hk (fun _ _ => id) (fun _ _ => id) : Keeps NoB w w3)
       have HB13 := hide (HB12.out.keep hk id); have HB23 := hide (HB22.out.keep hk id)
       clear x5 y5 hk HB12 HB22
       have x6 : w3.cell? ⟨w.heap.size, 6, none⟩ = some (.slice (some ⟨g', 0, none⟩) tn (tn + 12)) := HB13.out.cell 6
       have y6 : w3.cell? ⟨w.heap.size + 1, 6, none⟩ = some (.slice ta' tn tc') := HB23.out.cell 6)
    | (go_at_call 48
       refine (IH.out tail HSZ.out.2 g' tn tc' ta' fss dss _ _ w3 B F s3 (HG.out.2.2.2.1.fresh HK3.out) HTN.out (LsIn.keep HK3.out HG.out.2.2.2.2 (fun _ _ _ => id)) (HL.out.2.2.2.1.keep HK3.out (fun _ _ => id)) (TermsIn.keep HK3.out (fun _ _ => id) _ _ HL.out.2.2.2.2)).mono ?_
       rintro e w4 ⟨rfl, hk⟩
       have HK4 := hide (HK3.out.trans' hk (fun _ _ => id) (fun _ _ => id) : Keeps NoB w w4)
       clear x6 y6 hk)
    | fail
  go_ret
  exact ⟨rfl, HK4.out⟩


set_option maxRecDepth 100000 in
set_option maxHeartbeats 2000000 in
theorem kept_terms (M : Nat) : KeptSaid M := by
  induction M using Nat.strongRecOn with
  | ind M IH =>
  intro ts hM g n c A css dss lo hi w B F hn hs hcl hls hr ht
  have hln : ts.length = n := by have := (LsIn.lens hls).1; omega
  have HS0 := hide hs; have HCL := hide hcl; have HLS := hide hls; have HR := hide hr; have HT := hide ht; have HLN := hide hln; have HM := hide hM; have HIH := hide IH
  have HC7 := hide (LsIn.lens hls).2
  have hwr : IntKind.i64.wrap ((n : Int) + 12) = (n : Int) + 12 := IntWalk.i64_in _ (by omega)
  have hnn : ((n : Int) != (n : Int)) = false := by simp
  clear hs hcl hls hr ht hln hM IH
  go_enter Try.func48, Try.ntmps48
  go_wp2_with fail
  go_loopg [6] (n + 12) (fun g s6 wr => ∃ i : Nat, i ≤ n + 12 ∧ g = n + 12 - i ∧ s6 = .int .i64 i ∧ Keeps NoB w wr)
  case atStart => exact ⟨0, Nat.zero_le _, rfl, rfl, Keeps.refl _ _⟩
  case round =>
    obtain ⟨i, hi, rfl, rfl, hkw⟩ := hrel
    have HKW := hide hkw; clear hkw
    have hi0 : (0 : Int) ≤ i := by omega
    by_cases hin : i < n
    · have hiz2 : (i : Int) < (n : Int) + 12 := by omega
      have hiz3 : ¬ n ≤ i := by omega
      obtain ⟨b, o, kd', ng', la', ln', lc', tx', nm', ia', im', ic', ta', tn', tc', t, hA, ht1, ht2, ht3, f0, f1, f2, f3, f4, f5, f6⟩ := cells_at HR.out HT.out i hin
      subst hA
      obtain ⟨kd, ng, la, ln, lc, tx, nm, ia, im, ic, ta, tn, tc, lo', hi', e1, e2, e3, e4, e5⟩ := LsIn.at HLS.out ht1
      have HC0 := hide (lent_at HS0.out HC7.out e1)
      have HC1 := hide (And.intro f0 (And.intro f1 (And.intro f2 (And.intro f3 (And.intro f4 (And.intro f5 f6))))))
      have HLI := hide e4; have HTI := hide ht2; have HTS := hide e5
      clear ht1 ht2 ht3 f0 f1 f2 f3 f4 f5 f6 e1 e2 e3 e4 e5
      go_wp2_with fail
      refine order_begin (fun W => Keeps NoB w W) (fun _ => true) (by kernel_rfl) 35 rfl ?_
      have HS : Keeps NoB w wr.drew := HKW.out.drew
      generalize wr.drew = W0 at *
      refine order_pure (i := 0) rfl (by kernel_rfl) (fun _ _ _ h => h) (.inl ⟨rfl, fun _ => by go_simp; rfl⟩) ?_
      try simp only [Act.put, List.setIfInBounds_toArray, List.set_cons_succ, List.set_cons_zero]
      refine order_pure (i := 1) rfl (by kernel_rfl) (fun _ _ _ h => h) (.inl ⟨rfl, fun _ => by go_simp; rfl⟩) ?_
      try simp only [Act.put, List.setIfInBounds_toArray, List.set_cons_succ, List.set_cons_zero]
      refine order_pure (i := 2) rfl (by kernel_rfl) (fun _ _ _ h => h) (.inl ⟨rfl, fun _ => by go_simp; rfl⟩) ?_
      try simp only [Act.put, List.setIfInBounds_toArray, List.set_cons_succ, List.set_cons_zero]
      refine order_pure (i := 3) rfl (by kernel_rfl) (fun _ _ _ h => h) (.inl ⟨rfl, fun _ => by go_simp; rfl⟩) ?_
      try simp only [Act.put, List.setIfInBounds_toArray, List.set_cons_succ, List.set_cons_zero]
      refine order_pure (i := 4) rfl (by kernel_rfl) (fun _ _ _ h => h) (.inl ⟨rfl, fun _ => by go_simp; rfl⟩) ?_
      try simp only [Act.put, List.setIfInBounds_toArray, List.set_cons_succ, List.set_cons_zero]
      refine order_pure (i := 5) rfl (by kernel_rfl) (fun _ _ _ h => h) (.inl ⟨rfl, fun _ => by go_simp; rfl⟩) ?_
      try simp only [Act.put, List.setIfInBounds_toArray, List.set_cons_succ, List.set_cons_zero]
      refine order_pure (i := 6) rfl (by kernel_rfl) (fun _ _ _ h => h) (.inl ⟨rfl, fun _ => by go_simp; rfl⟩) ?_
      try simp only [Act.put, List.setIfInBounds_toArray, List.set_cons_succ, List.set_cons_zero]
      refine order_pure (i := 7) rfl (by kernel_rfl) (fun _ _ _ h => h) (.inl ⟨rfl, fun _ => by go_simp; rfl⟩) ?_
      try simp only [Act.put, List.setIfInBounds_toArray, List.set_cons_succ, List.set_cons_zero]
      refine order_held (i := 8) rfl (by kernel_rfl) (fun _ _ _ h => h) (.inl ⟨rfl, fun W hW => by
        have q0 : W.cell? ⟨g, i * 7, none⟩ = some (.int .u8 kd) := hW.cell id (HC0.out.1)
        have q1 : W.cell? ⟨g, i * 7 + 1, none⟩ = some (.bool ng) := hW.cell id (HC0.out.2.1)
        have q2 : W.cell? ⟨g, i * 7 + 2, none⟩ = some (.slice la ln lc) := hW.cell id (HC0.out.2.2.1)
        have q3 : W.cell? ⟨g, i * 7 + 3, none⟩ = some (.string tx) := hW.cell id (HC0.out.2.2.2.1)
        have q4 : W.cell? ⟨g, i * 7 + 4, none⟩ = some (.int .i64 nm) := hW.cell id (HC0.out.2.2.2.2.1)
        have q5 : W.cell? ⟨g, i * 7 + 5, none⟩ = some (.slice ia im ic) := hW.cell id (HC0.out.2.2.2.2.2.1)
        have q6 : W.cell? ⟨g, i * 7 + 6, none⟩ = some (.slice ta tn tc) := hW.cell id (HC0.out.2.2.2.2.2.2)
        go_simp; rfl⟩) HS ?_
      try simp only [Act.put, List.setIfInBounds_toArray, List.set_cons_succ, List.set_cons_zero]
      refine order_pure (i := 9) rfl (by kernel_rfl) (fun _ _ _ h => h) (.inl ⟨rfl, fun _ => by go_simp; rfl⟩) ?_
      try simp only [Act.put, List.setIfInBounds_toArray, List.set_cons_succ, List.set_cons_zero]
      refine order_pure (i := 10) rfl (by kernel_rfl) (fun _ _ _ h => h) (.inl ⟨rfl, fun _ => by go_simp; rfl⟩) ?_
      try simp only [Act.put, List.setIfInBounds_toArray, List.set_cons_succ, List.set_cons_zero]
      refine order_pure (i := 11) rfl (by kernel_rfl) (fun _ _ _ h => h) (.inl ⟨rfl, fun _ => by go_simp; rfl⟩) ?_
      try simp only [Act.put, List.setIfInBounds_toArray, List.set_cons_succ, List.set_cons_zero]
      refine order_held (i := 12) rfl (by kernel_rfl) (fun _ _ _ h => h) (.inl ⟨rfl, fun W hW => by
        have q0 : W.cell? ⟨b, o + i * 7, none⟩ = some (.int .u8 kd') := hW.cell id (HC1.out.1)
        have q1 : W.cell? ⟨b, o + i * 7 + 1, none⟩ = some (.bool ng') := hW.cell id (HC1.out.2.1)
        have q2 : W.cell? ⟨b, o + i * 7 + 2, none⟩ = some (.slice la' ln' lc') := hW.cell id (HC1.out.2.2.1)
        have q3 : W.cell? ⟨b, o + i * 7 + 3, none⟩ = some (.string tx') := hW.cell id (HC1.out.2.2.2.1)
        have q4 : W.cell? ⟨b, o + i * 7 + 4, none⟩ = some (.int .i64 nm') := hW.cell id (HC1.out.2.2.2.2.1)
        have q5 : W.cell? ⟨b, o + i * 7 + 5, none⟩ = some (.slice ia' im' ic') := hW.cell id (HC1.out.2.2.2.2.2.1)
        have q6 : W.cell? ⟨b, o + i * 7 + 6, none⟩ = some (.slice ta' tn' tc') := hW.cell id (HC1.out.2.2.2.2.2.2)
        go_simp; rfl⟩) HS ?_
      try simp only [Act.put, List.setIfInBounds_toArray, List.set_cons_succ, List.set_cons_zero]
      refine order_one (i := 13) rfl (by kernel_rfl) (fun K hK => ?_)
      go_simp
      refine (keptTerm_of (t.size - 1) (hide (HIH.out (t.size - 1) (by have := HTS.out; have := HM.out; have := Tm.size_pos t; omega))) t (by omega) W0 lo' hi' B F kd nm ng la ia ta ln lc im ic tn tc tx kd' nm' ng' la' ia' ta' ln' lc' im' ic' tn' tc' tx' (LIn.keep HS HLI.out (fun _ _ _ => id)) (TermIn.keep HS (fun _ _ => id) _ _ HTI.out)).mono ?_
      rintro e w' ⟨rfl, hk⟩
      have HS2 : Keeps NoB w w' := HS.trans' hk (fun _ _ => id) (fun _ _ => id)
      refine hK _ _ (fun _ _ => HS2) ?_
      clear hK HS hk
      have HS := HS2
      try simp only [Act.put, List.setIfInBounds_toArray, List.set_cons_succ, List.set_cons_zero]
      refine order_pure (i := 14) rfl (by kernel_rfl) (fun _ _ _ h => h) (.inl ⟨rfl, fun _ => by go_simp; rfl⟩) ?_
      try simp only [Act.put, List.setIfInBounds_toArray, List.set_cons_succ, List.set_cons_zero]
      refine order_pure (i := 15) rfl (by kernel_rfl) (fun _ _ _ h => h) (.inl ⟨rfl, fun _ => by go_simp; rfl⟩) ?_
      try simp only [Act.put, List.setIfInBounds_toArray, List.set_cons_succ, List.set_cons_zero]
      refine order_pure (i := 16) rfl (by kernel_rfl) (fun _ _ _ h => h) (.inl ⟨rfl, fun _ => by go_simp; rfl⟩) ?_
      try simp only [Act.put, List.setIfInBounds_toArray, List.set_cons_succ, List.set_cons_zero]
      refine order_pure (i := 17) rfl (by kernel_rfl) (fun _ _ _ h => h) (.inl ⟨rfl, fun _ => by go_simp; rfl⟩) ?_
      try simp only [Act.put, List.setIfInBounds_toArray, List.set_cons_succ, List.set_cons_zero]
      refine order_pure (i := 18) rfl (by kernel_rfl) (fun _ _ _ h => h) (.inl ⟨rfl, fun _ => by go_simp; rfl⟩) ?_
      try simp only [Act.put, List.setIfInBounds_toArray, List.set_cons_succ, List.set_cons_zero]
      refine order_pure (i := 19) rfl (by kernel_rfl) (fun _ _ _ h => h) (.inl ⟨rfl, fun _ => by go_simp; rfl⟩) ?_
      try simp only [Act.put, List.setIfInBounds_toArray, List.set_cons_succ, List.set_cons_zero]
      refine order_pure (i := 20) rfl (by kernel_rfl) (fun _ _ _ h => h) (.inl ⟨rfl, fun _ => by go_simp; rfl⟩) ?_
      try simp only [Act.put, List.setIfInBounds_toArray, List.set_cons_succ, List.set_cons_zero]
      refine order_pure (i := 21) rfl (by kernel_rfl) (fun _ _ _ h => h) (.inl ⟨rfl, fun _ => by go_simp; rfl⟩) ?_
      try simp only [Act.put, List.setIfInBounds_toArray, List.set_cons_succ, List.set_cons_zero]
      refine order_skip (i := 22) rfl (by kernel_rfl) (fun _ _ _ h => h) (by kernel_rfl) ?_
      try simp only [Act.put, List.setIfInBounds_toArray, List.set_cons_succ, List.set_cons_zero]
      refine order_skip (i := 23) rfl (by kernel_rfl) (fun _ _ _ h => h) (by kernel_rfl) ?_
      try simp only [Act.put, List.setIfInBounds_toArray, List.set_cons_succ, List.set_cons_zero]
      refine order_skip (i := 24) rfl (by kernel_rfl) (fun _ _ _ h => h) (by kernel_rfl) ?_
      try simp only [Act.put, List.setIfInBounds_toArray, List.set_cons_succ, List.set_cons_zero]
      refine order_skip (i := 25) rfl (by kernel_rfl) (fun _ _ _ h => h) (by kernel_rfl) ?_
      try simp only [Act.put, List.setIfInBounds_toArray, List.set_cons_succ, List.set_cons_zero]
      refine order_skip (i := 26) rfl (by kernel_rfl) (fun _ _ _ h => h) (by kernel_rfl) ?_
      try simp only [Act.put, List.setIfInBounds_toArray, List.set_cons_succ, List.set_cons_zero]
      refine order_skip (i := 27) rfl (by kernel_rfl) (fun _ _ _ h => h) (by kernel_rfl) ?_
      try simp only [Act.put, List.setIfInBounds_toArray, List.set_cons_succ, List.set_cons_zero]
      refine order_skip (i := 28) rfl (by kernel_rfl) (fun _ _ _ h => h) (by kernel_rfl) ?_
      try simp only [Act.put, List.setIfInBounds_toArray, List.set_cons_succ, List.set_cons_zero]
      refine order_skip (i := 29) rfl (by kernel_rfl) (fun _ _ _ h => h) (by kernel_rfl) ?_
      try simp only [Act.put, List.setIfInBounds_toArray, List.set_cons_succ, List.set_cons_zero]
      refine order_skip (i := 30) rfl (by kernel_rfl) (fun _ _ _ h => h) (by kernel_rfl) ?_
      try simp only [Act.put, List.setIfInBounds_toArray, List.set_cons_succ, List.set_cons_zero]
      refine order_skip (i := 31) rfl (by kernel_rfl) (fun _ _ _ h => h) (by kernel_rfl) ?_
      try simp only [Act.put, List.setIfInBounds_toArray, List.set_cons_succ, List.set_cons_zero]
      refine order_skip (i := 32) rfl (by kernel_rfl) (fun _ _ _ h => h) (by kernel_rfl) ?_
      try simp only [Act.put, List.setIfInBounds_toArray, List.set_cons_succ, List.set_cons_zero]
      refine order_pure (i := 33) rfl (by kernel_rfl) (fun _ _ _ h => h) (.inl ⟨rfl, fun _ => by go_simp; rfl⟩) ?_
      try simp only [Act.put, List.setIfInBounds_toArray, List.set_cons_succ, List.set_cons_zero]
      refine order_pure (i := 34) rfl (by kernel_rfl) (fun _ _ _ h => h) (.inl ⟨rfl, fun _ => by go_simp; rfl⟩) ?_
      try simp only [Act.put, List.setIfInBounds_toArray, List.set_cons_succ, List.set_cons_zero]
      refine order_done (by kernel_rfl) ?_
      go_wp2_with fail
      go_roundg (n + 12 - (i + 1))
      case measure => omega
      case rel => exact ⟨i + 1, by omega, rfl, by go_num, HS⟩
    · by_cases hin2 : i < n + 12
      · obtain ⟨k, rfl⟩ : ∃ k, i = n + k := ⟨i - n, by omega⟩
        have hk12 : k < 12 := by omega
        have hiz : ¬ n + k < n := by omega
        have hiz2 : ((n + k : Nat) : Int) < (n : Int) + 12 := by omega
        have hiz3 : n ≤ n + k := by omega
        have hsub : IntKind.i64.wrap (((n + k : Nat) : Int) - n) = (k : Int) := by rw [IntWalk.i64_in _ (by omega)]; omega
        generalize hm : n + k = m at *
        have HC0 := hide (mark_at HS0.out HC7.out HCL.out hk12 hm)
        have HM2 := hide hm
        go_wp2_with fail
        refine order_begin (fun W => Keeps NoB w W) (fun _ => true) (by kernel_rfl) 35 rfl ?_
        have HS : Keeps NoB w wr.drew := HKW.out.drew
        generalize wr.drew = W0 at *
        refine order_pure (i := 0) rfl (by kernel_rfl) (fun _ _ _ h => h) (.inl ⟨rfl, fun _ => by go_simp; rfl⟩) ?_
        try simp only [Act.put, List.setIfInBounds_toArray, List.set_cons_succ, List.set_cons_zero]
        refine order_pure (i := 1) rfl (by kernel_rfl) (fun _ _ _ h => h) (.inl ⟨rfl, fun _ => by go_simp; rfl⟩) ?_
        try simp only [Act.put, List.setIfInBounds_toArray, List.set_cons_succ, List.set_cons_zero]
        refine order_pure (i := 2) rfl (by kernel_rfl) (fun _ _ _ h => h) (.inl ⟨rfl, fun _ => by go_simp; rfl⟩) ?_
        try simp only [Act.put, List.setIfInBounds_toArray, List.set_cons_succ, List.set_cons_zero]
        refine order_pure (i := 3) rfl (by kernel_rfl) (fun _ _ _ h => h) (.inl ⟨rfl, fun _ => by go_simp; rfl⟩) ?_
        try simp only [Act.put, List.setIfInBounds_toArray, List.set_cons_succ, List.set_cons_zero]
        refine order_pure (i := 4) rfl (by kernel_rfl) (fun _ _ _ h => h) (.inl ⟨rfl, fun _ => by go_simp; rfl⟩) ?_
        try simp only [Act.put, List.setIfInBounds_toArray, List.set_cons_succ, List.set_cons_zero]
        refine order_skip (i := 5) rfl (by kernel_rfl) (fun _ _ _ h => h) (by kernel_rfl) ?_
        try simp only [Act.put, List.setIfInBounds_toArray, List.set_cons_succ, List.set_cons_zero]
        refine order_skip (i := 6) rfl (by kernel_rfl) (fun _ _ _ h => h) (by kernel_rfl) ?_
        try simp only [Act.put, List.setIfInBounds_toArray, List.set_cons_succ, List.set_cons_zero]
        refine order_skip (i := 7) rfl (by kernel_rfl) (fun _ _ _ h => h) (by kernel_rfl) ?_
        try simp only [Act.put, List.setIfInBounds_toArray, List.set_cons_succ, List.set_cons_zero]
        refine order_skip (i := 8) rfl (by kernel_rfl) (fun _ _ _ h => h) (by kernel_rfl) ?_
        try simp only [Act.put, List.setIfInBounds_toArray, List.set_cons_succ, List.set_cons_zero]
        refine order_skip (i := 9) rfl (by kernel_rfl) (fun _ _ _ h => h) (by kernel_rfl) ?_
        try simp only [Act.put, List.setIfInBounds_toArray, List.set_cons_succ, List.set_cons_zero]
        refine order_skip (i := 10) rfl (by kernel_rfl) (fun _ _ _ h => h) (by kernel_rfl) ?_
        try simp only [Act.put, List.setIfInBounds_toArray, List.set_cons_succ, List.set_cons_zero]
        refine order_skip (i := 11) rfl (by kernel_rfl) (fun _ _ _ h => h) (by kernel_rfl) ?_
        try simp only [Act.put, List.setIfInBounds_toArray, List.set_cons_succ, List.set_cons_zero]
        refine order_skip (i := 12) rfl (by kernel_rfl) (fun _ _ _ h => h) (by kernel_rfl) ?_
        try simp only [Act.put, List.setIfInBounds_toArray, List.set_cons_succ, List.set_cons_zero]
        refine order_skip (i := 13) rfl (by kernel_rfl) (fun _ _ _ h => h) (by kernel_rfl) ?_
        try simp only [Act.put, List.setIfInBounds_toArray, List.set_cons_succ, List.set_cons_zero]
        refine order_skip (i := 14) rfl (by kernel_rfl) (fun _ _ _ h => h) (by kernel_rfl) ?_
        try simp only [Act.put, List.setIfInBounds_toArray, List.set_cons_succ, List.set_cons_zero]
        refine order_pure (i := 15) rfl (by kernel_rfl) (fun _ _ _ h => h) (.inl ⟨rfl, fun _ => by go_simp; rfl⟩) ?_
        try simp only [Act.put, List.setIfInBounds_toArray, List.set_cons_succ, List.set_cons_zero]
        refine order_pure (i := 16) rfl (by kernel_rfl) (fun _ _ _ h => h) (.inl ⟨rfl, fun _ => by go_simp; rfl⟩) ?_
        try simp only [Act.put, List.setIfInBounds_toArray, List.set_cons_succ, List.set_cons_zero]
        refine order_pure (i := 17) rfl (by kernel_rfl) (fun _ _ _ h => h) (.inl ⟨rfl, fun _ => by go_simp; rfl⟩) ?_
        try simp only [Act.put, List.setIfInBounds_toArray, List.set_cons_succ, List.set_cons_zero]
        refine order_pure (i := 18) rfl (by kernel_rfl) (fun _ _ _ h => h) (.inl ⟨rfl, fun _ => by go_simp; rfl⟩) ?_
        try simp only [Act.put, List.setIfInBounds_toArray, List.set_cons_succ, List.set_cons_zero]
        refine order_pure (i := 19) rfl (by kernel_rfl) (fun _ _ _ h => h) (.inl ⟨rfl, fun _ => by go_simp; rfl⟩) ?_
        try simp only [Act.put, List.setIfInBounds_toArray, List.set_cons_succ, List.set_cons_zero]
        refine order_pure (i := 20) rfl (by kernel_rfl) (fun _ _ _ h => h) (.inl ⟨rfl, fun _ => by go_simp; rfl⟩) ?_
        try simp only [Act.put, List.setIfInBounds_toArray, List.set_cons_succ, List.set_cons_zero]
        refine order_pure (i := 21) rfl (by kernel_rfl) (fun _ _ _ h => h) (.inl ⟨rfl, fun _ => by go_simp; rfl⟩) ?_
        try simp only [Act.put, List.setIfInBounds_toArray, List.set_cons_succ, List.set_cons_zero]
        refine order_pure (i := 22) rfl (by kernel_rfl) (fun _ _ _ h => h) (.inl ⟨rfl, fun _ => by go_simp; rfl⟩) ?_
        try simp only [Act.put, List.setIfInBounds_toArray, List.set_cons_succ, List.set_cons_zero]
        refine order_pure (i := 23) rfl (by kernel_rfl) (fun _ _ _ h => h) (.inl ⟨rfl, fun _ => by go_simp; rfl⟩) ?_
        try simp only [Act.put, List.setIfInBounds_toArray, List.set_cons_succ, List.set_cons_zero]
        refine order_pure (i := 24) rfl (by kernel_rfl) (fun _ _ _ h => h) (.inl ⟨rfl, fun _ => by go_simp; rfl⟩) ?_
        try simp only [Act.put, List.setIfInBounds_toArray, List.set_cons_succ, List.set_cons_zero]
        refine order_held (i := 25) rfl (by kernel_rfl) (fun _ _ _ h => h) (.inl ⟨rfl, fun W hW => by
          have q0 : W.cell? ⟨g, m * 7, none⟩ = some (.int .u8 0) := hW.cell id (HC0.out.1)
          have q1 : W.cell? ⟨g, m * 7 + 1, none⟩ = some (.bool false) := hW.cell id (HC0.out.2.1)
          have q2 : W.cell? ⟨g, m * 7 + 2, none⟩ = some (.slice none 0 0) := hW.cell id (HC0.out.2.2.1)
          have q3 : W.cell? ⟨g, m * 7 + 3, none⟩ = some (.string { data := #[] }) := hW.cell id (HC0.out.2.2.2.1)
          have q4 : W.cell? ⟨g, m * 7 + 4, none⟩ = some (.int .i64 (markV 1 k)) := hW.cell id (HC0.out.2.2.2.2.1)
          have q5 : W.cell? ⟨g, m * 7 + 5, none⟩ = some (.slice none 0 0) := hW.cell id (HC0.out.2.2.2.2.2.1)
          have q6 : W.cell? ⟨g, m * 7 + 6, none⟩ = some (.slice none 0 0) := hW.cell id (HC0.out.2.2.2.2.2.2)
          go_simp; rfl⟩) HS ?_
        try simp only [Act.put, List.setIfInBounds_toArray, List.set_cons_succ, List.set_cons_zero]
        refine order_pure (i := 26) rfl (by kernel_rfl) (fun _ _ _ h => h) (.inl ⟨rfl, fun _ => by go_simp; rfl⟩) ?_
        try simp only [Act.put, List.setIfInBounds_toArray, List.set_cons_succ, List.set_cons_zero]
        refine order_pure (i := 27) rfl (by kernel_rfl) (fun _ _ _ h => h) (.inl ⟨rfl, fun _ => by go_simp; rfl⟩) ?_
        try simp only [Act.put, List.setIfInBounds_toArray, List.set_cons_succ, List.set_cons_zero]
        refine order_pure (i := 28) rfl (by kernel_rfl) (fun _ _ _ h => h) (.inl ⟨rfl, fun _ => by go_simp; rfl⟩) ?_
        try simp only [Act.put, List.setIfInBounds_toArray, List.set_cons_succ, List.set_cons_zero]
        refine order_pure (i := 29) rfl (by kernel_rfl) (fun _ _ _ h => h) (.inl ⟨rfl, fun _ => by go_simp; rfl⟩) ?_
        try simp only [Act.put, List.setIfInBounds_toArray, List.set_cons_succ, List.set_cons_zero]
        refine order_one (i := 30) rfl (by kernel_rfl) (fun K hK => ?_)
        go_simp
        refine (markTerm_any 1 k (by omega) (by omega) (by omega) (by omega) _).mono ?_
        rintro e w' ⟨rfl, hk⟩
        have HS2 : Keeps NoB w w' := HS.trans' hk (fun _ _ => id) (fun _ _ => id)
        refine hK _ _ (fun _ _ => HS2) ?_
        clear hK HS hk
        have HS := HS2
        try simp only [Act.put, List.setIfInBounds_toArray, List.set_cons_succ, List.set_cons_zero]
        refine order_one (i := 31) rfl (by kernel_rfl) (fun K hK => ?_)
        go_simp
        refine (same_self (markT 1 k) w' (fun _ => True) (fun _ => True) true true (markC 1 k) (markC 1 k) (mark_in _ _ _ _ _) (mark_in _ _ _ _ _)).mono ?_
        rintro e w2 ⟨rfl, hk⟩
        have HS3 : Keeps NoB w w2 := HS.trans' hk (fun _ _ => id) (fun _ _ => id)
        refine hK _ _ (fun _ _ => HS3) ?_
        clear hK HS hk HS2
        have HS := HS3
        try simp only [Act.put, List.setIfInBounds_toArray, List.set_cons_succ, List.set_cons_zero]
        refine order_pure (i := 32) rfl (by kernel_rfl) (fun _ _ _ h => h) (.inl ⟨rfl, fun _ => by go_simp; rfl⟩) ?_
        try simp only [Act.put, List.setIfInBounds_toArray, List.set_cons_succ, List.set_cons_zero]
        refine order_pure (i := 33) rfl (by kernel_rfl) (fun _ _ _ h => h) (.inl ⟨rfl, fun _ => by go_simp; rfl⟩) ?_
        try simp only [Act.put, List.setIfInBounds_toArray, List.set_cons_succ, List.set_cons_zero]
        refine order_pure (i := 34) rfl (by kernel_rfl) (fun _ _ _ h => h) (.inl ⟨rfl, fun _ => by go_simp; rfl⟩) ?_
        try simp only [Act.put, List.setIfInBounds_toArray, List.set_cons_succ, List.set_cons_zero]
        refine order_done (by kernel_rfl) ?_
        go_wp2_with fail
        go_roundg (n + 12 - (m + 1))
        case measure => omega
        case rel => exact ⟨m + 1, by omega, rfl, by go_num, HS⟩
      · obtain rfl : i = n + 12 := by omega
        have hiz2 : ¬ ((n + 12 : Nat) : Int) < (n : Int) + 12 := by omega
        go_wp2_with fail
        go_ret
        exact ⟨rfl, HKW.out⟩
theorem keptTerm_any (t : Tm) (w : World) (lo hi : Nat) (B : Nat → Prop) (F : Bool) (kd nm : Int) (ng : Bool) (la ia ta : Option Addr) (ln lc im ic tn tc : Nat) (tx : ByteArray) (kd' nm' : Int) (ng' : Bool) (la' ia' ta' : Option Addr) (ln' lc' im' ic' tn' tc' : Nat) (tx' : ByteArray)
    (hl : LIn w lo hi [.int .u8 kd, .bool ng, .slice la ln lc, .string tx, .int .i64 nm, .slice ia im ic, .slice ta tn tc] t) (ht : TermIn w B F [.int .u8 kd', .bool ng', .slice la' ln' lc', .string tx', .int .i64 nm', .slice ia' im' ic', .slice ta' tn' tc'] t) : Calls Try.prog 37 #[.agg #[.int .u8 kd, .bool ng, .slice la ln lc, .string tx, .int .i64 nm, .slice ia im ic, .slice ta tn tc], .agg #[.int .u8 kd', .bool ng', .slice la' ln' lc', .string tx', .int .i64 nm', .slice ia' im' ic', .slice ta' tn' tc']] w (TrueK w) :=
  keptTerm_of t.size (hide (kept_terms t.size)) t (by omega) w lo hi B F kd nm ng la ia ta ln lc im ic tn tc tx kd' nm' ng' la' ia' ta' ln' lc' im' ic' tn' tc' tx' hl ht
end Go.Proofs.Ytmkidkfofbnjgaa
namespace Go.Proofs.Ytmkidkfofbnjgaa
open Go.RowKit

theorem Live.keep {w w' : World} {g o : Nat} {fp : Nat → Prop} (h : Live w g o) (hk : Keeps fp w w') (hg : ¬ fp g) (hl : g < w.heap.size) : Live w' g o := by
  obtain ⟨v, h1, h2⟩ := h
  exact ⟨v, hk.cell (p := ⟨g, o, none⟩) hg h1, (hk.frozen (p := ⟨g, o, none⟩) hl hg).trans h2⟩
theorem slab_live {w : World} {e : TypeId} {size n c g : Nat} {xs : List Value} (h : Slab w e size (some ⟨g, 0, none⟩) n c xs) (j : Nat) (hj : j < n * size) : Live w g j := by
  obtain ⟨u, hu⟩ : ∃ u, xs[j]? = some u := ⟨_, List.getElem?_eq_getElem (by rw [h.1]; exact hj)⟩
  exact ⟨u, slab_cell h hu⟩
def EndK (fp : Nat → Prop) (w : World) (e : Ending) (w' : World) : Prop := e = .returned (.tuple #[]) ∧ Keeps fp w w'

set_option maxRecDepth 100000 in
theorem overLimbs_any (g n : Nat) (zs : List Value) (w : World) (hs : Slab w 92 1 (some ⟨g, 0, none⟩) (n + 12) (n + 12) zs) (hn : n ≤ 900000) :
    Calls Try.prog 49 #[.slice (some ⟨g, 0, none⟩) n (n + 12)] w (EndK (fun k => k = g) w) := by
  have hgl : g < w.heap.size := hs.lt ⟨0, rfl⟩
  have HV := hide (fun j (hj : j < n + 12) => slab_live hs j (by omega))
  have hwr : IntKind.i64.wrap ((n : Int) + 12) = (n : Int) + 12 := IntWalk.i64_in _ (by omega)
  clear hs
  go_enter Try.func49, Try.ntmps49
  go_wp2_with fail
  go_loopg [3] (n + 12) (fun gg s wr => ∃ i : Nat, i ≤ n + 12 ∧ gg = n + 12 - i ∧ s = .int .i64 i ∧ Keeps (fun k => k = g) w wr ∧ Hid (∀ j, j < n + 12 → Live wr g j))
  case atStart => exact ⟨0, Nat.zero_le _, rfl, rfl, Keeps.refl _ _, HV⟩
  case round =>
    obtain ⟨i, hi, rfl, rfl, hkw, HV2⟩ := hrel
    have HKW := hide hkw; clear hkw
    have hi0 : (0 : Int) ≤ i := by omega
    by_cases hin : i < n + 12
    · have hiz : (i : Int) < (n : Int) + 12 := by omega
      obtain ⟨v, c0, e0⟩ := HV2.out i hin
      go_wp2_with (go_at_call 72; refine (mark_any 2 i (by omega) (by omega) (by omega) (by omega) _).mono ?_; rintro e w' ⟨rfl, rfl⟩)
      go_roundg (n + 12 - (i + 1))
      case measure => omega
      case rel => exact ⟨i + 1, by omega, rfl, by go_num, HKW.out.setCell (p := ⟨g, i, none⟩) (.inl rfl) _, hide (fun j hj => (HV2.out j hj).set _ _)⟩
    · obtain rfl : i = n + 12 := by omega
      have hiz : ¬ ((n + 12 : Nat) : Int) < (n : Int) + 12 := by omega
      go_wp2_with fail
      go_end0
      exact ⟨rfl, HKW.out⟩

def OverSaid (M : Nat) : Prop := ∀ (ts : List Tm), Tm.size.sizes ts ≤ M → ∀ (g n : Nat) (css : List (List Value)) (hi : Nat) (w : World), n ≤ 3000 →
  Slab w 33 7 (some ⟨g, 0, none⟩) (n + 12) (n + 12) (css.flatten ++ marksC 12) → css.length = n → LsIn w (g + 1) hi css ts → hi ≤ w.heap.size →
  Calls Try.prog 50 #[.slice (some ⟨g, 0, none⟩) n (n + 12)] w (EndK (fun k => g ≤ k ∧ k < hi) w)

set_option maxRecDepth 100000 in
set_option maxHeartbeats 1000000 in
theorem overTerm_of (M : Nat) (IH : Hid (OverSaid M)) (t : Tm) (hM : t.size ≤ M + 1) (w : World) (lo hi : Nat) (kd nm : Int) (ng : Bool) (la ia ta : Option Addr) (ln lc im ic tn tc : Nat) (tx : ByteArray) (hl : LIn w lo hi [.int .u8 kd, .bool ng, .slice la ln lc, .string tx, .int .i64 nm, .slice ia im ic, .slice ta tn tc] t) (hhi : hi ≤ w.heap.size) :
    Calls Try.prog 38 #[.agg #[.int .u8 kd, .bool ng, .slice la ln lc, .string tx, .int .i64 nm, .slice ia im ic, .slice ta tn tc]] w (EndK (fun k => lo ≤ k ∧ k < hi) w) := by
  cases t
  rename_i k neg limbs text num items tail
  have hsz : Tm.size.sizes items ≤ M ∧ Tm.size.sizes tail ≤ M := by simp only [Tm.size] at hM; omega
  unfold LIn at hl
  obtain ⟨xla, xln, xlc, g, xim, xic, g', xtn, xtc, ess, fss, m1, m2, e, ⟨s1, s2, s3⟩, ⟨g0, e0, a1, a2, a3, a4, a5⟩, ⟨b1, b2, b3, b4, b5⟩, ⟨c1, c2, c3, c4, c5⟩⟩ := hl
  simp only [List.cons.injEq, Value.int.injEq, Value.bool.injEq, Value.slice.injEq, Value.string.injEq, true_and, and_true] at e
  obtain ⟨rfl, rfl, ⟨rfl, rfl, rfl⟩, rfl, rfl, ⟨rfl, rfl, rfl⟩, rfl, rfl, rfl⟩ := e
  subst e0 a3 b2 c2
  have q1 := LsIn.le b5
  have q2 := LsIn.le c5
  have HG := hide (And.intro a5 (And.intro b4 (And.intro b5 (And.intro c4 c5))))
  have HSZ := hide hsz; have HIM := hide b3; have HTN := hide c3
  clear a5 b4 b5 c4 c5 hsz hM a4 b3 c3
  have HB1 := hide (Blk.new w 33 #[.int .u8 kd, .bool ng, .slice (some ⟨g0, 0, none⟩) ln (ln + 12), .string tx, .int .i64 nm, .slice (some ⟨g, 0, none⟩) im (im + 12), .slice (some ⟨g', 0, none⟩) tn (tn + 12)])
  have HK0 := hide ((Keeps.refl NoB w).alloc (.cells #[.int .u8 kd, .bool ng, .slice (some ⟨g0, 0, none⟩) ln (ln + 12), .string tx, .int .i64 nm, .slice (some ⟨g, 0, none⟩) im (im + 12), .slice (some ⟨g', 0, none⟩) tn (tn + 12)] 33))
  have hsA : w.heap.size < (w.alloc (.cells #[.int .u8 kd, .bool ng, .slice (some ⟨g0, 0, none⟩) ln (ln + 12), .string tx, .int .i64 nm, .slice (some ⟨g, 0, none⟩) im (im + 12), .slice (some ⟨g', 0, none⟩) tn (tn + 12)] 33)).heap.size := HB1.out.lt
  have x2 : (w.alloc (.cells #[.int .u8 kd, .bool ng, .slice (some ⟨g0, 0, none⟩) ln (ln + 12), .string tx, .int .i64 nm, .slice (some ⟨g, 0, none⟩) im (im + 12), .slice (some ⟨g', 0, none⟩) tn (tn + 12)] 33)).cell? ⟨w.heap.size, 2, none⟩ = some (.slice (some ⟨g0, 0, none⟩) ln (ln + 12)) := HB1.out.cell 2
  have mk1 : True := trivial
  go_enter Try.func38, Try.ntmps38
  go_wp2_with
    first
    | (go_at_call 49
       refine (overLimbs_any g0 ln _ _ (HG.out.1.fresh HK0.out) (by omega)).mono ?_
       rintro e w1 ⟨rfl, hk⟩
       have HK1 := hide (HK0.out.trans' hk (fun _ _ h => h.elim) (fun _ _ h => h) : Keeps (fun k => k = g0) w w1)
       have HB2 := hide (HB1.out.keep hk (fun e => by omega))
       clear x2 hk
       have x5 : w1.cell? ⟨w.heap.size, 5, none⟩ = some (.slice (some ⟨g, 0, none⟩) im (im + 12)) := HB2.out.cell 5)
    | (go_at_call 50
       clear mk1
       refine (IH.out items HSZ.out.1 g im ess m2 w1 s2 (HG.out.2.1.keep HK1.out (fun j ⟨o, e⟩ hf => by injection e with e; injection e with e; omega)) HIM.out (LsIn.keep HK1.out HG.out.2.2.1 (fun j h1 h2 hf => by omega)) (by have := HK1.out.size; omega)).mono ?_
       rintro e w2 ⟨rfl, hk⟩
       have HK2 := hide (HK1.out.trans' hk (fun j _ h => (show lo ≤ j ∧ j < m2 by omega)) (fun j _ h => (show lo ≤ j ∧ j < m2 by omega)) : Keeps (fun j => lo ≤ j ∧ j < m2) w w2)
       have HB3 := hide (HB2.out.keep hk (fun e => by omega))
       clear x5 hk
       have x6 : w2.cell? ⟨w.heap.size, 6, none⟩ = some (.slice (some ⟨g', 0, none⟩) tn (tn + 12)) := HB3.out.cell 6)
    | (go_at_call 50
       refine (IH.out tail HSZ.out.2 g' tn fss hi w2 s3 (HG.out.2.2.2.1.keep HK2.out (fun j ⟨o, e⟩ hf => by injection e with e; injection e with e; omega)) HTN.out (LsIn.keep HK2.out HG.out.2.2.2.2 (fun j h1 h2 hf => by omega)) (by have := HK2.out.size; omega)).mono ?_
       rintro e w3 ⟨rfl, hk⟩
       have HK3 := hide (HK2.out.trans' hk (fun j _ h => (show lo ≤ j ∧ j < hi by omega)) (fun j _ h => (show lo ≤ j ∧ j < hi by omega)) : Keeps (fun j => lo ≤ j ∧ j < hi) w w3)
       clear x6 hk)
    | fail
  go_end0
  exact ⟨rfl, HK3.out⟩

/-- The first k rows are written over: the others are as they were. -/
def OverInv (w : World) (g hi : Nat) (css : List (List Value)) (ts : List Tm) (k : Nat) (wr : World) : Prop :=
  ∃ m, g + 1 ≤ m ∧ m ≤ hi ∧ LsIn wr m hi (css.drop k) (ts.drop k) ∧ Keeps (fun j => g + 1 ≤ j ∧ j < m) w wr
theorem over_next {w wr : World} {g hi k : Nat} {css : List (List Value)} {ts : List Tm} {t : Tm} (h : OverInv w g hi css ts k wr) (ht : ts[k]? = some t) :
    ∃ kd ng la ln lc tx nm ia im ic ta tn tc m m', css[k]? = some [.int .u8 kd, .bool ng, .slice la ln lc, .string tx, .int .i64 nm, .slice ia im ic, .slice ta tn tc] ∧ g + 1 ≤ m ∧ m' ≤ hi ∧ LIn wr m m' [.int .u8 kd, .bool ng, .slice la ln lc, .string tx, .int .i64 nm, .slice ia im ic, .slice ta tn tc] t ∧ t.size ≤ Tm.size.sizes ts ∧ ∀ w2, Keeps (fun j => m ≤ j ∧ j < m') wr w2 → OverInv w g hi css ts (k + 1) w2 := by
  obtain ⟨m, h1, h2, h3, h4⟩ := h
  obtain ⟨hk, e⟩ := List.getElem?_eq_some_iff.1 ht
  have hl := (LsIn.lens h3).1
  have hkc : k < css.length := by simp only [List.length_drop] at hl; omega
  rw [List.drop_eq_getElem_cons hkc, List.drop_eq_getElem_cons hk, e] at h3
  unfold LsIn at h3
  obtain ⟨m', h5, h6⟩ := h3
  have q1 := LIn.le h5
  have q2 := LsIn.le h6
  have h7 := LIn.term (B := fun _ => True) h5 (fun _ _ _ => trivial)
  obtain ⟨kd, ng, la, ln, lc, tx, nm, ia, im, ic, ta, tn, tc, ec, _⟩ := h7.cells
  have hsz : ∀ (us : List Tm) (j : Nat) (u : Tm), us[j]? = some u → u.size ≤ Tm.size.sizes us := by
    intro us
    induction us with
    | nil => intro j u hu; simp at hu
    | cons v us ih =>
      intro j u hu
      cases j with
      | zero => obtain rfl : v = u := by simpa using hu
                simp only [Tm.size.sizes]; omega
      | succ j => have := ih j u (by simpa using hu); simp only [Tm.size.sizes]; omega
  refine ⟨kd, ng, la, ln, lc, tx, nm, ia, im, ic, ta, tn, tc, m, m', by rw [List.getElem?_eq_getElem hkc, ec], h1, q2, ec ▸ h5, hsz ts k t ht, fun w2 hk2 => ⟨m', by omega, q2, LsIn.keep hk2 h6 (fun j h1 h2 hf => by omega), h4.trans' hk2 (fun j _ h => (show g + 1 ≤ j ∧ j < m' by omega)) (fun j _ h => (show g + 1 ≤ j ∧ j < m' by omega))⟩⟩

set_option maxRecDepth 100000 in
set_option maxHeartbeats 2000000 in
theorem over_terms (M : Nat) : OverSaid M := by
  induction M using Nat.strongRecOn with
  | ind M IH =>
  intro ts hM g n css hi w hn hs hcl hls hhi
  have hln : ts.length = n := by have := (LsIn.lens hls).1; omega
  have hgl : g < w.heap.size := hs.lt ⟨0, rfl⟩
  have hlo := LsIn.le hls
  have HS0 := hide hs; have HLS := hide hls; have HLN := hide hln; have HM := hide hM; have HIH := hide IH
  have HC7 := hide (LsIn.lens hls).2
  have hwr : IntKind.i64.wrap ((n : Int) + 12) = (n : Int) + 12 := IntWalk.i64_in _ (by omega)
  clear hs hcl hls hln hM IH
  go_enter Try.func50, Try.ntmps50
  go_wp2_with fail
  go_loopg [2] n (fun gg s wr => ∃ k : Nat, k ≤ n ∧ gg = n - k ∧ s = .int .i64 k ∧ OverInv w g hi css ts k wr)
  case atStart => exact ⟨0, Nat.zero_le _, rfl, rfl, g + 1, Nat.le_refl _, hlo, HLS.out, Keeps.refl _ _⟩
  case round =>
    obtain ⟨k, hk, rfl, rfl, hinv⟩ := hrel
    have HI := hide hinv; clear hinv
    have hk0 : (0 : Int) ≤ k := by omega
    by_cases hkn : k < n
    · have hkz : (k : Int) < n := by omega
      obtain ⟨t, ht⟩ : ∃ t, ts[k]? = some t := ⟨_, List.getElem?_eq_getElem (by have := HLN.out; omega)⟩
      obtain ⟨kd, ng, la, ln, lc, tx, nm, ia, im, ic, ta, tn, tc, m, m', e1, e2, e3, e4, e5, e6⟩ := over_next HI.out ht
      have hkw : Keeps (fun j => g + 1 ≤ j ∧ j < hi) w wr := by
        obtain ⟨m0, b1, b2, _, b4⟩ := HI.out
        exact b4.mono (fun j _ h => ⟨h.1, by omega⟩)
      obtain ⟨f0, f1, f2, f3, f4, f5, f6⟩ := lent_at (HS0.out.keep hkw (fun j ⟨o, e⟩ hf => by injection e with e; injection e with e; omega)) HC7.out e1
      have HLI := hide e4; have HTS := hide e5; have HNX := hide e6
      have hhr : m' ≤ wr.heap.size := by have := hkw.size; omega
      clear ht e1 e4 e5 e6 hkw
      go_wp2_with
        first
        | (go_at_call 38
           refine (overTerm_of (t.size - 1) (hide (HIH.out (t.size - 1) (by have := HTS.out; have := HM.out; have := Tm.size_pos t; omega))) t (by omega) wr m m' kd nm ng la ia ta ln lc im ic tn tc tx HLI.out hhr).mono ?_
           rintro e w2 ⟨rfl, hk2⟩
           have HN2 := hide (HNX.out w2 hk2)
           clear hk2 f0 f1 f2 f3 f4 f5 f6)
        | fail
      go_roundg (n - (k + 1))
      case measure => omega
      case rel => exact ⟨k + 1, by omega, rfl, by go_num, HN2.out⟩
    · obtain rfl : n = k := by omega
      have hkz : ¬ (n : Int) < n := by omega
      have hkw : Keeps (fun j => g ≤ j ∧ j < hi) w wr ∧ Hid (∀ j, j < (n + 12) * 7 → Live wr g j) := by
        obtain ⟨m0, b1, b2, _, b4⟩ := HI.out
        refine ⟨b4.mono (fun j _ h => ⟨by omega, by omega⟩), hide (fun j hj => slab_live (HS0.out.keep b4 (fun j ⟨o, e⟩ hf => by injection e with e; injection e with e; omega)) j hj)⟩
      obtain ⟨hkw, HV⟩ := hkw
      have HKW := hide hkw
      clear hkw HI HLS HIH HM HS0
      go_wp2_with fail
      go_loopg [4] (n + 12) (fun gg s wx => ∃ i : Nat, i ≤ n + 12 ∧ gg = n + 12 - i ∧ s = .int .i64 i ∧ Keeps (fun j => g ≤ j ∧ j < hi) w wx ∧ Hid (∀ j, j < (n + 12) * 7 → Live wx g j))
      case atStart => exact ⟨0, Nat.zero_le _, rfl, rfl, HKW.out, HV⟩
      case round =>
        obtain ⟨i, hi2, rfl, rfl, hkw, HV2⟩ := hrel
        have HKX := hide hkw; clear hkw
        have hi0 : (0 : Int) ≤ i := by omega
        by_cases hin : i < n + 12
        · have hiz : (i : Int) < (n : Int) + 12 := by omega
          have hgw : g < wr.heap.size := by have := HKX.out.size; omega
          go_wp2_with
            first
            | (go_at_call 73
               refine (markTerm_any 2 i (by omega) (by omega) (by omega) (by omega) _).mono ?_
               rintro e w2 ⟨rfl, hk2⟩
               have HK2 := hide hk2
               have HV3 := hide (fun j hj => (HV2.out j hj).keep hk2 id hgw)
               obtain ⟨d0, c0, e0⟩ := HV3.out (i * 7) (by omega)
               obtain ⟨d1, c1, e1⟩ := HV3.out (i * 7 + 1) (by omega)
               obtain ⟨d2, c2, e2⟩ := HV3.out (i * 7 + 2) (by omega)
               obtain ⟨d3, c3, e3⟩ := HV3.out (i * 7 + 3) (by omega)
               obtain ⟨d4, c4, e4⟩ := HV3.out (i * 7 + 4) (by omega)
               obtain ⟨d5, c5, e5⟩ := HV3.out (i * 7 + 5) (by omega)
               obtain ⟨d6, c6, e6⟩ := HV3.out (i * 7 + 6) (by omega)
               clear hk2)
            | fail
          have hkk : Keeps (fun j => g ≤ j ∧ j < hi) w w2 := HKX.out.trans' HK2.out (fun _ _ h => h) (fun _ _ h => h.elim)
          have hgj : (fun j => g ≤ j ∧ j < hi) g := ⟨Nat.le_refl _, by omega⟩
          go_roundg (n + 12 - (i + 1))
          case measure => omega
          case rel => exact ⟨i + 1, by omega, rfl, by go_num, (((((((hkk.setCell (p := ⟨g, i * 7, none⟩) (.inl hgj) (_)).setCell (p := ⟨g, i * 7 + 1, none⟩) (.inl hgj) (_)).setCell (p := ⟨g, i * 7 + 2, none⟩) (.inl hgj) (_)).setCell (p := ⟨g, i * 7 + 3, none⟩) (.inl hgj) (_)).setCell (p := ⟨g, i * 7 + 4, none⟩) (.inl hgj) (_)).setCell (p := ⟨g, i * 7 + 5, none⟩) (.inl hgj) (_)).setCell (p := ⟨g, i * 7 + 6, none⟩) (.inl hgj) (_)), hide (fun j hj => ((((((((HV3.out j hj).set _ _).set _ _).set _ _).set _ _).set _ _).set _ _).set _ _))⟩
        · obtain rfl : i = n + 12 := by omega
          have hiz : ¬ ((n + 12 : Nat) : Int) < (n : Int) + 12 := by omega
          go_wp2_with fail
          go_end0
          exact ⟨rfl, HKX.out⟩
theorem overTerm_any (t : Tm) (w : World) (lo hi : Nat) (kd nm : Int) (ng : Bool) (la ia ta : Option Addr) (ln lc im ic tn tc : Nat) (tx : ByteArray) (hl : LIn w lo hi [.int .u8 kd, .bool ng, .slice la ln lc, .string tx, .int .i64 nm, .slice ia im ic, .slice ta tn tc] t) (hhi : hi ≤ w.heap.size) :
    Calls Try.prog 38 #[.agg #[.int .u8 kd, .bool ng, .slice la ln lc, .string tx, .int .i64 nm, .slice ia im ic, .slice ta tn tc]] w (EndK (fun k => lo ≤ k ∧ k < hi) w) := overTerm_of t.size (hide (over_terms t.size)) t (by omega) w lo hi kd nm ng la ia ta ln lc im ic tn tc tx hl hhi
end Go.Proofs.Ytmkidkfofbnjgaa
