/- pids: who waits, as numbers; Waits; SameInts; Pick. -/
import Derived.Test.YtaiphjgklfioeaaDrop
namespace Go.Proofs.Ytaiphjgklfioeaa
open Go.RowKit

theorem Try.info3 : (Try.prog.info? 3).map (fun i => (i.zero, i.size, i.bytes)) = some (some (.int .i64 0), 1, 8) := by kernel_rfl
/-- Numbers, each one cell. -/
abbrev ints (xs : List Int) : List Value := xs.map (Value.int .i64)
theorem ints_ones {xs : List Int} : ∀ u ∈ ints xs, u.oneCell' = true := by
  intro u hu
  obtain ⟨x, _, rfl⟩ := List.mem_map.1 hu
  rfl
theorem int_reads {w : World} {g : Nat} {x : Int} (h : Blk w g 3 #[.int .i64 x]) : Reads w (fun _ => True) true 1 (some ⟨g, 0, none⟩) 1 [.int .i64 x] := by
  refine ⟨rfl, fun _ => ⟨_, rfl, rfl, trivial, h.lt, fun j u hu => ⟨?_, fun _ => h.free _⟩⟩⟩
  rw [h.cell, ← hu]; simp

/-- A list of numbers of the call's own. -/
def IntsOut (w : World) (xs : List Int) (A : Option Addr) (c : Nat) (w' : World) : Prop := Slab w' 3 1 A xs.length c (ints xs) ∧ ∀ k, rowB A k → w.heap.size ≤ k
def PidsInv (w : World) (L : List Wt) (k : Nat) (A : Option Addr) (c : Nat) (wr : World) : Prop := Keeps NoB w wr ∧ Slab wr 3 1 A k c (ints (pidsOf (L.take k))) ∧ ∀ k, rowB A k → w.heap.size ≤ k
def PidsPost (w : World) (n : Nat) (L : List Wt) (e : Ending) (w' : World) : Prop := ∃ A c, e = .returned (.slice A n c) ∧ Keeps NoB w w' ∧ IntsOut w (pidsOf L) A c w'

theorem PidsInv.step {w wr w' w2 : World} {L : List Wt} {k c c' : Nat} {A A' : Option Addr} {x : Wt} (h : PidsInv w L k A c wr) (hx : L[k]? = some x) (hk : Keeps NoB wr w') (hs : Slab w2 3 1 A' (k + 1) c' (ints (pidsOf (L.take k)) ++ [.int .i64 x.2])) (hk2 : Keeps (rowB A) w' w2) (hm : Moved w' A A') : PidsInv w L (k + 1) A' c' w2 := by
  have h1 : Keeps NoB w w' := h.1.trans' hk (fun _ _ => id) (fun _ _ => id)
  refine ⟨h1.trans' hk2 (fun _ _ => id) (fun j hj hr => ?_), ?_, ?_⟩
  · have := h.2.2 j hr; omega
  · rw [List.take_add_one, hx]; simpa [pidsOf, ints] using hs
  · exact fun j hj => (hm j hj).elim (h.2.2 j) (fun h => Nat.le_trans h1.size h)

set_option maxRecDepth 100000 in
theorem pids_any (A : Option Addr) (n c : Nat) (L : List Wt) (w : World) (BB : Nat → Prop) (F : Bool) (hr : Reads w BB F 2 A n (prs L)) (hn : n ≤ 1048576) :
    Calls Try.prog 27 #[.slice A n c] w (PidsPost w n L) := by
  obtain ⟨i0, hi0, hz0, hz1, hz2⟩ := info_parts Try.info3
  have hl : L.length = n := by have := hr.1; rw [prs_len] at this; omega
  have HR := hide hr; have HL := hide hl
  clear hr hl
  go_enter Try.func27, Try.ntmps27
  go_wp2
  go_loopg [3, 5, 8] n (fun g s3 _ s8 wr => ∃ (k : Nat) (A' : Option Addr) (c' : Nat), k ≤ n ∧ g = n - k ∧ s3 = .slice A' k c' ∧ s8 = .int .i64 k ∧ PidsInv w L k A' c' wr)
  case atStart => exact ⟨0, none, 0, Nat.zero_le _, rfl, rfl, rfl, Keeps.refl _ _, by simpa using Slab.nil w 3 1, fun k ⟨o, h⟩ => by cases h⟩
  case round =>
    obtain ⟨k, A', c', hk, rfl, rfl, rfl, hinv⟩ := hrel
    have HI := hide hinv; clear hinv
    by_cases hlt : k < n
    · obtain ⟨⟨g, o, sp⟩, hA, hs, _, _, hc⟩ := (HR.out.keep HI.out.1 (fun _ _ => id)).2 (by omega)
      simp only at hs
      subst hs hA
      obtain ⟨x, hx⟩ : ∃ x, L[k]? = some x := ⟨_, List.getElem?_eq_getElem (by have := HL.out; omega)⟩
      obtain ⟨e0, e1⟩ := prs_at hx
      have HX := hide hx
      obtain ⟨t, p⟩ := x
      have c0 : wr.cell? ⟨g, o + k * 2, none⟩ = some (.int .i64 t) := (hc _ _ e0).1
      have c1 : wr.cell? ⟨g, o + k * 2 + 1, none⟩ = some (.int .i64 p) := (hc _ _ e1).1
      have hkz : (k : Int) < n := by omega
      have hk0 : (0 : Int) ≤ k := by omega
      have HP := hide (show k + 1 ≤ maxLen ∧ (k + 1) * 8 ≤ 140737488355328 from by unfold maxLen; omega)
      clear hc e0 e1 hx
      have hv : Blk ((wr.alloc (.cells #[.int .i64 t, .int .i64 p] 53)).alloc (.cells #[.int .i64 p] 3)) (wr.heap.size + 1) 3 #[.int .i64 p] := by
        have := Blk.new (wr.alloc (.cells #[.int .i64 t, .int .i64 p] 53)) 3 #[.int .i64 p]
        simpa using this
      have HV := hide (int_reads hv)
      have HKW := hide (((Keeps.refl NoB wr).alloc (.cells #[.int .i64 t, .int .i64 p] 53)).alloc (.cells #[.int .i64 p] 3))
      have hsw := HI.out.2.1.fresh HKW.out
      obtain ⟨xs, hxs⟩ : ∃ xs, ints (pidsOf (L.take k)) = xs := ⟨_, rfl⟩
      rw [hxs] at hsw
      have HSW := hide hsw; have HXS := hide hxs
      clear hsw hxs
      clear hv
      go_wp2_with (at_builtin; go_loud (refine wpList_append_slab _ rfl (.tmp 12) (.tmp 15) 30 rfl 3 i0 _ 1 8 Try.underlying30 hi0 hz0 hz1 hz2 rfl (by omega) A' k c' _ rfl HSW.out _ _ (some ⟨wr.heap.size + 1, 0, none⟩) 1 1 _ rfl HV.out (by omega) (ints_ones (xs := [p])) HP.out.1 HP.out.2 ?_))
      intro A2 c2 w2 h1 h2 h3
      rw [← HXS.out] at h1
      have HI2 := hide (HI.out.step HX.out HKW.out h1 h2 h3)
      clear h1 h2 h3
      go_wp2
      go_roundg (n - (k + 1))
      case measure => omega
      case rel => exact ⟨k + 1, A2, c2, by omega, rfl, rfl, by go_num, HI2.out⟩
    · have : k = n := by omega
      subst this
      go_wp2
      go_ret
      have e : L.take k = L := List.take_of_length_le (by have := HL.out; omega)
      have h := HI.out
      unfold PidsInv at h
      rw [e] at h
      refine ⟨A', c', rfl, h.1, ?_, h.2.2⟩
      · rw [List.length_map, HL.out]; exact h.2.1

theorem waits_nil (w : World) : Calls Try.prog 14 #[.pointer none] w fun e w' => e = .returned (.slice none 0 0) ∧ w = w' := by
  go_enter Try.func14, Try.ntmps14
  go_wp2_with (go_at_call 20; refine (known_nil _).mono ?_; rintro e w' ⟨rfl, rfl⟩)
  go_ret
  exact ⟨rfl, rfl⟩
theorem waits_unmade (b : Nat) (w : World) (h : w.cell? ⟨b, 1, none⟩ = some (.bool false)) : Calls Try.prog 14 #[.pointer (some ⟨b, 0, none⟩)] w fun e w' => e = .returned (.slice none 0 0) ∧ w = w' := by
  go_enter Try.func14, Try.ntmps14
  go_wp2_with (go_at_call 20; refine (known_at b false _ h).mono ?_; rintro e w' ⟨rfl, rfl⟩)
  go_ret
  exact ⟨rfl, rfl⟩
theorem waits_any (b c : Nat) (A : Option Addr) (s : St) (w : World) (h : ClockAt w b A c s) (hl : s.L.length ≤ 1000000) :
    Calls Try.prog 14 #[.pointer (some ⟨b, 0, none⟩)] w (PidsPost w s.L.length s.L) := by
  have k1 : w.cell? ⟨b, 1, none⟩ = some (.bool true) := h.blk.cell 1
  have k2 : w.cell? ⟨b, 2, none⟩ = some (.slice A s.L.length c) := h.blk.cell 2
  have hp := pids_any A s.L.length c s.L w _ _ h.row.reads (by omega)
  clear h
  go_enter Try.func14, Try.ntmps14
  go_wp2_with (first
    | (go_at_call 20; refine (known_at b true _ k1).mono ?_; rintro e w' ⟨rfl, rfl⟩)
    | (go_at_call 27; refine hp.mono ?_; rintro e w1 ⟨A', c', rfl, hk, ho⟩; (have HO := hide (And.intro hk ho)); clear hk ho))
  go_ret
  exact ⟨A', c', rfl, HO.out.1, HO.out.2⟩
end Go.Proofs.Ytaiphjgklfioeaa
