/- Names in memory; New, made, has. -/
import Derived.Test.YthoaaihghgabcaaGreatLaw
import Derived.Test.YthoaaihghgabcaaGreatRows
import Derived.Test.YthoaaihghgabcaaGreatMore
import Derived.Maps.StringElems
import Derived.Deep.QuietTactic
import Derived.BigQuiet
import Derived.Deep.LoopGhost
namespace Go.Proofs.YthoaaihghgabcaaGreat
open Go.RowKit Go.Maps

theorem keyS : Keyed Tryz.prog 9 := string_keyed Tryz.underlying9
theorem keyI : Keyed Tryz.prog 3 := int_keyed Tryz.underlying3
theorem zero3 (w : World) : (zeroValue 3).run Tryz.prog w = .ok (.int .i64 0) w := by kernel_rfl
theorem zero9 (w : World) : (zeroValue 9).run Tryz.prog w = .ok (.string ByteArray.empty) w := by kernel_rfl

/-- Names in memory: the struct in block b; its two maps; the list that both tell. -/
structure NamesAt (w : World) (b m1 m2 N : Nat) (L : List Nm) : Prop where
  blk : Blk w b 52 #[.map (some m1), .map (some m2)]
  one : ∃ D : DataW Unit, w.ownsMap Tryz.prog 9 (plainElem Tryz.prog 3) m1 N D ∧ SMap D L
  two : ∃ D : DataW Unit, w.ownsMap Tryz.prog 3 (plainElem Tryz.prog 9) m2 N D ∧ PMap D L
  up : Up L
  once : OncePid L
  ne : m1 ≠ m2

def IntOk (p : Int) : Prop := (Lit.int .i64 p).wf = true
theorem keyOf_s {s : ByteArray} (h : s.size ≤ maxLen) : keyOf Tryz.prog 9 (.string s) = some (.string (key s)) := WideMaps.keyOf_string_mk Tryz.underlying9 h
theorem keyOf_p {p : Int} (h : IntOk p) : keyOf Tryz.prog 3 (.int .i64 p) = some (.int .i64 p) := keyOf_int_mk Tryz.underlying3 h

theorem own_keep {H : Type} {w w' : World} {k : TypeId} {R : Value → Option (DataW H × List MemPlace)} {b n : Nat} {D : DataW H} {fp : Nat → Prop} (h : w.ownsMap Tryz.prog k R b n D) (hk : Keeps fp w w') (hb : ¬ fp b) : w'.ownsMap Tryz.prog k R b n D := by
  have hlt := h.lt
  obtain ⟨es, clock, he, r⟩ := h
  exact ⟨es, clock, (hk.block b hlt hb).trans he, r⟩
theorem NamesAt.keep {w w' : World} {b m1 m2 N : Nat} {L : List Nm} {fp : Nat → Prop} (h : NamesAt w b m1 m2 N L) (hk : Keeps fp w w') (h0 : ¬ fp b) (h1 : ¬ fp m1) (h2 : ¬ fp m2) : NamesAt w' b m1 m2 N L := by
  obtain ⟨D1, o1, s1⟩ := h.one
  obtain ⟨D2, o2, s2⟩ := h.two
  exact ⟨h.blk.keep hk h0, ⟨D1, own_keep o1 hk h1, s1⟩, ⟨D2, own_keep o2 hk h2, s2⟩, h.up, h.once, h.ne⟩
theorem NamesAt.fresh {w w' : World} {b m1 m2 N : Nat} {L : List Nm} (h : NamesAt w b m1 m2 N L) (hk : Keeps NoB w w') : NamesAt w' b m1 m2 N L := h.keep hk id id id
theorem NamesAt.lt {w : World} {b m1 m2 N : Nat} {L : List Nm} (h : NamesAt w b m1 m2 N L) : b < w.heap.size ∧ m1 < w.heap.size ∧ m2 < w.heap.size := by
  obtain ⟨D1, o1, _⟩ := h.one
  obtain ⟨D2, o2, _⟩ := h.two
  exact ⟨h.blk.lt, o1.lt, o2.lt⟩

theorem has_eq_dec {H : Type} {D : DataW H} {L : List Nm} (h : SMap D L) (s : ByteArray) : Maps.has D (.string (key s)) = hasN s L := by
  rw [Bool.eq_iff_iff, h.has, hasN_iff]
theorem hasP_eq_dec {H : Type} {D : DataW H} {L : List Nm} (h : PMap D L) (p : Int) : Maps.has D (.int .i64 p) = hasP p L := by
  rw [Bool.eq_iff_iff, h.has, hasP_iff]

set_option maxRecDepth 100000 in
theorem has_s (w : World) (m N : Nat) (D : DataW Unit) (L : List Nm) (s : ByteArray) (hown : w.ownsMap Tryz.prog 9 (plainElem Tryz.prog 3) m N D) (hD : SMap D L) (hs : s.size ≤ maxLen) :
    Calls Tryz.prog 27 #[.map (some m), .string s] w fun e w' => e = .returned (.bool (hasN s L)) ∧ w = w' := by
  have hkey := keyOf_s hs
  rw [← has_eq_dec hD s]
  have HO := hide hown
  clear hown hD hs
  go_enter Tryz.func27, Tryz.ntmps27
  go_wp2_with (at_lookup; refine wpList_lookup_own_ok_int w rfl _ _ 48 rfl 9 3 .i64 keyS Tryz.underlying48 Tryz.underlying3 (zero3 w) m N D rfl HO.out _ _ rfl hkey ?_; intro c hat hwc)
  go_ret
  exact ⟨rfl, rfl⟩

set_option maxRecDepth 100000 in
theorem has_p (w : World) (m N : Nat) (D : DataW Unit) (L : List Nm) (p : Int) (hown : w.ownsMap Tryz.prog 3 (plainElem Tryz.prog 9) m N D) (hD : PMap D L) (hs : IntOk p) :
    Calls Tryz.prog 28 #[.map (some m), .int .i64 p] w fun e w' => e = .returned (.bool (hasP p L)) ∧ w = w' := by
  have hkey := keyOf_p hs
  rw [← hasP_eq_dec hD p]
  have HO := hide hown
  clear hown hD hs
  go_enter Tryz.func28, Tryz.ntmps28
  go_wp2_with (at_lookup; refine wpList_lookup_own_ok w rfl _ _ 50 rfl 3 9 keyI Tryz.underlying50 (plainElem Tryz.prog 9) (zero9 w) (.lit (.string [])) [] (plainElem_string Tryz.underlying9 (by unfold maxLen; decide)) m N D rfl HO.out _ _ rfl hkey ?_; intro v ps hv; obtain ⟨t, rfl, _, _⟩ := plainElem_string_inv Tryz.underlying9 hv; clear hv)
  go_ret
  exact ⟨rfl, rfl⟩

theorem map_ne (m : Nat) (w : World) : (binOp .neq 48 (.map (some m)) (.map none)).run Tryz.prog w = .ok (.bool true) w := by kernel_rfl
theorem map_ne_nil (w : World) : (binOp .neq 48 (.map none) (.map none)).run Tryz.prog w = .ok (.bool false) w := by kernel_rfl

set_option maxRecDepth 100000 in
theorem made_at (w : World) (b m1 : Nat) (h : w.cell? ⟨b, 0, none⟩ = some (.map (some m1))) : Calls Tryz.prog 22 #[.pointer (some ⟨b, 0, none⟩)] w fun e w' => e = .returned (.bool true) ∧ w = w' := by
  have hm := map_ne m1 w
  go_enter Tryz.func22, Tryz.ntmps22
  go_wp2
  go_ret
  exact ⟨rfl, rfl⟩
theorem made_nil (w : World) : Calls Tryz.prog 22 #[.pointer none] w fun e w' => e = .returned (.bool false) ∧ w = w' := by
  go_enter Tryz.func22, Tryz.ntmps22
  go_wp2
  go_ret
  exact ⟨rfl, rfl⟩
set_option maxRecDepth 100000 in
theorem made_un (w : World) (b : Nat) (h : w.cell? ⟨b, 0, none⟩ = some (.map none)) : Calls Tryz.prog 22 #[.pointer (some ⟨b, 0, none⟩)] w fun e w' => e = .returned (.bool false) ∧ w = w' := by
  have hm := map_ne_nil w
  go_enter Tryz.func22, Tryz.ntmps22
  go_wp2
  go_ret
  exact ⟨rfl, rfl⟩

def NewPost (w : World) (e : Ending) (w' : World) : Prop := e = .returned (.pointer (some ⟨w.heap.size + 2, 0, none⟩)) ∧ NamesAt w' (w.heap.size + 2) w.heap.size (w.heap.size + 1) 0 [] ∧ Keeps NoB w w'
set_option maxRecDepth 100000 in
theorem new_any (w : World) : Calls Tryz.prog 7 #[] w (NewPost w) := by
  go_enter Tryz.func7, Tryz.ntmps7
  have hmm := @run_makeMap Tryz.prog
  go_wp2
  go_ret
  have o1 : ((w.alloc (.map #[] 0)).alloc (.map #[] 0)).ownsMap Tryz.prog 9 (plainElem (H := Unit) Tryz.prog 3) w.heap.size 0 (.map []) := (World.ownsMap_made w _ _ _).alloc _
  have o2 : ((w.alloc (.map #[] 0)).alloc (.map #[] 0)).ownsMap Tryz.prog 3 (plainElem (H := Unit) Tryz.prog 9) (w.heap.size + 1) 0 (.map []) := by
    have := World.ownsMap_made (H := Unit) (w.alloc (.map #[] 0)) Tryz.prog 3 (plainElem (H := Unit) Tryz.prog 9)
    simpa using this
  have hb := Blk.new ((w.alloc (.map #[] 0)).alloc (.map #[] 0)) 52 #[.map (some w.heap.size), .map (some (w.heap.size + 1))]
  refine ⟨rfl, ⟨by simpa using hb, ⟨_, o1.alloc _, SMap.empty⟩, ⟨_, o2.alloc _, PMap.empty⟩, List.Pairwise.nil, List.Pairwise.nil, by omega⟩, (((Keeps.refl NoB w).alloc _).alloc _).alloc _⟩
end Go.Proofs.YthoaaihghgabcaaGreat
