/- The clock's order of those that wait: the closure, slices.BinarySearchFunc, find. -/
import Derived.Test.YtaiphjgklfioeaaFind
import Derived.WalkLawsBesides
import Derived.WalkSpells
namespace Go.Proofs.Ytaiphjgklfioeaa
open Go.RowKit

theorem find_at (b : Nat) (A : Option Addr) (n c : Nat) (L : List Wt) (pid : Int) (w : World) (BB : Nat → Prop) (F : Bool) (h2 : w.cell? ⟨b, 2, none⟩ = some (.slice A n c)) (hr : Reads w BB F 2 A n (prs L)) (hn : n ≤ 9223372036854775807) :
    Calls Try.prog 21 #[.pointer (some ⟨b, 0, none⟩), .int .i64 pid] w (IdxPost w L pid) := by
  have hbl := World.block_lt_of_cell? w _ h2
  have h2' : (w.alloc (.cells #[.int .i64 pid] 3)).cell? ⟨b, 2, none⟩ = some (.slice A n c) := (World.cell?_alloc_lt _ _ _ hbl).trans h2
  have hk0 : Keeps NoB w (w.alloc (.cells #[.int .i64 pid] 3)) := (Keeps.refl _ _).alloc _
  have hc := index_any A n c L pid w.heap.size (w.alloc (.cells #[.int .i64 pid] 3)) BB F (hr.keep hk0 (fun _ _ => id)) hn ((Blk.new w 3 #[.int .i64 pid]).cell 0)
  have HK0 := hide hk0
  clear hr h2 hk0
  go_enter Try.func21, Try.ntmps21
  go_wp2_with (go_at_call 35; refine hc.mono ?_; rintro e w' ⟨hk, ⟨hf, rfl⟩ | ⟨hf, rfl⟩⟩)
  · have HK := hide (HK0.out.trans' hk (fun _ _ => id) (fun _ _ => id) : Keeps NoB w w')
    have HF := hide hf
    clear hk hf
    go_wp2
    go_ret
    exact ⟨HK.out, .inl ⟨HF.out, rfl⟩⟩
  · have HK := hide (HK0.out.trans' hk (fun _ _ => id) (fun _ _ => id) : Keeps NoB w w')
    have HF := hide hf
    clear hk hf
    go_wp2
    go_ret
    exact ⟨HK.out, .inr ⟨HF.out, rfl⟩⟩

theorem find_yes (b : Nat) (A : Option Addr) (n c : Nat) (L : List Wt) (pid : Int) (w : World) (BB : Nat → Prop) (F : Bool) (h2 : w.cell? ⟨b, 2, none⟩ = some (.slice A n c)) (hr : Reads w BB F 2 A n (prs L)) (hn : n ≤ 9223372036854775807) (hp : pid ∈ pidsOf L) :
    Calls Try.prog 21 #[.pointer (some ⟨b, 0, none⟩), .int .i64 pid] w fun e w' => e = .returned (.int .i64 (findPid pid L)) ∧ Keeps NoB w w' := by
  refine (find_at b A n c L pid w BB F h2 hr hn).mono fun e w' h => ?_
  have := findPid_mem.1 hp
  obtain ⟨hk, ⟨_, he⟩ | ⟨hx, _⟩⟩ := h
  · exact ⟨he, hk⟩
  · omega
theorem find_no (b : Nat) (A : Option Addr) (n c : Nat) (L : List Wt) (pid : Int) (w : World) (BB : Nat → Prop) (F : Bool) (h2 : w.cell? ⟨b, 2, none⟩ = some (.slice A n c)) (hr : Reads w BB F 2 A n (prs L)) (hn : n ≤ 9223372036854775807) (hp : pid ∉ pidsOf L) :
    Calls Try.prog 21 #[.pointer (some ⟨b, 0, none⟩), .int .i64 pid] w fun e w' => e = .returned (.int .i64 (-1)) ∧ Keeps NoB w w' := by
  refine (find_at b A n c L pid w BB F h2 hr hn).mono fun e w' h => ?_
  obtain ⟨hk, ⟨hx, _⟩ | ⟨_, he⟩⟩ := h
  · exact absurd (findPid_mem.2 hx) hp
  · exact ⟨he, hk⟩

set_option maxRecDepth 100000 in
theorem closure_any (a b : Wt) (w : World) : Calls Try.prog 23 #[.agg #[.int .i64 a.1, .int .i64 a.2], .agg #[.int .i64 b.1, .int .i64 b.2]] w fun e w' => e = .returned (.int .i64 (cmpW a b)) ∧ Keeps NoB w w' := by
  obtain ⟨a1, a2⟩ := a
  obtain ⟨b1, b2⟩ := b
  simp only
  have HB1 := hide ((Blk.new w 53 #[.int .i64 a1, .int .i64 a2]).alloc (.cells #[.int .i64 b1, .int .i64 b2] 53))
  have HB2 := hide (Blk.new (w.alloc (.cells #[.int .i64 a1, .int .i64 a2] 53)) 53 #[.int .i64 b1, .int .i64 b2])
  have HK0 := hide (((Keeps.refl NoB w).alloc (.cells #[.int .i64 a1, .int .i64 a2] 53)).alloc (.cells #[.int .i64 b1, .int .i64 b2] 53))
  have hs : (w.alloc (.cells #[.int .i64 a1, .int .i64 a2] 53)).heap.size = w.heap.size + 1 := by simp
  have HB2 := hide (show Blk _ (w.heap.size + 1) 53 #[.int .i64 b1, .int .i64 b2] from by rw [← hs]; exact HB2.out)
  clear hs
  go_enter Try.func23, Try.ntmps23
  go_wp2_with fail
  generalize (w.alloc (.cells #[.int .i64 a1, .int .i64 a2] 53)).alloc (.cells #[.int .i64 b1, .int .i64 b2] 53) = w0 at *
  refine order_begin (fun W => Keeps NoB w0 W) (fun _ => true) (by kernel_rfl) 13 rfl ?_
  have HS : Keeps NoB w0 w0.drew := (Keeps.refl _ _).drew
  have HA0 : w0.cell? ⟨w.heap.size, 0, none⟩ = some (.int .i64 a1) := HB1.out.cell 0
  have HA1 : w0.cell? ⟨w.heap.size, 1, none⟩ = some (.int .i64 a2) := HB1.out.cell 1
  have HC0 : w0.cell? ⟨w.heap.size + 1, 0, none⟩ = some (.int .i64 b1) := HB2.out.cell 0
  have HC1 : w0.cell? ⟨w.heap.size + 1, 1, none⟩ = some (.int .i64 b2) := HB2.out.cell 1
  have HA0 := hide HA0; have HA1 := hide HA1; have HC0 := hide HC0; have HC1 := hide HC1
  refine order_pure (i := 0) rfl (by kernel_rfl) (fun _ _ _ h => h) (.inl ⟨rfl, fun _ => by go_simp; rfl⟩) ?_
  try simp only [Act.put, List.setIfInBounds_toArray, List.set_cons_succ, List.set_cons_zero]
  refine order_held (i := 1) rfl (by kernel_rfl) (fun _ _ _ h => h) (.inl ⟨rfl, fun W hW => by
    have q0 : W.cell? ⟨w.heap.size, 0, none⟩ = some (.int .i64 a1) := hW.cell id HA0.out
    go_simp; rfl⟩) HS ?_
  try simp only [Act.put, List.setIfInBounds_toArray, List.set_cons_succ, List.set_cons_zero]
  refine order_pure (i := 2) rfl (by kernel_rfl) (fun _ _ _ h => h) (.inl ⟨rfl, fun _ => by go_simp; rfl⟩) ?_
  try simp only [Act.put, List.setIfInBounds_toArray, List.set_cons_succ, List.set_cons_zero]
  refine order_held (i := 3) rfl (by kernel_rfl) (fun _ _ _ h => h) (.inl ⟨rfl, fun W hW => by
    have q0 : W.cell? ⟨w.heap.size + 1, 0, none⟩ = some (.int .i64 b1) := hW.cell id HC0.out
    go_simp; rfl⟩) HS ?_
  try simp only [Act.put, List.setIfInBounds_toArray, List.set_cons_succ, List.set_cons_zero]
  refine order_pure (i := 5) rfl (by kernel_rfl) (fun _ _ _ h => h) (.inl ⟨rfl, fun _ => by go_simp; rfl⟩) ?_
  try simp only [Act.put, List.setIfInBounds_toArray, List.set_cons_succ, List.set_cons_zero]
  refine order_held (i := 6) rfl (by kernel_rfl) (fun _ _ _ h => h) (.inl ⟨rfl, fun W hW => by
    have q0 : W.cell? ⟨w.heap.size, 1, none⟩ = some (.int .i64 a2) := hW.cell id HA1.out
    go_simp; rfl⟩) HS ?_
  try simp only [Act.put, List.setIfInBounds_toArray, List.set_cons_succ, List.set_cons_zero]
  refine order_pure (i := 7) rfl (by kernel_rfl) (fun _ _ _ h => h) (.inl ⟨rfl, fun _ => by go_simp; rfl⟩) ?_
  try simp only [Act.put, List.setIfInBounds_toArray, List.set_cons_succ, List.set_cons_zero]
  refine order_held (i := 8) rfl (by kernel_rfl) (fun _ _ _ h => h) (.inl ⟨rfl, fun W hW => by
    have q0 : W.cell? ⟨w.heap.size + 1, 1, none⟩ = some (.int .i64 b2) := hW.cell id HC1.out
    go_simp; rfl⟩) HS ?_
  try simp only [Act.put, List.setIfInBounds_toArray, List.set_cons_succ, List.set_cons_zero]
  refine order_one (i := 4) rfl (by kernel_rfl) (fun K hK => ?_)
  go_simp
  refine (compare_any _ _ _).mono ?_
  rintro e w' ⟨rfl, rfl⟩
  refine hK _ _ (fun _ h => h) ?_
  clear hK
  try simp only [Act.put, List.setIfInBounds_toArray, List.set_cons_succ, List.set_cons_zero]
  refine order_one (i := 9) rfl (by kernel_rfl) (fun K hK => ?_)
  go_simp
  refine (compare_any _ _ _).mono ?_
  rintro e w' ⟨rfl, rfl⟩
  refine hK _ _ (fun _ h => h) ?_
  clear hK
  try simp only [Act.put, List.setIfInBounds_toArray, List.set_cons_succ, List.set_cons_zero]
  refine order_one (i := 10) rfl (by kernel_rfl) (fun K hK => ?_)
  go_simp
  refine hK _ _ (fun _ h => h.alloc _) ?_
  clear hK
  have hb3 := (Blk.new w0 3 #[.int .i64 (cmpI a1 b1), .int .i64 (cmpI a2 b2)]).drew
  have HK3 := hide ((HK0.out.alloc (.cells #[.int .i64 (cmpI a1 b1), .int .i64 (cmpI a2 b2)] 3)).drew)
  try simp only [Act.put, List.setIfInBounds_toArray, List.set_cons_succ, List.set_cons_zero]
  refine order_one (i := 11) rfl (by kernel_rfl) (fun K hK => ?_)
  go_simp
  refine (or_two _ _ _ _ _ (hb3.cell 0) (hb3.cell 1)).mono ?_
  rintro e w' ⟨rfl, rfl⟩
  refine hK _ _ (fun _ h => h) ?_
  clear hK
  try simp only [Act.put, List.setIfInBounds_toArray, List.set_cons_succ, List.set_cons_zero]
  refine order_pure (i := 12) rfl (by kernel_rfl) (fun _ _ _ h => h) (.inl ⟨rfl, fun _ => by go_simp; rfl⟩) ?_
  try simp only [Act.put, List.setIfInBounds_toArray, List.set_cons_succ, List.set_cons_zero]
  refine order_done (by kernel_rfl) ?_
  go_wp2
  go_ret
  exact ⟨rfl, HK3.out⟩
end Go.Proofs.Ytaiphjgklfioeaa
