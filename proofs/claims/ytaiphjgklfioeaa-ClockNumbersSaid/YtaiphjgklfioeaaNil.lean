/- pigeonholelaw16: ClockNil. -/
import Derived.Test.YtaiphjgklfioeaaAwake
namespace Go.Proofs.Ytaiphjgklfioeaa
open Go.RowKit

theorem Blk.new2 (w : World) (o : Obj) (t : TypeId) (cs : Array Value) : Blk ((w.alloc o).alloc (.cells cs t)) (w.heap.size + 1) t cs := by
  have := Blk.new (w.alloc o) t cs
  simpa using this

set_option maxRecDepth 100000 in
set_option maxHeartbeats 1000000 in
theorem clock_nil (pid n : Int) (w : World) : Calls Try.prog 5 #[.int .i64 pid, .int .i64 n] w fun e w' => e = .returned (.bool true) ∧ Keeps NoB w w' := by
  go_enter Try.func5, Try.ntmps5
  go_wp2_with
    first
    | (go_at_call 8
       refine (awake_any _).mono ?_
       rintro e w2 ⟨rfl, hbel⟩
       have HK1 := hide hbel
       clear hbel)
    | fail
  have HB := hide (show Blk ((w2.alloc (Obj.cells #[Value.int IntKind.i64 0, Value.bool false, Value.slice none 0 0] 47)).alloc (Obj.cells #[Value.pointer none, Value.pointer (some { block := w2.heap.size, off := 0 })] 24)) w2.heap.size 47 #[.int .i64 0, .bool false, .slice none 0 0] from (Blk.new w2 47 _).alloc _)
  have HA := hide (show Blk ((w2.alloc (Obj.cells #[Value.int IntKind.i64 0, Value.bool false, Value.slice none 0 0] 47)).alloc (Obj.cells #[Value.pointer none, Value.pointer (some { block := w2.heap.size, off := 0 })] 24)) (w2.heap.size + 1) 24 #[.pointer none, .pointer (some ⟨w2.heap.size, 0, none⟩)] from Blk.new2 w2 _ _ _)
  have HK := hide ((HK1.out.alloc _).alloc _ : Keeps NoB w ((w2.alloc (Obj.cells #[Value.int IntKind.i64 0, Value.bool false, Value.slice none 0 0] 47)).alloc (Obj.cells #[Value.pointer none, Value.pointer (some { block := w2.heap.size, off := 0 })] 24)))
  generalize ((w2.alloc (Obj.cells #[Value.int IntKind.i64 0, Value.bool false, Value.slice none 0 0] 47)).alloc (Obj.cells #[Value.pointer none, Value.pointer (some { block := w2.heap.size, off := 0 })] 24)) = W3 at *
  generalize w2.heap.size = g at *
  clear HK1 w2
  go_loopw [7] (fun i wr => ∃ k : Nat, k ≤ 2 ∧ i = .int .i64 k ∧ Keeps NoB W3 wr) (fun i _ => 2 - (intOf i).toNat)
  case atStart => exact ⟨0, by omega, rfl, Keeps.refl _ _⟩
  case round =>
    obtain ⟨k, hk, rfl, hkw⟩ := hrel
    have HR := hide hkw; clear hkw
    rcases (by omega : k = 0 ∨ k = 1 ∨ k = 2) with rfl | rfl | rfl
    · have a0 : wr.cell? ⟨g + 1, 0, none⟩ = some (.pointer none) := (HA.out.keep HR.out id).cell 0
      go_wp2_with
        first
        | (go_at_call 12; refine (tick_nil _ _).mono ?_; rintro e w' ⟨rfl, rfl⟩)
        | (go_at_call 16; refine (now_nil _).mono ?_; rintro e w' ⟨rfl, rfl⟩)
        | (go_at_call 11; refine (set_nil _ _ _).mono ?_; rintro e w' ⟨rfl, rfl⟩)
        | (go_at_call 19; refine (drop_nil _ _).mono ?_; rintro e w' ⟨rfl, rfl⟩)
        | (go_at_call 14; refine (waits_nil _).mono ?_; rintro e w' ⟨rfl, rfl⟩)
        | fail
      go_roundw
      case rel => exact ⟨1, by omega, by go_num, HR.out⟩
      case measure => simp [intOf]
    · have a0 : wr.cell? ⟨g + 1, 1, none⟩ = some (.pointer (some ⟨g, 0, none⟩)) := (HA.out.keep HR.out id).cell 1
      have b1 : wr.cell? ⟨g, 1, none⟩ = some (.bool false) := (HB.out.keep HR.out id).cell 1
      go_wp2_with
        first
        | (go_at_call 12; refine (tick_unmade _ _ _ b1).mono ?_; rintro e w' ⟨rfl, rfl⟩)
        | (go_at_call 16; refine (now_unmade _ _ b1).mono ?_; rintro e w' ⟨rfl, rfl⟩)
        | (go_at_call 11; refine (set_unmade _ _ _ _ b1).mono ?_; rintro e w' ⟨rfl, rfl⟩)
        | (go_at_call 19; refine (drop_unmade _ _ _ b1).mono ?_; rintro e w' ⟨rfl, rfl⟩)
        | (go_at_call 14; refine (waits_unmade _ _ b1).mono ?_; rintro e w' ⟨rfl, rfl⟩)
        | fail
      go_roundw
      case rel => exact ⟨2, by omega, by go_num, HR.out⟩
      case measure => simp [intOf]
    · go_wp2
      go_ret
      exact ⟨rfl, HK.out.trans' HR.out (fun _ _ => id) (fun _ _ => id)⟩
end Go.Proofs.Ytaiphjgklfioeaa
