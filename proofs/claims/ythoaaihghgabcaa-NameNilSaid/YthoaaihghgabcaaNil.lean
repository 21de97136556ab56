/- pigeonholelaw15: NameNil. -/
import Derived.Test.YthoaaihghgabcaaAwake
namespace Go.Proofs.Ythoaaihghgabcaa
open Go.RowKit Go.Maps

set_option maxRecDepth 100000 in
set_option maxHeartbeats 2000000 in
theorem name_nil (s : ByteArray) (p : Int) (w : World) : Calls Try.prog 3 #[.string s, .int .i64 p] w (TrueK w) := by
  go_enter Try.func3, Try.ntmps3
  go_wp2_with fail
  refine (awake_any w).mono ?_
  rintro e w1 ⟨rfl, hk⟩
  have HK := hide hk
  clear hk
  go_wp2_with fail
  have HB1 := hide ((Blk.new w1 29 #[.map none, .map none]).alloc (.cells #[.pointer none, .pointer (some ⟨w1.heap.size, 0, none⟩)] 23))
  have hb2 := Blk.new (w1.alloc (.cells #[.map none, .map none] 29)) 23 #[.pointer none, .pointer (some ⟨w1.heap.size, 0, none⟩)]
  have HB2 := hide hb2
  have HK2 := hide ((HK.out.alloc (.cells #[.map none, .map none] 29)).alloc (.cells #[.pointer none, .pointer (some ⟨w1.heap.size, 0, none⟩)] 23))
  have HB2 := hide (show Blk _ (w1.heap.size + 1) 23 #[.pointer none, .pointer (some ⟨w1.heap.size, 0, none⟩)] from by have := HB2.out; simpa using this)
  clear hb2
  generalize (w1.alloc (.cells #[.map none, .map none] 29)).alloc (.cells #[.pointer none, .pointer (some ⟨w1.heap.size, 0, none⟩)] 23) = W at *
  generalize w1.heap.size + 1 = lb at *
  generalize w1.heap.size = ub at *
  have HU := hide (made_un W ub (HB1.out.cell 0))
  have HN := hide (made_nil W)
  go_loopg [7] 2 (fun g s wr => ∃ i : Nat, i ≤ 2 ∧ g = 2 - i ∧ s = .int .i64 i ∧ wr = W)
  case atStart => exact ⟨0, Nat.zero_le _, rfl, rfl, rfl⟩
  case round =>
    obtain ⟨i, hi, rfl, rfl, rfl⟩ := hrel
    rcases (by omega : i = 0 ∨ i = 1 ∨ i = 2) with rfl | rfl | rfl
    · have x0 : wr.cell? ⟨lb, 0, none⟩ = some (.pointer none) := HB2.out.cell 0
      go_wp2_with
        first
        | (go_at_call 6; refine (find_un HN.out s).mono ?_; rintro e w' ⟨rfl, rfl⟩)
        | (go_at_call 7; refine (put_un HN.out s p).mono ?_; rintro e w' ⟨rfl, rfl⟩)
        | (go_at_call 8; refine (take_un HN.out s).mono ?_; rintro e w' ⟨rfl, rfl⟩)
        | (go_at_call 9; refine (end_un HN.out p).mono ?_; rintro e w' ⟨rfl, rfl⟩)
        | (go_at_call 10; refine (all_un HN.out).mono ?_; rintro e w' ⟨rfl, rfl⟩)
        | fail
      go_roundg 1
      case measure => omega
      case rel => exact ⟨1, by omega, rfl, rfl, rfl⟩
    · have x1 : wr.cell? ⟨lb, 1, none⟩ = some (.pointer (some ⟨ub, 0, none⟩)) := HB2.out.cell 1
      go_wp2_with
        first
        | (go_at_call 6; refine (find_un HU.out s).mono ?_; rintro e w' ⟨rfl, rfl⟩)
        | (go_at_call 7; refine (put_un HU.out s p).mono ?_; rintro e w' ⟨rfl, rfl⟩)
        | (go_at_call 8; refine (take_un HU.out s).mono ?_; rintro e w' ⟨rfl, rfl⟩)
        | (go_at_call 9; refine (end_un HU.out p).mono ?_; rintro e w' ⟨rfl, rfl⟩)
        | (go_at_call 10; refine (all_un HU.out).mono ?_; rintro e w' ⟨rfl, rfl⟩)
        | fail
      go_roundg 0
      case measure => omega
      case rel => exact ⟨2, by omega, rfl, rfl, rfl⟩
    · go_wp2_with fail
      go_ret
      exact ⟨rfl, HK2.out⟩
end Go.Proofs.Ythoaaihghgabcaa
