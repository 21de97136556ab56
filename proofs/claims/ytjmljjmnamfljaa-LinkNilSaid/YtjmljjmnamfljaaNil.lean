/- pigeonholelaw14: LinkNil. -/
import Derived.Test.YtjmljjmnamfljaaAwake
namespace Go.Proofs.Ytjmljjmnamfljaa
open Go.RowKit Go.Maps

set_option maxRecDepth 100000 in
set_option maxHeartbeats 2000000 in
theorem link_nil (p q r : Int) (w : World) : Calls Try.prog 5 #[.int .i64 p, .int .i64 q, .int .i64 r] w (TrueK w) := by
  go_enter Try.func5, Try.ntmps5
  go_wp2_with fail
  refine (awake_any w).mono ?_
  rintro e w1 ⟨rfl, hk⟩
  have HK := hide hk
  clear hk
  go_wp2_with fail
  have HB1 := hide ((Blk.new w1 52 #[.map none, .map none]).alloc (.cells #[.pointer none, .pointer (some ⟨w1.heap.size, 0, none⟩)] 24))
  have hb2 := Blk.new (w1.alloc (.cells #[.map none, .map none] 52)) 24 #[.pointer none, .pointer (some ⟨w1.heap.size, 0, none⟩)]
  have HB2 := hide hb2
  have HK2 := hide ((HK.out.alloc (.cells #[.map none, .map none] 52)).alloc (.cells #[.pointer none, .pointer (some ⟨w1.heap.size, 0, none⟩)] 24))
  have HB2 := hide (show Blk _ (w1.heap.size + 1) 24 #[.pointer none, .pointer (some ⟨w1.heap.size, 0, none⟩)] from by have := HB2.out; simpa using this)
  clear hb2
  generalize (w1.alloc (.cells #[.map none, .map none] 52)).alloc (.cells #[.pointer none, .pointer (some ⟨w1.heap.size, 0, none⟩)] 24) = W at *
  generalize w1.heap.size + 1 = lb at *
  generalize w1.heap.size = ub at *
  have HU := hide (made_un W ub (HB1.out.cell 0))
  have HN := hide (made_nil W)
  go_loopg [9] 2 (fun g s wr => ∃ i : Nat, i ≤ 2 ∧ g = 2 - i ∧ s = .int .i64 i ∧ wr = W)
  case atStart => exact ⟨0, Nat.zero_le _, rfl, rfl, rfl⟩
  case round =>
    obtain ⟨i, hi, rfl, rfl, rfl⟩ := hrel
    rcases (by omega : i = 0 ∨ i = 1 ∨ i = 2) with rfl | rfl | rfl
    · have x0 : wr.cell? ⟨lb, 0, none⟩ = some (.pointer none) := HB2.out.cell 0
      go_wp2_with
        first
        | (go_at_call 16; refine (link_un HN.out p q).mono ?_; rintro e w' ⟨rfl, rfl⟩)
        | (go_at_call 14; refine (unlink_un HN.out p q).mono ?_; rintro e w' ⟨rfl, rfl⟩)
        | (go_at_call 15; refine (watch_un HN.out r p q).mono ?_; rintro e w' ⟨rfl, rfl⟩)
        | (go_at_call 22; refine (unwatch_un HN.out r p).mono ?_; rintro e w' ⟨rfl, rfl⟩)
        | (go_at_call 12; refine (of_un HN.out p).mono ?_; rintro e w' ⟨rfl, rfl⟩)
        | (go_at_call 13; refine (mons_un HN.out).mono ?_; rintro e w' ⟨rfl, rfl⟩)
        | (go_at_call 11; refine (end_un HN.out p).mono ?_; rintro e w' ⟨rfl, rfl⟩)
        | fail
      go_roundg 1
      case measure => omega
      case rel => exact ⟨1, by omega, rfl, rfl, rfl⟩
    · have x1 : wr.cell? ⟨lb, 1, none⟩ = some (.pointer (some ⟨ub, 0, none⟩)) := HB2.out.cell 1
      go_wp2_with
        first
        | (go_at_call 16; refine (link_un HU.out p q).mono ?_; rintro e w' ⟨rfl, rfl⟩)
        | (go_at_call 14; refine (unlink_un HU.out p q).mono ?_; rintro e w' ⟨rfl, rfl⟩)
        | (go_at_call 15; refine (watch_un HU.out r p q).mono ?_; rintro e w' ⟨rfl, rfl⟩)
        | (go_at_call 22; refine (unwatch_un HU.out r p).mono ?_; rintro e w' ⟨rfl, rfl⟩)
        | (go_at_call 12; refine (of_un HU.out p).mono ?_; rintro e w' ⟨rfl, rfl⟩)
        | (go_at_call 13; refine (mons_un HU.out).mono ?_; rintro e w' ⟨rfl, rfl⟩)
        | (go_at_call 11; refine (end_un HU.out p).mono ?_; rintro e w' ⟨rfl, rfl⟩)
        | fail
      go_roundg 0
      case measure => omega
      case rel => exact ⟨2, by omega, rfl, rfl, rfl⟩
    · go_wp2_with fail
      go_ret
      exact ⟨rfl, HK2.out⟩
end Go.Proofs.Ytjmljjmnamfljaa
