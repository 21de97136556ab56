/- pigeonholekit: lists of lists that are none lie apart. -/
import Derived.Test.YtaiphjgklfioeaaKitInts
import Derived.OwnWalk
namespace Go.Proofs.Ytaiphjgklfioeaa
open Go.RowKit

theorem Try.infoE111 : (Try.prog.info? 111).map (fun i => (i.zero, i.size, i.bytes)) = some (some (.slice none 0 0), 1, 24) := by kernel_rfl
set_option maxRecDepth 100000 in
theorem flat40 (w : World) : Calls Try.prog 40 #[.slice none 0 0] w fun e w' => e = .returned (.bool true) ∧ Keeps NoB w w' := by
  obtain ⟨i0, hi0, hz0, hz1, hz2⟩ := info_parts Try.infoE111
  have hb := hide (show i0.bytes * 0 ≤ 281474976710656 from by omega)
  go_enter Try.func40, Try.ntmps40
  go_wp2
  go_loopw [3] (fun i wr => i = .int .i64 0 ∧ Keeps NoB w wr) (fun _ _ => 0)
  case atStart => exact ⟨rfl, Keeps.refl _ _⟩
  case round =>
    obtain ⟨rfl, hk⟩ := hrel
    have HK := hide hk
    clear hk
    go_wp2_with (refine wpList_make_full _ rfl _ _ 64 rfl wr.heap.size 111 i0 _ 1 Try.underlying64 hi0 hz0 hz1 .i64 .i64 0 0 0 rfl rfl rfl rfl hb.out (Nat.zero_le _) (Nat.le_refl _) ?_)
    intro w2 _ hg
    have HK := hide (HK.out.grown hg (fun k h _ => by cases h))
    clear hg
    go_wp2
    go_loopw [6] (fun i wr => i = .int .i64 0 ∧ Keeps NoB w wr) (fun _ _ => 0)
    case atStart => exact ⟨rfl, HK.out⟩
    case round =>
      obtain ⟨rfl, hk⟩ := hrel
      have HK := hide hk
      clear hk
      go_wp2
      go_loopw [9] (fun i wr => i = .int .i64 0 ∧ Keeps NoB w wr) (fun _ _ => 0)
      case atStart => exact ⟨rfl, HK.out⟩
      case round =>
        obtain ⟨rfl, hk⟩ := hrel
        have HK := hide hk
        clear hk
        go_wp2
        go_loopw [11] (fun i wr => i = .int .i64 0 ∧ Keeps NoB w wr) (fun _ _ => 0)
        case atStart => exact ⟨rfl, HK.out⟩
        case round =>
          obtain ⟨rfl, hk⟩ := hrel
          have HK := hide hk
          clear hk
          go_wp2
          go_loopw [14] (fun i wr => i = .int .i64 0 ∧ Keeps NoB w wr) (fun _ _ => 0)
          case atStart => exact ⟨rfl, HK.out⟩
          case round =>
            obtain ⟨rfl, hk⟩ := hrel
            have HK := hide hk
            clear hk
            go_wp2
            go_ret
            exact ⟨rfl, HK.out⟩

theorem Try.infoE113 : (Try.prog.info? 113).map (fun i => (i.zero, i.size, i.bytes)) = some (some (.slice none 0 0), 1, 24) := by kernel_rfl
set_option maxRecDepth 100000 in
theorem flat41 (w : World) : Calls Try.prog 41 #[.slice none 0 0] w fun e w' => e = .returned (.bool true) ∧ Keeps NoB w w' := by
  obtain ⟨i0, hi0, hz0, hz1, hz2⟩ := info_parts Try.infoE113
  have hb := hide (show i0.bytes * 0 ≤ 281474976710656 from by omega)
  go_enter Try.func41, Try.ntmps41
  go_wp2
  go_loopw [3] (fun i wr => i = .int .i64 0 ∧ Keeps NoB w wr) (fun _ _ => 0)
  case atStart => exact ⟨rfl, Keeps.refl _ _⟩
  case round =>
    obtain ⟨rfl, hk⟩ := hrel
    have HK := hide hk
    clear hk
    go_wp2_with (refine wpList_make_full _ rfl _ _ 65 rfl wr.heap.size 113 i0 _ 1 Try.underlying65 hi0 hz0 hz1 .i64 .i64 0 0 0 rfl rfl rfl rfl hb.out (Nat.zero_le _) (Nat.le_refl _) ?_)
    intro w2 _ hg
    have HK := hide (HK.out.grown hg (fun k h _ => by cases h))
    clear hg
    go_wp2
    go_loopw [6] (fun i wr => i = .int .i64 0 ∧ Keeps NoB w wr) (fun _ _ => 0)
    case atStart => exact ⟨rfl, HK.out⟩
    case round =>
      obtain ⟨rfl, hk⟩ := hrel
      have HK := hide hk
      clear hk
      go_wp2
      go_loopw [9] (fun i wr => i = .int .i64 0 ∧ Keeps NoB w wr) (fun _ _ => 0)
      case atStart => exact ⟨rfl, HK.out⟩
      case round =>
        obtain ⟨rfl, hk⟩ := hrel
        have HK := hide hk
        clear hk
        go_wp2
        go_loopw [11] (fun i wr => i = .int .i64 0 ∧ Keeps NoB w wr) (fun _ _ => 0)
        case atStart => exact ⟨rfl, HK.out⟩
        case round =>
          obtain ⟨rfl, hk⟩ := hrel
          have HK := hide hk
          clear hk
          go_wp2
          go_loopw [14] (fun i wr => i = .int .i64 0 ∧ Keeps NoB w wr) (fun _ _ => 0)
          case atStart => exact ⟨rfl, HK.out⟩
          case round =>
            obtain ⟨rfl, hk⟩ := hrel
            have HK := hide hk
            clear hk
            go_wp2
            go_ret
            exact ⟨rfl, HK.out⟩

theorem Try.infoE115 : (Try.prog.info? 115).map (fun i => (i.zero, i.size, i.bytes)) = some (some (.slice none 0 0), 1, 24) := by kernel_rfl
set_option maxRecDepth 100000 in
theorem flat43 (w : World) : Calls Try.prog 43 #[.slice none 0 0] w fun e w' => e = .returned (.bool true) ∧ Keeps NoB w w' := by
  obtain ⟨i0, hi0, hz0, hz1, hz2⟩ := info_parts Try.infoE115
  have hb := hide (show i0.bytes * 0 ≤ 281474976710656 from by omega)
  go_enter Try.func43, Try.ntmps43
  go_wp2
  go_loopw [3] (fun i wr => i = .int .i64 0 ∧ Keeps NoB w wr) (fun _ _ => 0)
  case atStart => exact ⟨rfl, Keeps.refl _ _⟩
  case round =>
    obtain ⟨rfl, hk⟩ := hrel
    have HK := hide hk
    clear hk
    go_wp2_with (refine wpList_make_full _ rfl _ _ 66 rfl wr.heap.size 115 i0 _ 1 Try.underlying66 hi0 hz0 hz1 .i64 .i64 0 0 0 rfl rfl rfl rfl hb.out (Nat.zero_le _) (Nat.le_refl _) ?_)
    intro w2 _ hg
    have HK := hide (HK.out.grown hg (fun k h _ => by cases h))
    clear hg
    go_wp2
    go_loopw [6] (fun i wr => i = .int .i64 0 ∧ Keeps NoB w wr) (fun _ _ => 0)
    case atStart => exact ⟨rfl, HK.out⟩
    case round =>
      obtain ⟨rfl, hk⟩ := hrel
      have HK := hide hk
      clear hk
      go_wp2
      go_loopw [9] (fun i wr => i = .int .i64 0 ∧ Keeps NoB w wr) (fun _ _ => 0)
      case atStart => exact ⟨rfl, HK.out⟩
      case round =>
        obtain ⟨rfl, hk⟩ := hrel
        have HK := hide hk
        clear hk
        go_wp2
        go_loopw [11] (fun i wr => i = .int .i64 0 ∧ Keeps NoB w wr) (fun _ _ => 0)
        case atStart => exact ⟨rfl, HK.out⟩
        case round =>
          obtain ⟨rfl, hk⟩ := hrel
          have HK := hide hk
          clear hk
          go_wp2
          go_loopw [14] (fun i wr => i = .int .i64 0 ∧ Keeps NoB w wr) (fun _ _ => 0)
          case atStart => exact ⟨rfl, HK.out⟩
          case round =>
            obtain ⟨rfl, hk⟩ := hrel
            have HK := hide hk
            clear hk
            go_wp2
            go_ret
            exact ⟨rfl, HK.out⟩

theorem Try.infoE116 : (Try.prog.info? 116).map (fun i => (i.zero, i.size, i.bytes)) = some (some (.slice none 0 0), 1, 24) := by kernel_rfl
set_option maxRecDepth 100000 in
theorem flat44 (w : World) : Calls Try.prog 44 #[.slice none 0 0] w fun e w' => e = .returned (.bool true) ∧ Keeps NoB w w' := by
  obtain ⟨i0, hi0, hz0, hz1, hz2⟩ := info_parts Try.infoE116
  have hb := hide (show i0.bytes * 0 ≤ 281474976710656 from by omega)
  go_enter Try.func44, Try.ntmps44
  go_wp2
  go_loopw [3] (fun i wr => i = .int .i64 0 ∧ Keeps NoB w wr) (fun _ _ => 0)
  case atStart => exact ⟨rfl, Keeps.refl _ _⟩
  case round =>
    obtain ⟨rfl, hk⟩ := hrel
    have HK := hide hk
    clear hk
    go_wp2_with (refine wpList_make_full _ rfl _ _ 67 rfl wr.heap.size 116 i0 _ 1 Try.underlying67 hi0 hz0 hz1 .i64 .i64 0 0 0 rfl rfl rfl rfl hb.out (Nat.zero_le _) (Nat.le_refl _) ?_)
    intro w2 _ hg
    have HK := hide (HK.out.grown hg (fun k h _ => by cases h))
    clear hg
    go_wp2
    go_loopw [6] (fun i wr => i = .int .i64 0 ∧ Keeps NoB w wr) (fun _ _ => 0)
    case atStart => exact ⟨rfl, HK.out⟩
    case round =>
      obtain ⟨rfl, hk⟩ := hrel
      have HK := hide hk
      clear hk
      go_wp2
      go_loopw [9] (fun i wr => i = .int .i64 0 ∧ Keeps NoB w wr) (fun _ _ => 0)
      case atStart => exact ⟨rfl, HK.out⟩
      case round =>
        obtain ⟨rfl, hk⟩ := hrel
        have HK := hide hk
        clear hk
        go_wp2
        go_loopw [11] (fun i wr => i = .int .i64 0 ∧ Keeps NoB w wr) (fun _ _ => 0)
        case atStart => exact ⟨rfl, HK.out⟩
        case round =>
          obtain ⟨rfl, hk⟩ := hrel
          have HK := hide hk
          clear hk
          go_wp2
          go_loopw [14] (fun i wr => i = .int .i64 0 ∧ Keeps NoB w wr) (fun _ _ => 0)
          case atStart => exact ⟨rfl, HK.out⟩
          case round =>
            obtain ⟨rfl, hk⟩ := hrel
            have HK := hide hk
            clear hk
            go_wp2
            go_ret
            exact ⟨rfl, HK.out⟩

theorem Try.infoE118 : (Try.prog.info? 118).map (fun i => (i.zero, i.size, i.bytes)) = some (some (.slice none 0 0), 1, 24) := by kernel_rfl
set_option maxRecDepth 100000 in
theorem flat45 (w : World) : Calls Try.prog 45 #[.slice none 0 0] w fun e w' => e = .returned (.bool true) ∧ Keeps NoB w w' := by
  obtain ⟨i0, hi0, hz0, hz1, hz2⟩ := info_parts Try.infoE118
  have hb := hide (show i0.bytes * 0 ≤ 281474976710656 from by omega)
  go_enter Try.func45, Try.ntmps45
  go_wp2
  go_loopw [3] (fun i wr => i = .int .i64 0 ∧ Keeps NoB w wr) (fun _ _ => 0)
  case atStart => exact ⟨rfl, Keeps.refl _ _⟩
  case round =>
    obtain ⟨rfl, hk⟩ := hrel
    have HK := hide hk
    clear hk
    go_wp2_with (refine wpList_make_full _ rfl _ _ 68 rfl wr.heap.size 118 i0 _ 1 Try.underlying68 hi0 hz0 hz1 .i64 .i64 0 0 0 rfl rfl rfl rfl hb.out (Nat.zero_le _) (Nat.le_refl _) ?_)
    intro w2 _ hg
    have HK := hide (HK.out.grown hg (fun k h _ => by cases h))
    clear hg
    go_wp2
    go_loopw [6] (fun i wr => i = .int .i64 0 ∧ Keeps NoB w wr) (fun _ _ => 0)
    case atStart => exact ⟨rfl, HK.out⟩
    case round =>
      obtain ⟨rfl, hk⟩ := hrel
      have HK := hide hk
      clear hk
      go_wp2
      go_loopw [9] (fun i wr => i = .int .i64 0 ∧ Keeps NoB w wr) (fun _ _ => 0)
      case atStart => exact ⟨rfl, HK.out⟩
      case round =>
        obtain ⟨rfl, hk⟩ := hrel
        have HK := hide hk
        clear hk
        go_wp2
        go_loopw [11] (fun i wr => i = .int .i64 0 ∧ Keeps NoB w wr) (fun _ _ => 0)
        case atStart => exact ⟨rfl, HK.out⟩
        case round =>
          obtain ⟨rfl, hk⟩ := hrel
          have HK := hide hk
          clear hk
          go_wp2
          go_loopw [14] (fun i wr => i = .int .i64 0 ∧ Keeps NoB w wr) (fun _ _ => 0)
          case atStart => exact ⟨rfl, HK.out⟩
          case round =>
            obtain ⟨rfl, hk⟩ := hrel
            have HK := hide hk
            clear hk
            go_wp2
            go_ret
            exact ⟨rfl, HK.out⟩

theorem Try.infoE120 : (Try.prog.info? 120).map (fun i => (i.zero, i.size, i.bytes)) = some (some (.slice none 0 0), 1, 24) := by kernel_rfl
set_option maxRecDepth 100000 in
theorem flat46 (w : World) : Calls Try.prog 46 #[.slice none 0 0] w fun e w' => e = .returned (.bool true) ∧ Keeps NoB w w' := by
  obtain ⟨i0, hi0, hz0, hz1, hz2⟩ := info_parts Try.infoE120
  have hb := hide (show i0.bytes * 0 ≤ 281474976710656 from by omega)
  go_enter Try.func46, Try.ntmps46
  go_wp2
  go_loopw [3] (fun i wr => i = .int .i64 0 ∧ Keeps NoB w wr) (fun _ _ => 0)
  case atStart => exact ⟨rfl, Keeps.refl _ _⟩
  case round =>
    obtain ⟨rfl, hk⟩ := hrel
    have HK := hide hk
    clear hk
    go_wp2_with (refine wpList_make_full _ rfl _ _ 69 rfl wr.heap.size 120 i0 _ 1 Try.underlying69 hi0 hz0 hz1 .i64 .i64 0 0 0 rfl rfl rfl rfl hb.out (Nat.zero_le _) (Nat.le_refl _) ?_)
    intro w2 _ hg
    have HK := hide (HK.out.grown hg (fun k h _ => by cases h))
    clear hg
    go_wp2
    go_loopw [6] (fun i wr => i = .int .i64 0 ∧ Keeps NoB w wr) (fun _ _ => 0)
    case atStart => exact ⟨rfl, HK.out⟩
    case round =>
      obtain ⟨rfl, hk⟩ := hrel
      have HK := hide hk
      clear hk
      go_wp2
      go_loopw [9] (fun i wr => i = .int .i64 0 ∧ Keeps NoB w wr) (fun _ _ => 0)
      case atStart => exact ⟨rfl, HK.out⟩
      case round =>
        obtain ⟨rfl, hk⟩ := hrel
        have HK := hide hk
        clear hk
        go_wp2
        go_loopw [11] (fun i wr => i = .int .i64 0 ∧ Keeps NoB w wr) (fun _ _ => 0)
        case atStart => exact ⟨rfl, HK.out⟩
        case round =>
          obtain ⟨rfl, hk⟩ := hrel
          have HK := hide hk
          clear hk
          go_wp2
          go_loopw [14] (fun i wr => i = .int .i64 0 ∧ Keeps NoB w wr) (fun _ _ => 0)
          case atStart => exact ⟨rfl, HK.out⟩
          case round =>
            obtain ⟨rfl, hk⟩ := hrel
            have HK := hide hk
            clear hk
            go_wp2
            go_ret
            exact ⟨rfl, HK.out⟩

theorem Try.infoE125 : (Try.prog.info? 125).map (fun i => (i.zero, i.size, i.bytes)) = some (some (.slice none 0 0), 1, 24) := by kernel_rfl
set_option maxRecDepth 100000 in
theorem flat47 (w : World) : Calls Try.prog 47 #[.slice none 0 0] w fun e w' => e = .returned (.bool true) ∧ Keeps NoB w w' := by
  obtain ⟨i0, hi0, hz0, hz1, hz2⟩ := info_parts Try.infoE125
  have hb := hide (show i0.bytes * 0 ≤ 281474976710656 from by omega)
  go_enter Try.func47, Try.ntmps47
  go_wp2
  go_loopw [3] (fun i wr => i = .int .i64 0 ∧ Keeps NoB w wr) (fun _ _ => 0)
  case atStart => exact ⟨rfl, Keeps.refl _ _⟩
  case round =>
    obtain ⟨rfl, hk⟩ := hrel
    have HK := hide hk
    clear hk
    go_wp2_with (refine wpList_make_full _ rfl _ _ 70 rfl wr.heap.size 125 i0 _ 1 Try.underlying70 hi0 hz0 hz1 .i64 .i64 0 0 0 rfl rfl rfl rfl hb.out (Nat.zero_le _) (Nat.le_refl _) ?_)
    intro w2 _ hg
    have HK := hide (HK.out.grown hg (fun k h _ => by cases h))
    clear hg
    go_wp2
    go_loopw [6] (fun i wr => i = .int .i64 0 ∧ Keeps NoB w wr) (fun _ _ => 0)
    case atStart => exact ⟨rfl, HK.out⟩
    case round =>
      obtain ⟨rfl, hk⟩ := hrel
      have HK := hide hk
      clear hk
      go_wp2
      go_loopw [9] (fun i wr => i = .int .i64 0 ∧ Keeps NoB w wr) (fun _ _ => 0)
      case atStart => exact ⟨rfl, HK.out⟩
      case round =>
        obtain ⟨rfl, hk⟩ := hrel
        have HK := hide hk
        clear hk
        go_wp2
        go_loopw [11] (fun i wr => i = .int .i64 0 ∧ Keeps NoB w wr) (fun _ _ => 0)
        case atStart => exact ⟨rfl, HK.out⟩
        case round =>
          obtain ⟨rfl, hk⟩ := hrel
          have HK := hide hk
          clear hk
          go_wp2
          go_loopw [14] (fun i wr => i = .int .i64 0 ∧ Keeps NoB w wr) (fun _ _ => 0)
          case atStart => exact ⟨rfl, HK.out⟩
          case round =>
            obtain ⟨rfl, hk⟩ := hrel
            have HK := hide hk
            clear hk
            go_wp2
            go_ret
            exact ⟨rfl, HK.out⟩

theorem Try.infoE131 : (Try.prog.info? 131).map (fun i => (i.zero, i.size, i.bytes)) = some (some (.slice none 0 0), 1, 24) := by kernel_rfl
set_option maxRecDepth 100000 in
theorem flat48 (w : World) : Calls Try.prog 48 #[.slice none 0 0] w fun e w' => e = .returned (.bool true) ∧ Keeps NoB w w' := by
  obtain ⟨i0, hi0, hz0, hz1, hz2⟩ := info_parts Try.infoE131
  have hb := hide (show i0.bytes * 0 ≤ 281474976710656 from by omega)
  go_enter Try.func48, Try.ntmps48
  go_wp2
  go_loopw [3] (fun i wr => i = .int .i64 0 ∧ Keeps NoB w wr) (fun _ _ => 0)
  case atStart => exact ⟨rfl, Keeps.refl _ _⟩
  case round =>
    obtain ⟨rfl, hk⟩ := hrel
    have HK := hide hk
    clear hk
    go_wp2_with (refine wpList_make_full _ rfl _ _ 71 rfl wr.heap.size 131 i0 _ 1 Try.underlying71 hi0 hz0 hz1 .i64 .i64 0 0 0 rfl rfl rfl rfl hb.out (Nat.zero_le _) (Nat.le_refl _) ?_)
    intro w2 _ hg
    have HK := hide (HK.out.grown hg (fun k h _ => by cases h))
    clear hg
    go_wp2
    go_loopw [6] (fun i wr => i = .int .i64 0 ∧ Keeps NoB w wr) (fun _ _ => 0)
    case atStart => exact ⟨rfl, HK.out⟩
    case round =>
      obtain ⟨rfl, hk⟩ := hrel
      have HK := hide hk
      clear hk
      go_wp2
      go_loopw [9] (fun i wr => i = .int .i64 0 ∧ Keeps NoB w wr) (fun _ _ => 0)
      case atStart => exact ⟨rfl, HK.out⟩
      case round =>
        obtain ⟨rfl, hk⟩ := hrel
        have HK := hide hk
        clear hk
        go_wp2
        go_loopw [11] (fun i wr => i = .int .i64 0 ∧ Keeps NoB w wr) (fun _ _ => 0)
        case atStart => exact ⟨rfl, HK.out⟩
        case round =>
          obtain ⟨rfl, hk⟩ := hrel
          have HK := hide hk
          clear hk
          go_wp2
          go_loopw [14] (fun i wr => i = .int .i64 0 ∧ Keeps NoB w wr) (fun _ _ => 0)
          case atStart => exact ⟨rfl, HK.out⟩
          case round =>
            obtain ⟨rfl, hk⟩ := hrel
            have HK := hide hk
            clear hk
            go_wp2
            go_ret
            exact ⟨rfl, HK.out⟩

theorem Try.infoE136 : (Try.prog.info? 136).map (fun i => (i.zero, i.size, i.bytes)) = some (some (.slice none 0 0), 1, 24) := by kernel_rfl
set_option maxRecDepth 100000 in
theorem flat49 (w : World) : Calls Try.prog 49 #[.slice none 0 0] w fun e w' => e = .returned (.bool true) ∧ Keeps NoB w w' := by
  obtain ⟨i0, hi0, hz0, hz1, hz2⟩ := info_parts Try.infoE136
  have hb := hide (show i0.bytes * 0 ≤ 281474976710656 from by omega)
  go_enter Try.func49, Try.ntmps49
  go_wp2
  go_loopw [3] (fun i wr => i = .int .i64 0 ∧ Keeps NoB w wr) (fun _ _ => 0)
  case atStart => exact ⟨rfl, Keeps.refl _ _⟩
  case round =>
    obtain ⟨rfl, hk⟩ := hrel
    have HK := hide hk
    clear hk
    go_wp2_with (refine wpList_make_full _ rfl _ _ 72 rfl wr.heap.size 136 i0 _ 1 Try.underlying72 hi0 hz0 hz1 .i64 .i64 0 0 0 rfl rfl rfl rfl hb.out (Nat.zero_le _) (Nat.le_refl _) ?_)
    intro w2 _ hg
    have HK := hide (HK.out.grown hg (fun k h _ => by cases h))
    clear hg
    go_wp2
    go_loopw [6] (fun i wr => i = .int .i64 0 ∧ Keeps NoB w wr) (fun _ _ => 0)
    case atStart => exact ⟨rfl, HK.out⟩
    case round =>
      obtain ⟨rfl, hk⟩ := hrel
      have HK := hide hk
      clear hk
      go_wp2
      go_loopw [9] (fun i wr => i = .int .i64 0 ∧ Keeps NoB w wr) (fun _ _ => 0)
      case atStart => exact ⟨rfl, HK.out⟩
      case round =>
        obtain ⟨rfl, hk⟩ := hrel
        have HK := hide hk
        clear hk
        go_wp2
        go_loopw [11] (fun i wr => i = .int .i64 0 ∧ Keeps NoB w wr) (fun _ _ => 0)
        case atStart => exact ⟨rfl, HK.out⟩
        case round =>
          obtain ⟨rfl, hk⟩ := hrel
          have HK := hide hk
          clear hk
          go_wp2
          go_loopw [14] (fun i wr => i = .int .i64 0 ∧ Keeps NoB w wr) (fun _ _ => 0)
          case atStart => exact ⟨rfl, HK.out⟩
          case round =>
            obtain ⟨rfl, hk⟩ := hrel
            have HK := hide hk
            clear hk
            go_wp2
            go_ret
            exact ⟨rfl, HK.out⟩

theorem Try.infoE142 : (Try.prog.info? 142).map (fun i => (i.zero, i.size, i.bytes)) = some (some (.slice none 0 0), 1, 24) := by kernel_rfl
set_option maxRecDepth 100000 in
theorem flat50 (w : World) : Calls Try.prog 50 #[.slice none 0 0] w fun e w' => e = .returned (.bool true) ∧ Keeps NoB w w' := by
  obtain ⟨i0, hi0, hz0, hz1, hz2⟩ := info_parts Try.infoE142
  have hb := hide (show i0.bytes * 0 ≤ 281474976710656 from by omega)
  go_enter Try.func50, Try.ntmps50
  go_wp2
  go_loopw [3] (fun i wr => i = .int .i64 0 ∧ Keeps NoB w wr) (fun _ _ => 0)
  case atStart => exact ⟨rfl, Keeps.refl _ _⟩
  case round =>
    obtain ⟨rfl, hk⟩ := hrel
    have HK := hide hk
    clear hk
    go_wp2_with (refine wpList_make_full _ rfl _ _ 73 rfl wr.heap.size 142 i0 _ 1 Try.underlying73 hi0 hz0 hz1 .i64 .i64 0 0 0 rfl rfl rfl rfl hb.out (Nat.zero_le _) (Nat.le_refl _) ?_)
    intro w2 _ hg
    have HK := hide (HK.out.grown hg (fun k h _ => by cases h))
    clear hg
    go_wp2
    go_loopw [6] (fun i wr => i = .int .i64 0 ∧ Keeps NoB w wr) (fun _ _ => 0)
    case atStart => exact ⟨rfl, HK.out⟩
    case round =>
      obtain ⟨rfl, hk⟩ := hrel
      have HK := hide hk
      clear hk
      go_wp2
      go_loopw [9] (fun i wr => i = .int .i64 0 ∧ Keeps NoB w wr) (fun _ _ => 0)
      case atStart => exact ⟨rfl, HK.out⟩
      case round =>
        obtain ⟨rfl, hk⟩ := hrel
        have HK := hide hk
        clear hk
        go_wp2
        go_loopw [11] (fun i wr => i = .int .i64 0 ∧ Keeps NoB w wr) (fun _ _ => 0)
        case atStart => exact ⟨rfl, HK.out⟩
        case round =>
          obtain ⟨rfl, hk⟩ := hrel
          have HK := hide hk
          clear hk
          go_wp2
          go_loopw [14] (fun i wr => i = .int .i64 0 ∧ Keeps NoB w wr) (fun _ _ => 0)
          case atStart => exact ⟨rfl, HK.out⟩
          case round =>
            obtain ⟨rfl, hk⟩ := hrel
            have HK := hide hk
            clear hk
            go_wp2
            go_ret
            exact ⟨rfl, HK.out⟩

theorem Try.infoE148 : (Try.prog.info? 148).map (fun i => (i.zero, i.size, i.bytes)) = some (some (.slice none 0 0), 1, 24) := by kernel_rfl
set_option maxRecDepth 100000 in
theorem flat51 (w : World) : Calls Try.prog 51 #[.slice none 0 0] w fun e w' => e = .returned (.bool true) ∧ Keeps NoB w w' := by
  obtain ⟨i0, hi0, hz0, hz1, hz2⟩ := info_parts Try.infoE148
  have hb := hide (show i0.bytes * 0 ≤ 281474976710656 from by omega)
  go_enter Try.func51, Try.ntmps51
  go_wp2
  go_loopw [3] (fun i wr => i = .int .i64 0 ∧ Keeps NoB w wr) (fun _ _ => 0)
  case atStart => exact ⟨rfl, Keeps.refl _ _⟩
  case round =>
    obtain ⟨rfl, hk⟩ := hrel
    have HK := hide hk
    clear hk
    go_wp2_with (refine wpList_make_full _ rfl _ _ 74 rfl wr.heap.size 148 i0 _ 1 Try.underlying74 hi0 hz0 hz1 .i64 .i64 0 0 0 rfl rfl rfl rfl hb.out (Nat.zero_le _) (Nat.le_refl _) ?_)
    intro w2 _ hg
    have HK := hide (HK.out.grown hg (fun k h _ => by cases h))
    clear hg
    go_wp2
    go_loopw [6] (fun i wr => i = .int .i64 0 ∧ Keeps NoB w wr) (fun _ _ => 0)
    case atStart => exact ⟨rfl, HK.out⟩
    case round =>
      obtain ⟨rfl, hk⟩ := hrel
      have HK := hide hk
      clear hk
      go_wp2
      go_loopw [9] (fun i wr => i = .int .i64 0 ∧ Keeps NoB w wr) (fun _ _ => 0)
      case atStart => exact ⟨rfl, HK.out⟩
      case round =>
        obtain ⟨rfl, hk⟩ := hrel
        have HK := hide hk
        clear hk
        go_wp2
        go_loopw [11] (fun i wr => i = .int .i64 0 ∧ Keeps NoB w wr) (fun _ _ => 0)
        case atStart => exact ⟨rfl, HK.out⟩
        case round =>
          obtain ⟨rfl, hk⟩ := hrel
          have HK := hide hk
          clear hk
          go_wp2
          go_loopw [14] (fun i wr => i = .int .i64 0 ∧ Keeps NoB w wr) (fun _ _ => 0)
          case atStart => exact ⟨rfl, HK.out⟩
          case round =>
            obtain ⟨rfl, hk⟩ := hrel
            have HK := hide hk
            clear hk
            go_wp2
            go_ret
            exact ⟨rfl, HK.out⟩

theorem Try.infoE153 : (Try.prog.info? 153).map (fun i => (i.zero, i.size, i.bytes)) = some (some (.slice none 0 0), 1, 24) := by kernel_rfl
set_option maxRecDepth 100000 in
theorem flat52 (w : World) : Calls Try.prog 52 #[.slice none 0 0] w fun e w' => e = .returned (.bool true) ∧ Keeps NoB w w' := by
  obtain ⟨i0, hi0, hz0, hz1, hz2⟩ := info_parts Try.infoE153
  have hb := hide (show i0.bytes * 0 ≤ 281474976710656 from by omega)
  go_enter Try.func52, Try.ntmps52
  go_wp2
  go_loopw [3] (fun i wr => i = .int .i64 0 ∧ Keeps NoB w wr) (fun _ _ => 0)
  case atStart => exact ⟨rfl, Keeps.refl _ _⟩
  case round =>
    obtain ⟨rfl, hk⟩ := hrel
    have HK := hide hk
    clear hk
    go_wp2_with (refine wpList_make_full _ rfl _ _ 75 rfl wr.heap.size 153 i0 _ 1 Try.underlying75 hi0 hz0 hz1 .i64 .i64 0 0 0 rfl rfl rfl rfl hb.out (Nat.zero_le _) (Nat.le_refl _) ?_)
    intro w2 _ hg
    have HK := hide (HK.out.grown hg (fun k h _ => by cases h))
    clear hg
    go_wp2
    go_loopw [6] (fun i wr => i = .int .i64 0 ∧ Keeps NoB w wr) (fun _ _ => 0)
    case atStart => exact ⟨rfl, HK.out⟩
    case round =>
      obtain ⟨rfl, hk⟩ := hrel
      have HK := hide hk
      clear hk
      go_wp2
      go_loopw [9] (fun i wr => i = .int .i64 0 ∧ Keeps NoB w wr) (fun _ _ => 0)
      case atStart => exact ⟨rfl, HK.out⟩
      case round =>
        obtain ⟨rfl, hk⟩ := hrel
        have HK := hide hk
        clear hk
        go_wp2
        go_loopw [11] (fun i wr => i = .int .i64 0 ∧ Keeps NoB w wr) (fun _ _ => 0)
        case atStart => exact ⟨rfl, HK.out⟩
        case round =>
          obtain ⟨rfl, hk⟩ := hrel
          have HK := hide hk
          clear hk
          go_wp2
          go_loopw [14] (fun i wr => i = .int .i64 0 ∧ Keeps NoB w wr) (fun _ _ => 0)
          case atStart => exact ⟨rfl, HK.out⟩
          case round =>
            obtain ⟨rfl, hk⟩ := hrel
            have HK := hide hk
            clear hk
            go_wp2
            go_ret
            exact ⟨rfl, HK.out⟩

theorem Try.infoE158 : (Try.prog.info? 158).map (fun i => (i.zero, i.size, i.bytes)) = some (some (.slice none 0 0), 1, 24) := by kernel_rfl
set_option maxRecDepth 100000 in
theorem flat53 (w : World) : Calls Try.prog 53 #[.slice none 0 0] w fun e w' => e = .returned (.bool true) ∧ Keeps NoB w w' := by
  obtain ⟨i0, hi0, hz0, hz1, hz2⟩ := info_parts Try.infoE158
  have hb := hide (show i0.bytes * 0 ≤ 281474976710656 from by omega)
  go_enter Try.func53, Try.ntmps53
  go_wp2
  go_loopw [3] (fun i wr => i = .int .i64 0 ∧ Keeps NoB w wr) (fun _ _ => 0)
  case atStart => exact ⟨rfl, Keeps.refl _ _⟩
  case round =>
    obtain ⟨rfl, hk⟩ := hrel
    have HK := hide hk
    clear hk
    go_wp2_with (refine wpList_make_full _ rfl _ _ 76 rfl wr.heap.size 158 i0 _ 1 Try.underlying76 hi0 hz0 hz1 .i64 .i64 0 0 0 rfl rfl rfl rfl hb.out (Nat.zero_le _) (Nat.le_refl _) ?_)
    intro w2 _ hg
    have HK := hide (HK.out.grown hg (fun k h _ => by cases h))
    clear hg
    go_wp2
    go_loopw [6] (fun i wr => i = .int .i64 0 ∧ Keeps NoB w wr) (fun _ _ => 0)
    case atStart => exact ⟨rfl, HK.out⟩
    case round =>
      obtain ⟨rfl, hk⟩ := hrel
      have HK := hide hk
      clear hk
      go_wp2
      go_loopw [9] (fun i wr => i = .int .i64 0 ∧ Keeps NoB w wr) (fun _ _ => 0)
      case atStart => exact ⟨rfl, HK.out⟩
      case round =>
        obtain ⟨rfl, hk⟩ := hrel
        have HK := hide hk
        clear hk
        go_wp2
        go_loopw [11] (fun i wr => i = .int .i64 0 ∧ Keeps NoB w wr) (fun _ _ => 0)
        case atStart => exact ⟨rfl, HK.out⟩
        case round =>
          obtain ⟨rfl, hk⟩ := hrel
          have HK := hide hk
          clear hk
          go_wp2
          go_loopw [14] (fun i wr => i = .int .i64 0 ∧ Keeps NoB w wr) (fun _ _ => 0)
          case atStart => exact ⟨rfl, HK.out⟩
          case round =>
            obtain ⟨rfl, hk⟩ := hrel
            have HK := hide hk
            clear hk
            go_wp2
            go_ret
            exact ⟨rfl, HK.out⟩

theorem Try.infoE164 : (Try.prog.info? 164).map (fun i => (i.zero, i.size, i.bytes)) = some (some (.slice none 0 0), 1, 24) := by kernel_rfl
set_option maxRecDepth 100000 in
theorem flat54 (w : World) : Calls Try.prog 54 #[.slice none 0 0] w fun e w' => e = .returned (.bool true) ∧ Keeps NoB w w' := by
  obtain ⟨i0, hi0, hz0, hz1, hz2⟩ := info_parts Try.infoE164
  have hb := hide (show i0.bytes * 0 ≤ 281474976710656 from by omega)
  go_enter Try.func54, Try.ntmps54
  go_wp2
  go_loopw [3] (fun i wr => i = .int .i64 0 ∧ Keeps NoB w wr) (fun _ _ => 0)
  case atStart => exact ⟨rfl, Keeps.refl _ _⟩
  case round =>
    obtain ⟨rfl, hk⟩ := hrel
    have HK := hide hk
    clear hk
    go_wp2_with (refine wpList_make_full _ rfl _ _ 77 rfl wr.heap.size 164 i0 _ 1 Try.underlying77 hi0 hz0 hz1 .i64 .i64 0 0 0 rfl rfl rfl rfl hb.out (Nat.zero_le _) (Nat.le_refl _) ?_)
    intro w2 _ hg
    have HK := hide (HK.out.grown hg (fun k h _ => by cases h))
    clear hg
    go_wp2
    go_loopw [6] (fun i wr => i = .int .i64 0 ∧ Keeps NoB w wr) (fun _ _ => 0)
    case atStart => exact ⟨rfl, HK.out⟩
    case round =>
      obtain ⟨rfl, hk⟩ := hrel
      have HK := hide hk
      clear hk
      go_wp2
      go_loopw [9] (fun i wr => i = .int .i64 0 ∧ Keeps NoB w wr) (fun _ _ => 0)
      case atStart => exact ⟨rfl, HK.out⟩
      case round =>
        obtain ⟨rfl, hk⟩ := hrel
        have HK := hide hk
        clear hk
        go_wp2
        go_loopw [11] (fun i wr => i = .int .i64 0 ∧ Keeps NoB w wr) (fun _ _ => 0)
        case atStart => exact ⟨rfl, HK.out⟩
        case round =>
          obtain ⟨rfl, hk⟩ := hrel
          have HK := hide hk
          clear hk
          go_wp2
          go_loopw [14] (fun i wr => i = .int .i64 0 ∧ Keeps NoB w wr) (fun _ _ => 0)
          case atStart => exact ⟨rfl, HK.out⟩
          case round =>
            obtain ⟨rfl, hk⟩ := hrel
            have HK := hide hk
            clear hk
            go_wp2
            go_ret
            exact ⟨rfl, HK.out⟩

theorem Try.infoE168 : (Try.prog.info? 168).map (fun i => (i.zero, i.size, i.bytes)) = some (some (.slice none 0 0), 1, 24) := by kernel_rfl
set_option maxRecDepth 100000 in
theorem flat55 (w : World) : Calls Try.prog 55 #[.slice none 0 0] w fun e w' => e = .returned (.bool true) ∧ Keeps NoB w w' := by
  obtain ⟨i0, hi0, hz0, hz1, hz2⟩ := info_parts Try.infoE168
  have hb := hide (show i0.bytes * 0 ≤ 281474976710656 from by omega)
  go_enter Try.func55, Try.ntmps55
  go_wp2
  go_loopw [3] (fun i wr => i = .int .i64 0 ∧ Keeps NoB w wr) (fun _ _ => 0)
  case atStart => exact ⟨rfl, Keeps.refl _ _⟩
  case round =>
    obtain ⟨rfl, hk⟩ := hrel
    have HK := hide hk
    clear hk
    go_wp2_with (refine wpList_make_full _ rfl _ _ 78 rfl wr.heap.size 168 i0 _ 1 Try.underlying78 hi0 hz0 hz1 .i64 .i64 0 0 0 rfl rfl rfl rfl hb.out (Nat.zero_le _) (Nat.le_refl _) ?_)
    intro w2 _ hg
    have HK := hide (HK.out.grown hg (fun k h _ => by cases h))
    clear hg
    go_wp2
    go_loopw [6] (fun i wr => i = .int .i64 0 ∧ Keeps NoB w wr) (fun _ _ => 0)
    case atStart => exact ⟨rfl, HK.out⟩
    case round =>
      obtain ⟨rfl, hk⟩ := hrel
      have HK := hide hk
      clear hk
      go_wp2
      go_loopw [9] (fun i wr => i = .int .i64 0 ∧ Keeps NoB w wr) (fun _ _ => 0)
      case atStart => exact ⟨rfl, HK.out⟩
      case round =>
        obtain ⟨rfl, hk⟩ := hrel
        have HK := hide hk
        clear hk
        go_wp2
        go_loopw [11] (fun i wr => i = .int .i64 0 ∧ Keeps NoB w wr) (fun _ _ => 0)
        case atStart => exact ⟨rfl, HK.out⟩
        case round =>
          obtain ⟨rfl, hk⟩ := hrel
          have HK := hide hk
          clear hk
          go_wp2
          go_loopw [14] (fun i wr => i = .int .i64 0 ∧ Keeps NoB w wr) (fun _ _ => 0)
          case atStart => exact ⟨rfl, HK.out⟩
          case round =>
            obtain ⟨rfl, hk⟩ := hrel
            have HK := hide hk
            clear hk
            go_wp2
            go_ret
            exact ⟨rfl, HK.out⟩

theorem Try.infoE173 : (Try.prog.info? 173).map (fun i => (i.zero, i.size, i.bytes)) = some (some (.slice none 0 0), 1, 24) := by kernel_rfl
set_option maxRecDepth 100000 in
theorem flat56 (w : World) : Calls Try.prog 56 #[.slice none 0 0] w fun e w' => e = .returned (.bool true) ∧ Keeps NoB w w' := by
  obtain ⟨i0, hi0, hz0, hz1, hz2⟩ := info_parts Try.infoE173
  have hb := hide (show i0.bytes * 0 ≤ 281474976710656 from by omega)
  go_enter Try.func56, Try.ntmps56
  go_wp2
  go_loopw [3] (fun i wr => i = .int .i64 0 ∧ Keeps NoB w wr) (fun _ _ => 0)
  case atStart => exact ⟨rfl, Keeps.refl _ _⟩
  case round =>
    obtain ⟨rfl, hk⟩ := hrel
    have HK := hide hk
    clear hk
    go_wp2_with (refine wpList_make_full _ rfl _ _ 79 rfl wr.heap.size 173 i0 _ 1 Try.underlying79 hi0 hz0 hz1 .i64 .i64 0 0 0 rfl rfl rfl rfl hb.out (Nat.zero_le _) (Nat.le_refl _) ?_)
    intro w2 _ hg
    have HK := hide (HK.out.grown hg (fun k h _ => by cases h))
    clear hg
    go_wp2
    go_loopw [6] (fun i wr => i = .int .i64 0 ∧ Keeps NoB w wr) (fun _ _ => 0)
    case atStart => exact ⟨rfl, HK.out⟩
    case round =>
      obtain ⟨rfl, hk⟩ := hrel
      have HK := hide hk
      clear hk
      go_wp2
      go_loopw [9] (fun i wr => i = .int .i64 0 ∧ Keeps NoB w wr) (fun _ _ => 0)
      case atStart => exact ⟨rfl, HK.out⟩
      case round =>
        obtain ⟨rfl, hk⟩ := hrel
        have HK := hide hk
        clear hk
        go_wp2
        go_loopw [11] (fun i wr => i = .int .i64 0 ∧ Keeps NoB w wr) (fun _ _ => 0)
        case atStart => exact ⟨rfl, HK.out⟩
        case round =>
          obtain ⟨rfl, hk⟩ := hrel
          have HK := hide hk
          clear hk
          go_wp2
          go_loopw [14] (fun i wr => i = .int .i64 0 ∧ Keeps NoB w wr) (fun _ _ => 0)
          case atStart => exact ⟨rfl, HK.out⟩
          case round =>
            obtain ⟨rfl, hk⟩ := hrel
            have HK := hide hk
            clear hk
            go_wp2
            go_ret
            exact ⟨rfl, HK.out⟩

theorem Try.infoE178 : (Try.prog.info? 178).map (fun i => (i.zero, i.size, i.bytes)) = some (some (.slice none 0 0), 1, 24) := by kernel_rfl
set_option maxRecDepth 100000 in
theorem flat57 (w : World) : Calls Try.prog 57 #[.slice none 0 0] w fun e w' => e = .returned (.bool true) ∧ Keeps NoB w w' := by
  obtain ⟨i0, hi0, hz0, hz1, hz2⟩ := info_parts Try.infoE178
  have hb := hide (show i0.bytes * 0 ≤ 281474976710656 from by omega)
  go_enter Try.func57, Try.ntmps57
  go_wp2
  go_loopw [3] (fun i wr => i = .int .i64 0 ∧ Keeps NoB w wr) (fun _ _ => 0)
  case atStart => exact ⟨rfl, Keeps.refl _ _⟩
  case round =>
    obtain ⟨rfl, hk⟩ := hrel
    have HK := hide hk
    clear hk
    go_wp2_with (refine wpList_make_full _ rfl _ _ 80 rfl wr.heap.size 178 i0 _ 1 Try.underlying80 hi0 hz0 hz1 .i64 .i64 0 0 0 rfl rfl rfl rfl hb.out (Nat.zero_le _) (Nat.le_refl _) ?_)
    intro w2 _ hg
    have HK := hide (HK.out.grown hg (fun k h _ => by cases h))
    clear hg
    go_wp2
    go_loopw [6] (fun i wr => i = .int .i64 0 ∧ Keeps NoB w wr) (fun _ _ => 0)
    case atStart => exact ⟨rfl, HK.out⟩
    case round =>
      obtain ⟨rfl, hk⟩ := hrel
      have HK := hide hk
      clear hk
      go_wp2
      go_loopw [9] (fun i wr => i = .int .i64 0 ∧ Keeps NoB w wr) (fun _ _ => 0)
      case atStart => exact ⟨rfl, HK.out⟩
      case round =>
        obtain ⟨rfl, hk⟩ := hrel
        have HK := hide hk
        clear hk
        go_wp2
        go_loopw [11] (fun i wr => i = .int .i64 0 ∧ Keeps NoB w wr) (fun _ _ => 0)
        case atStart => exact ⟨rfl, HK.out⟩
        case round =>
          obtain ⟨rfl, hk⟩ := hrel
          have HK := hide hk
          clear hk
          go_wp2
          go_loopw [14] (fun i wr => i = .int .i64 0 ∧ Keeps NoB w wr) (fun _ _ => 0)
          case atStart => exact ⟨rfl, HK.out⟩
          case round =>
            obtain ⟨rfl, hk⟩ := hrel
            have HK := hide hk
            clear hk
            go_wp2
            go_ret
            exact ⟨rfl, HK.out⟩

theorem Try.infoE183 : (Try.prog.info? 183).map (fun i => (i.zero, i.size, i.bytes)) = some (some (.slice none 0 0), 1, 24) := by kernel_rfl
set_option maxRecDepth 100000 in
theorem flat58 (w : World) : Calls Try.prog 58 #[.slice none 0 0] w fun e w' => e = .returned (.bool true) ∧ Keeps NoB w w' := by
  obtain ⟨i0, hi0, hz0, hz1, hz2⟩ := info_parts Try.infoE183
  have hb := hide (show i0.bytes * 0 ≤ 281474976710656 from by omega)
  go_enter Try.func58, Try.ntmps58
  go_wp2
  go_loopw [3] (fun i wr => i = .int .i64 0 ∧ Keeps NoB w wr) (fun _ _ => 0)
  case atStart => exact ⟨rfl, Keeps.refl _ _⟩
  case round =>
    obtain ⟨rfl, hk⟩ := hrel
    have HK := hide hk
    clear hk
    go_wp2_with (refine wpList_make_full _ rfl _ _ 81 rfl wr.heap.size 183 i0 _ 1 Try.underlying81 hi0 hz0 hz1 .i64 .i64 0 0 0 rfl rfl rfl rfl hb.out (Nat.zero_le _) (Nat.le_refl _) ?_)
    intro w2 _ hg
    have HK := hide (HK.out.grown hg (fun k h _ => by cases h))
    clear hg
    go_wp2
    go_loopw [6] (fun i wr => i = .int .i64 0 ∧ Keeps NoB w wr) (fun _ _ => 0)
    case atStart => exact ⟨rfl, HK.out⟩
    case round =>
      obtain ⟨rfl, hk⟩ := hrel
      have HK := hide hk
      clear hk
      go_wp2
      go_loopw [9] (fun i wr => i = .int .i64 0 ∧ Keeps NoB w wr) (fun _ _ => 0)
      case atStart => exact ⟨rfl, HK.out⟩
      case round =>
        obtain ⟨rfl, hk⟩ := hrel
        have HK := hide hk
        clear hk
        go_wp2
        go_loopw [11] (fun i wr => i = .int .i64 0 ∧ Keeps NoB w wr) (fun _ _ => 0)
        case atStart => exact ⟨rfl, HK.out⟩
        case round =>
          obtain ⟨rfl, hk⟩ := hrel
          have HK := hide hk
          clear hk
          go_wp2
          go_loopw [14] (fun i wr => i = .int .i64 0 ∧ Keeps NoB w wr) (fun _ _ => 0)
          case atStart => exact ⟨rfl, HK.out⟩
          case round =>
            obtain ⟨rfl, hk⟩ := hrel
            have HK := hide hk
            clear hk
            go_wp2
            go_ret
            exact ⟨rfl, HK.out⟩

theorem Try.infoE187 : (Try.prog.info? 187).map (fun i => (i.zero, i.size, i.bytes)) = some (some (.slice none 0 0), 1, 24) := by kernel_rfl
set_option maxRecDepth 100000 in
theorem flat59 (w : World) : Calls Try.prog 59 #[.slice none 0 0] w fun e w' => e = .returned (.bool true) ∧ Keeps NoB w w' := by
  obtain ⟨i0, hi0, hz0, hz1, hz2⟩ := info_parts Try.infoE187
  have hb := hide (show i0.bytes * 0 ≤ 281474976710656 from by omega)
  go_enter Try.func59, Try.ntmps59
  go_wp2
  go_loopw [3] (fun i wr => i = .int .i64 0 ∧ Keeps NoB w wr) (fun _ _ => 0)
  case atStart => exact ⟨rfl, Keeps.refl _ _⟩
  case round =>
    obtain ⟨rfl, hk⟩ := hrel
    have HK := hide hk
    clear hk
    go_wp2_with (refine wpList_make_full _ rfl _ _ 82 rfl wr.heap.size 187 i0 _ 1 Try.underlying82 hi0 hz0 hz1 .i64 .i64 0 0 0 rfl rfl rfl rfl hb.out (Nat.zero_le _) (Nat.le_refl _) ?_)
    intro w2 _ hg
    have HK := hide (HK.out.grown hg (fun k h _ => by cases h))
    clear hg
    go_wp2
    go_loopw [6] (fun i wr => i = .int .i64 0 ∧ Keeps NoB w wr) (fun _ _ => 0)
    case atStart => exact ⟨rfl, HK.out⟩
    case round =>
      obtain ⟨rfl, hk⟩ := hrel
      have HK := hide hk
      clear hk
      go_wp2
      go_loopw [9] (fun i wr => i = .int .i64 0 ∧ Keeps NoB w wr) (fun _ _ => 0)
      case atStart => exact ⟨rfl, HK.out⟩
      case round =>
        obtain ⟨rfl, hk⟩ := hrel
        have HK := hide hk
        clear hk
        go_wp2
        go_loopw [11] (fun i wr => i = .int .i64 0 ∧ Keeps NoB w wr) (fun _ _ => 0)
        case atStart => exact ⟨rfl, HK.out⟩
        case round =>
          obtain ⟨rfl, hk⟩ := hrel
          have HK := hide hk
          clear hk
          go_wp2
          go_loopw [14] (fun i wr => i = .int .i64 0 ∧ Keeps NoB w wr) (fun _ _ => 0)
          case atStart => exact ⟨rfl, HK.out⟩
          case round =>
            obtain ⟨rfl, hk⟩ := hrel
            have HK := hide hk
            clear hk
            go_wp2
            go_ret
            exact ⟨rfl, HK.out⟩

end Go.Proofs.Ytaiphjgklfioeaa
