/- pigeonholekit: lists of lists that are none lie apart. -/
import Derived.Test.YtmkidkfofbnjgaaMarkLJn
import Derived.OwnWalk
namespace Go.Proofs.Ytmkidkfofbnjgaa
open Go.RowKit

theorem Try.infoE114 : (Try.prog.info? 114).map (fun i => (i.zero, i.size, i.bytes)) = some (some (.slice none 0 0), 1, 24) := by kernel_rfl
set_option maxRecDepth 100000 in
theorem flat53 (w : World) : Calls Try.prog 53 #[.slice none 0 0] w fun e w' => e = .returned (.bool true) ∧ Keeps NoB w w' := by
  obtain ⟨i0, hi0, hz0, hz1, hz2⟩ := info_parts Try.infoE114
  have hb := hide (show i0.bytes * 0 ≤ 281474976710656 from by omega)
  go_enter Try.func53, Try.ntmps53
  go_wp2
  go_loopw [3] (fun i wr => i = .int .i64 0 ∧ Keeps NoB w wr) (fun _ _ => 0)
  case atStart => exact ⟨rfl, Keeps.refl _ _⟩
  case round =>
    obtain ⟨rfl, hk⟩ := hrel
    have HK := hide hk
    clear hk
    go_wp2_with (refine wpList_make_full _ rfl _ _ 70 rfl wr.heap.size 114 i0 _ 1 Try.underlying70 hi0 hz0 hz1 .i64 .i64 0 0 0 rfl rfl rfl rfl hb.out (Nat.zero_le _) (Nat.le_refl _) ?_)
    intro w2 _ hg
    have HK := hide (HK.out.grown hg (fun k h _ => by cases h))
    clear hg
    go_wp2
    go_loopw [6] (fun i wr => i = .int .i64 0 ∧ Keeps NoB w wr) (fun _ _ => 0)
    case atStart => exact ⟨rfl, HK.out⟩
    case round =>
      obtain ⟨rfl, hk⟩ := hrel
      have HK := hide hk
      clear hk
      go_wp2
      go_loopw [9] (fun i wr => i = .int .i64 0 ∧ Keeps NoB w wr) (fun _ _ => 0)
      case atStart => exact ⟨rfl, HK.out⟩
      case round =>
        obtain ⟨rfl, hk⟩ := hrel
        have HK := hide hk
        clear hk
        go_wp2
        go_loopw [11] (fun i wr => i = .int .i64 0 ∧ Keeps NoB w wr) (fun _ _ => 0)
        case atStart => exact ⟨rfl, HK.out⟩
        case round =>
          obtain ⟨rfl, hk⟩ := hrel
          have HK := hide hk
          clear hk
          go_wp2
          go_loopw [14] (fun i wr => i = .int .i64 0 ∧ Keeps NoB w wr) (fun _ _ => 0)
          case atStart => exact ⟨rfl, HK.out⟩
          case round =>
            obtain ⟨rfl, hk⟩ := hrel
            have HK := hide hk
            clear hk
            go_wp2
            go_ret
            exact ⟨rfl, HK.out⟩

theorem Try.infoE36 : (Try.prog.info? 36).map (fun i => (i.zero, i.size, i.bytes)) = some (some (.slice none 0 0), 1, 24) := by kernel_rfl
set_option maxRecDepth 100000 in
theorem flat54 (w : World) : Calls Try.prog 54 #[.slice none 0 0] w fun e w' => e = .returned (.bool true) ∧ Keeps NoB w w' := by
  obtain ⟨i0, hi0, hz0, hz1, hz2⟩ := info_parts Try.infoE36
  have hb := hide (show i0.bytes * 0 ≤ 281474976710656 from by omega)
  go_enter Try.func54, Try.ntmps54
  go_wp2
  go_loopw [3] (fun i wr => i = .int .i64 0 ∧ Keeps NoB w wr) (fun _ _ => 0)
  case atStart => exact ⟨rfl, Keeps.refl _ _⟩
  case round =>
    obtain ⟨rfl, hk⟩ := hrel
    have HK := hide hk
    clear hk
    go_wp2_with (refine wpList_make_full _ rfl _ _ 71 rfl wr.heap.size 36 i0 _ 1 Try.underlying71 hi0 hz0 hz1 .i64 .i64 0 0 0 rfl rfl rfl rfl hb.out (Nat.zero_le _) (Nat.le_refl _) ?_)
    intro w2 _ hg
    have HK := hide (HK.out.grown hg (fun k h _ => by cases h))
    clear hg
    go_wp2
    go_loopw [6] (fun i wr => i = .int .i64 0 ∧ Keeps NoB w wr) (fun _ _ => 0)
    case atStart => exact ⟨rfl, HK.out⟩
    case round =>
      obtain ⟨rfl, hk⟩ := hrel
      have HK := hide hk
      clear hk
      go_wp2
      go_loopw [9] (fun i wr => i = .int .i64 0 ∧ Keeps NoB w wr) (fun _ _ => 0)
      case atStart => exact ⟨rfl, HK.out⟩
      case round =>
        obtain ⟨rfl, hk⟩ := hrel
        have HK := hide hk
        clear hk
        go_wp2
        go_loopw [11] (fun i wr => i = .int .i64 0 ∧ Keeps NoB w wr) (fun _ _ => 0)
        case atStart => exact ⟨rfl, HK.out⟩
        case round =>
          obtain ⟨rfl, hk⟩ := hrel
          have HK := hide hk
          clear hk
          go_wp2
          go_loopw [14] (fun i wr => i = .int .i64 0 ∧ Keeps NoB w wr) (fun _ _ => 0)
          case atStart => exact ⟨rfl, HK.out⟩
          case round =>
            obtain ⟨rfl, hk⟩ := hrel
            have HK := hide hk
            clear hk
            go_wp2
            go_ret
            exact ⟨rfl, HK.out⟩

theorem Try.infoE116 : (Try.prog.info? 116).map (fun i => (i.zero, i.size, i.bytes)) = some (some (.slice none 0 0), 1, 24) := by kernel_rfl
set_option maxRecDepth 100000 in
theorem flat55 (w : World) : Calls Try.prog 55 #[.slice none 0 0] w fun e w' => e = .returned (.bool true) ∧ Keeps NoB w w' := by
  obtain ⟨i0, hi0, hz0, hz1, hz2⟩ := info_parts Try.infoE116
  have hb := hide (show i0.bytes * 0 ≤ 281474976710656 from by omega)
  go_enter Try.func55, Try.ntmps55
  go_wp2
  go_loopw [3] (fun i wr => i = .int .i64 0 ∧ Keeps NoB w wr) (fun _ _ => 0)
  case atStart => exact ⟨rfl, Keeps.refl _ _⟩
  case round =>
    obtain ⟨rfl, hk⟩ := hrel
    have HK := hide hk
    clear hk
    go_wp2_with (refine wpList_make_full _ rfl _ _ 72 rfl wr.heap.size 116 i0 _ 1 Try.underlying72 hi0 hz0 hz1 .i64 .i64 0 0 0 rfl rfl rfl rfl hb.out (Nat.zero_le _) (Nat.le_refl _) ?_)
    intro w2 _ hg
    have HK := hide (HK.out.grown hg (fun k h _ => by cases h))
    clear hg
    go_wp2
    go_loopw [6] (fun i wr => i = .int .i64 0 ∧ Keeps NoB w wr) (fun _ _ => 0)
    case atStart => exact ⟨rfl, HK.out⟩
    case round =>
      obtain ⟨rfl, hk⟩ := hrel
      have HK := hide hk
      clear hk
      go_wp2
      go_loopw [9] (fun i wr => i = .int .i64 0 ∧ Keeps NoB w wr) (fun _ _ => 0)
      case atStart => exact ⟨rfl, HK.out⟩
      case round =>
        obtain ⟨rfl, hk⟩ := hrel
        have HK := hide hk
        clear hk
        go_wp2
        go_loopw [11] (fun i wr => i = .int .i64 0 ∧ Keeps NoB w wr) (fun _ _ => 0)
        case atStart => exact ⟨rfl, HK.out⟩
        case round =>
          obtain ⟨rfl, hk⟩ := hrel
          have HK := hide hk
          clear hk
          go_wp2
          go_loopw [14] (fun i wr => i = .int .i64 0 ∧ Keeps NoB w wr) (fun _ _ => 0)
          case atStart => exact ⟨rfl, HK.out⟩
          case round =>
            obtain ⟨rfl, hk⟩ := hrel
            have HK := hide hk
            clear hk
            go_wp2
            go_ret
            exact ⟨rfl, HK.out⟩

theorem Try.infoE117 : (Try.prog.info? 117).map (fun i => (i.zero, i.size, i.bytes)) = some (some (.slice none 0 0), 1, 24) := by kernel_rfl
set_option maxRecDepth 100000 in
theorem flat56 (w : World) : Calls Try.prog 56 #[.slice none 0 0] w fun e w' => e = .returned (.bool true) ∧ Keeps NoB w w' := by
  obtain ⟨i0, hi0, hz0, hz1, hz2⟩ := info_parts Try.infoE117
  have hb := hide (show i0.bytes * 0 ≤ 281474976710656 from by omega)
  go_enter Try.func56, Try.ntmps56
  go_wp2
  go_loopw [3] (fun i wr => i = .int .i64 0 ∧ Keeps NoB w wr) (fun _ _ => 0)
  case atStart => exact ⟨rfl, Keeps.refl _ _⟩
  case round =>
    obtain ⟨rfl, hk⟩ := hrel
    have HK := hide hk
    clear hk
    go_wp2_with (refine wpList_make_full _ rfl _ _ 73 rfl wr.heap.size 117 i0 _ 1 Try.underlying73 hi0 hz0 hz1 .i64 .i64 0 0 0 rfl rfl rfl rfl hb.out (Nat.zero_le _) (Nat.le_refl _) ?_)
    intro w2 _ hg
    have HK := hide (HK.out.grown hg (fun k h _ => by cases h))
    clear hg
    go_wp2
    go_loopw [6] (fun i wr => i = .int .i64 0 ∧ Keeps NoB w wr) (fun _ _ => 0)
    case atStart => exact ⟨rfl, HK.out⟩
    case round =>
      obtain ⟨rfl, hk⟩ := hrel
      have HK := hide hk
      clear hk
      go_wp2
      go_loopw [9] (fun i wr => i = .int .i64 0 ∧ Keeps NoB w wr) (fun _ _ => 0)
      case atStart => exact ⟨rfl, HK.out⟩
      case round =>
        obtain ⟨rfl, hk⟩ := hrel
        have HK := hide hk
        clear hk
        go_wp2
        go_loopw [11] (fun i wr => i = .int .i64 0 ∧ Keeps NoB w wr) (fun _ _ => 0)
        case atStart => exact ⟨rfl, HK.out⟩
        case round =>
          obtain ⟨rfl, hk⟩ := hrel
          have HK := hide hk
          clear hk
          go_wp2
          go_loopw [14] (fun i wr => i = .int .i64 0 ∧ Keeps NoB w wr) (fun _ _ => 0)
          case atStart => exact ⟨rfl, HK.out⟩
          case round =>
            obtain ⟨rfl, hk⟩ := hrel
            have HK := hide hk
            clear hk
            go_wp2
            go_ret
            exact ⟨rfl, HK.out⟩

theorem Try.infoE119 : (Try.prog.info? 119).map (fun i => (i.zero, i.size, i.bytes)) = some (some (.slice none 0 0), 1, 24) := by kernel_rfl
set_option maxRecDepth 100000 in
theorem flat57 (w : World) : Calls Try.prog 57 #[.slice none 0 0] w fun e w' => e = .returned (.bool true) ∧ Keeps NoB w w' := by
  obtain ⟨i0, hi0, hz0, hz1, hz2⟩ := info_parts Try.infoE119
  have hb := hide (show i0.bytes * 0 ≤ 281474976710656 from by omega)
  go_enter Try.func57, Try.ntmps57
  go_wp2
  go_loopw [3] (fun i wr => i = .int .i64 0 ∧ Keeps NoB w wr) (fun _ _ => 0)
  case atStart => exact ⟨rfl, Keeps.refl _ _⟩
  case round =>
    obtain ⟨rfl, hk⟩ := hrel
    have HK := hide hk
    clear hk
    go_wp2_with (refine wpList_make_full _ rfl _ _ 74 rfl wr.heap.size 119 i0 _ 1 Try.underlying74 hi0 hz0 hz1 .i64 .i64 0 0 0 rfl rfl rfl rfl hb.out (Nat.zero_le _) (Nat.le_refl _) ?_)
    intro w2 _ hg
    have HK := hide (HK.out.grown hg (fun k h _ => by cases h))
    clear hg
    go_wp2
    go_loopw [6] (fun i wr => i = .int .i64 0 ∧ Keeps NoB w wr) (fun _ _ => 0)
    case atStart => exact ⟨rfl, HK.out⟩
    case round =>
      obtain ⟨rfl, hk⟩ := hrel
      have HK := hide hk
      clear hk
      go_wp2
      go_loopw [9] (fun i wr => i = .int .i64 0 ∧ Keeps NoB w wr) (fun _ _ => 0)
      case atStart => exact ⟨rfl, HK.out⟩
      case round =>
        obtain ⟨rfl, hk⟩ := hrel
        have HK := hide hk
        clear hk
        go_wp2
        go_loopw [11] (fun i wr => i = .int .i64 0 ∧ Keeps NoB w wr) (fun _ _ => 0)
        case atStart => exact ⟨rfl, HK.out⟩
        case round =>
          obtain ⟨rfl, hk⟩ := hrel
          have HK := hide hk
          clear hk
          go_wp2
          go_loopw [14] (fun i wr => i = .int .i64 0 ∧ Keeps NoB w wr) (fun _ _ => 0)
          case atStart => exact ⟨rfl, HK.out⟩
          case round =>
            obtain ⟨rfl, hk⟩ := hrel
            have HK := hide hk
            clear hk
            go_wp2
            go_ret
            exact ⟨rfl, HK.out⟩

theorem Try.infoE121 : (Try.prog.info? 121).map (fun i => (i.zero, i.size, i.bytes)) = some (some (.slice none 0 0), 1, 24) := by kernel_rfl
set_option maxRecDepth 100000 in
theorem flat58 (w : World) : Calls Try.prog 58 #[.slice none 0 0] w fun e w' => e = .returned (.bool true) ∧ Keeps NoB w w' := by
  obtain ⟨i0, hi0, hz0, hz1, hz2⟩ := info_parts Try.infoE121
  have hb := hide (show i0.bytes * 0 ≤ 281474976710656 from by omega)
  go_enter Try.func58, Try.ntmps58
  go_wp2
  go_loopw [3] (fun i wr => i = .int .i64 0 ∧ Keeps NoB w wr) (fun _ _ => 0)
  case atStart => exact ⟨rfl, Keeps.refl _ _⟩
  case round =>
    obtain ⟨rfl, hk⟩ := hrel
    have HK := hide hk
    clear hk
    go_wp2_with (refine wpList_make_full _ rfl _ _ 75 rfl wr.heap.size 121 i0 _ 1 Try.underlying75 hi0 hz0 hz1 .i64 .i64 0 0 0 rfl rfl rfl rfl hb.out (Nat.zero_le _) (Nat.le_refl _) ?_)
    intro w2 _ hg
    have HK := hide (HK.out.grown hg (fun k h _ => by cases h))
    clear hg
    go_wp2
    go_loopw [6] (fun i wr => i = .int .i64 0 ∧ Keeps NoB w wr) (fun _ _ => 0)
    case atStart => exact ⟨rfl, HK.out⟩
    case round =>
      obtain ⟨rfl, hk⟩ := hrel
      have HK := hide hk
      clear hk
      go_wp2
      go_loopw [9] (fun i wr => i = .int .i64 0 ∧ Keeps NoB w wr) (fun _ _ => 0)
      case atStart => exact ⟨rfl, HK.out⟩
      case round =>
        obtain ⟨rfl, hk⟩ := hrel
        have HK := hide hk
        clear hk
        go_wp2
        go_loopw [11] (fun i wr => i = .int .i64 0 ∧ Keeps NoB w wr) (fun _ _ => 0)
        case atStart => exact ⟨rfl, HK.out⟩
        case round =>
          obtain ⟨rfl, hk⟩ := hrel
          have HK := hide hk
          clear hk
          go_wp2
          go_loopw [14] (fun i wr => i = .int .i64 0 ∧ Keeps NoB w wr) (fun _ _ => 0)
          case atStart => exact ⟨rfl, HK.out⟩
          case round =>
            obtain ⟨rfl, hk⟩ := hrel
            have HK := hide hk
            clear hk
            go_wp2
            go_ret
            exact ⟨rfl, HK.out⟩

theorem Try.infoE125 : (Try.prog.info? 125).map (fun i => (i.zero, i.size, i.bytes)) = some (some (.slice none 0 0), 1, 24) := by kernel_rfl
set_option maxRecDepth 100000 in
theorem flat60 (w : World) : Calls Try.prog 60 #[.slice none 0 0] w fun e w' => e = .returned (.bool true) ∧ Keeps NoB w w' := by
  obtain ⟨i0, hi0, hz0, hz1, hz2⟩ := info_parts Try.infoE125
  have hb := hide (show i0.bytes * 0 ≤ 281474976710656 from by omega)
  go_enter Try.func60, Try.ntmps60
  go_wp2
  go_loopw [3] (fun i wr => i = .int .i64 0 ∧ Keeps NoB w wr) (fun _ _ => 0)
  case atStart => exact ⟨rfl, Keeps.refl _ _⟩
  case round =>
    obtain ⟨rfl, hk⟩ := hrel
    have HK := hide hk
    clear hk
    go_wp2_with (refine wpList_make_full _ rfl _ _ 76 rfl wr.heap.size 125 i0 _ 1 Try.underlying76 hi0 hz0 hz1 .i64 .i64 0 0 0 rfl rfl rfl rfl hb.out (Nat.zero_le _) (Nat.le_refl _) ?_)
    intro w2 _ hg
    have HK := hide (HK.out.grown hg (fun k h _ => by cases h))
    clear hg
    go_wp2
    go_loopw [6] (fun i wr => i = .int .i64 0 ∧ Keeps NoB w wr) (fun _ _ => 0)
    case atStart => exact ⟨rfl, HK.out⟩
    case round =>
      obtain ⟨rfl, hk⟩ := hrel
      have HK := hide hk
      clear hk
      go_wp2
      go_loopw [9] (fun i wr => i = .int .i64 0 ∧ Keeps NoB w wr) (fun _ _ => 0)
      case atStart => exact ⟨rfl, HK.out⟩
      case round =>
        obtain ⟨rfl, hk⟩ := hrel
        have HK := hide hk
        clear hk
        go_wp2
        go_loopw [11] (fun i wr => i = .int .i64 0 ∧ Keeps NoB w wr) (fun _ _ => 0)
        case atStart => exact ⟨rfl, HK.out⟩
        case round =>
          obtain ⟨rfl, hk⟩ := hrel
          have HK := hide hk
          clear hk
          go_wp2
          go_loopw [14] (fun i wr => i = .int .i64 0 ∧ Keeps NoB w wr) (fun _ _ => 0)
          case atStart => exact ⟨rfl, HK.out⟩
          case round =>
            obtain ⟨rfl, hk⟩ := hrel
            have HK := hide hk
            clear hk
            go_wp2
            go_ret
            exact ⟨rfl, HK.out⟩

theorem Try.infoE130 : (Try.prog.info? 130).map (fun i => (i.zero, i.size, i.bytes)) = some (some (.slice none 0 0), 1, 24) := by kernel_rfl
set_option maxRecDepth 100000 in
theorem flat61 (w : World) : Calls Try.prog 61 #[.slice none 0 0] w fun e w' => e = .returned (.bool true) ∧ Keeps NoB w w' := by
  obtain ⟨i0, hi0, hz0, hz1, hz2⟩ := info_parts Try.infoE130
  have hb := hide (show i0.bytes * 0 ≤ 281474976710656 from by omega)
  go_enter Try.func61, Try.ntmps61
  go_wp2
  go_loopw [3] (fun i wr => i = .int .i64 0 ∧ Keeps NoB w wr) (fun _ _ => 0)
  case atStart => exact ⟨rfl, Keeps.refl _ _⟩
  case round =>
    obtain ⟨rfl, hk⟩ := hrel
    have HK := hide hk
    clear hk
    go_wp2_with (refine wpList_make_full _ rfl _ _ 77 rfl wr.heap.size 130 i0 _ 1 Try.underlying77 hi0 hz0 hz1 .i64 .i64 0 0 0 rfl rfl rfl rfl hb.out (Nat.zero_le _) (Nat.le_refl _) ?_)
    intro w2 _ hg
    have HK := hide (HK.out.grown hg (fun k h _ => by cases h))
    clear hg
    go_wp2
    go_loopw [6] (fun i wr => i = .int .i64 0 ∧ Keeps NoB w wr) (fun _ _ => 0)
    case atStart => exact ⟨rfl, HK.out⟩
    case round =>
      obtain ⟨rfl, hk⟩ := hrel
      have HK := hide hk
      clear hk
      go_wp2
      go_loopw [9] (fun i wr => i = .int .i64 0 ∧ Keeps NoB w wr) (fun _ _ => 0)
      case atStart => exact ⟨rfl, HK.out⟩
      case round =>
        obtain ⟨rfl, hk⟩ := hrel
        have HK := hide hk
        clear hk
        go_wp2
        go_loopw [11] (fun i wr => i = .int .i64 0 ∧ Keeps NoB w wr) (fun _ _ => 0)
        case atStart => exact ⟨rfl, HK.out⟩
        case round =>
          obtain ⟨rfl, hk⟩ := hrel
          have HK := hide hk
          clear hk
          go_wp2
          go_loopw [14] (fun i wr => i = .int .i64 0 ∧ Keeps NoB w wr) (fun _ _ => 0)
          case atStart => exact ⟨rfl, HK.out⟩
          case round =>
            obtain ⟨rfl, hk⟩ := hrel
            have HK := hide hk
            clear hk
            go_wp2
            go_ret
            exact ⟨rfl, HK.out⟩

theorem Try.infoE136 : (Try.prog.info? 136).map (fun i => (i.zero, i.size, i.bytes)) = some (some (.slice none 0 0), 1, 24) := by kernel_rfl
set_option maxRecDepth 100000 in
theorem flat62 (w : World) : Calls Try.prog 62 #[.slice none 0 0] w fun e w' => e = .returned (.bool true) ∧ Keeps NoB w w' := by
  obtain ⟨i0, hi0, hz0, hz1, hz2⟩ := info_parts Try.infoE136
  have hb := hide (show i0.bytes * 0 ≤ 281474976710656 from by omega)
  go_enter Try.func62, Try.ntmps62
  go_wp2
  go_loopw [3] (fun i wr => i = .int .i64 0 ∧ Keeps NoB w wr) (fun _ _ => 0)
  case atStart => exact ⟨rfl, Keeps.refl _ _⟩
  case round =>
    obtain ⟨rfl, hk⟩ := hrel
    have HK := hide hk
    clear hk
    go_wp2_with (refine wpList_make_full _ rfl _ _ 78 rfl wr.heap.size 136 i0 _ 1 Try.underlying78 hi0 hz0 hz1 .i64 .i64 0 0 0 rfl rfl rfl rfl hb.out (Nat.zero_le _) (Nat.le_refl _) ?_)
    intro w2 _ hg
    have HK := hide (HK.out.grown hg (fun k h _ => by cases h))
    clear hg
    go_wp2
    go_loopw [6] (fun i wr => i = .int .i64 0 ∧ Keeps NoB w wr) (fun _ _ => 0)
    case atStart => exact ⟨rfl, HK.out⟩
    case round =>
      obtain ⟨rfl, hk⟩ := hrel
      have HK := hide hk
      clear hk
      go_wp2
      go_loopw [9] (fun i wr => i = .int .i64 0 ∧ Keeps NoB w wr) (fun _ _ => 0)
      case atStart => exact ⟨rfl, HK.out⟩
      case round =>
        obtain ⟨rfl, hk⟩ := hrel
        have HK := hide hk
        clear hk
        go_wp2
        go_loopw [11] (fun i wr => i = .int .i64 0 ∧ Keeps NoB w wr) (fun _ _ => 0)
        case atStart => exact ⟨rfl, HK.out⟩
        case round =>
          obtain ⟨rfl, hk⟩ := hrel
          have HK := hide hk
          clear hk
          go_wp2
          go_loopw [14] (fun i wr => i = .int .i64 0 ∧ Keeps NoB w wr) (fun _ _ => 0)
          case atStart => exact ⟨rfl, HK.out⟩
          case round =>
            obtain ⟨rfl, hk⟩ := hrel
            have HK := hide hk
            clear hk
            go_wp2
            go_ret
            exact ⟨rfl, HK.out⟩

theorem Try.infoE142 : (Try.prog.info? 142).map (fun i => (i.zero, i.size, i.bytes)) = some (some (.slice none 0 0), 1, 24) := by kernel_rfl
set_option maxRecDepth 100000 in
theorem flat63 (w : World) : Calls Try.prog 63 #[.slice none 0 0] w fun e w' => e = .returned (.bool true) ∧ Keeps NoB w w' := by
  obtain ⟨i0, hi0, hz0, hz1, hz2⟩ := info_parts Try.infoE142
  have hb := hide (show i0.bytes * 0 ≤ 281474976710656 from by omega)
  go_enter Try.func63, Try.ntmps63
  go_wp2
  go_loopw [3] (fun i wr => i = .int .i64 0 ∧ Keeps NoB w wr) (fun _ _ => 0)
  case atStart => exact ⟨rfl, Keeps.refl _ _⟩
  case round =>
    obtain ⟨rfl, hk⟩ := hrel
    have HK := hide hk
    clear hk
    go_wp2_with (refine wpList_make_full _ rfl _ _ 79 rfl wr.heap.size 142 i0 _ 1 Try.underlying79 hi0 hz0 hz1 .i64 .i64 0 0 0 rfl rfl rfl rfl hb.out (Nat.zero_le _) (Nat.le_refl _) ?_)
    intro w2 _ hg
    have HK := hide (HK.out.grown hg (fun k h _ => by cases h))
    clear hg
    go_wp2
    go_loopw [6] (fun i wr => i = .int .i64 0 ∧ Keeps NoB w wr) (fun _ _ => 0)
    case atStart => exact ⟨rfl, HK.out⟩
    case round =>
      obtain ⟨rfl, hk⟩ := hrel
      have HK := hide hk
      clear hk
      go_wp2
      go_loopw [9] (fun i wr => i = .int .i64 0 ∧ Keeps NoB w wr) (fun _ _ => 0)
      case atStart => exact ⟨rfl, HK.out⟩
      case round =>
        obtain ⟨rfl, hk⟩ := hrel
        have HK := hide hk
        clear hk
        go_wp2
        go_loopw [11] (fun i wr => i = .int .i64 0 ∧ Keeps NoB w wr) (fun _ _ => 0)
        case atStart => exact ⟨rfl, HK.out⟩
        case round =>
          obtain ⟨rfl, hk⟩ := hrel
          have HK := hide hk
          clear hk
          go_wp2
          go_loopw [14] (fun i wr => i = .int .i64 0 ∧ Keeps NoB w wr) (fun _ _ => 0)
          case atStart => exact ⟨rfl, HK.out⟩
          case round =>
            obtain ⟨rfl, hk⟩ := hrel
            have HK := hide hk
            clear hk
            go_wp2
            go_ret
            exact ⟨rfl, HK.out⟩

theorem Try.infoE147 : (Try.prog.info? 147).map (fun i => (i.zero, i.size, i.bytes)) = some (some (.slice none 0 0), 1, 24) := by kernel_rfl
set_option maxRecDepth 100000 in
theorem flat64 (w : World) : Calls Try.prog 64 #[.slice none 0 0] w fun e w' => e = .returned (.bool true) ∧ Keeps NoB w w' := by
  obtain ⟨i0, hi0, hz0, hz1, hz2⟩ := info_parts Try.infoE147
  have hb := hide (show i0.bytes * 0 ≤ 281474976710656 from by omega)
  go_enter Try.func64, Try.ntmps64
  go_wp2
  go_loopw [3] (fun i wr => i = .int .i64 0 ∧ Keeps NoB w wr) (fun _ _ => 0)
  case atStart => exact ⟨rfl, Keeps.refl _ _⟩
  case round =>
    obtain ⟨rfl, hk⟩ := hrel
    have HK := hide hk
    clear hk
    go_wp2_with (refine wpList_make_full _ rfl _ _ 80 rfl wr.heap.size 147 i0 _ 1 Try.underlying80 hi0 hz0 hz1 .i64 .i64 0 0 0 rfl rfl rfl rfl hb.out (Nat.zero_le _) (Nat.le_refl _) ?_)
    intro w2 _ hg
    have HK := hide (HK.out.grown hg (fun k h _ => by cases h))
    clear hg
    go_wp2
    go_loopw [6] (fun i wr => i = .int .i64 0 ∧ Keeps NoB w wr) (fun _ _ => 0)
    case atStart => exact ⟨rfl, HK.out⟩
    case round =>
      obtain ⟨rfl, hk⟩ := hrel
      have HK := hide hk
      clear hk
      go_wp2
      go_loopw [9] (fun i wr => i = .int .i64 0 ∧ Keeps NoB w wr) (fun _ _ => 0)
      case atStart => exact ⟨rfl, HK.out⟩
      case round =>
        obtain ⟨rfl, hk⟩ := hrel
        have HK := hide hk
        clear hk
        go_wp2
        go_loopw [11] (fun i wr => i = .int .i64 0 ∧ Keeps NoB w wr) (fun _ _ => 0)
        case atStart => exact ⟨rfl, HK.out⟩
        case round =>
          obtain ⟨rfl, hk⟩ := hrel
          have HK := hide hk
          clear hk
          go_wp2
          go_loopw [14] (fun i wr => i = .int .i64 0 ∧ Keeps NoB w wr) (fun _ _ => 0)
          case atStart => exact ⟨rfl, HK.out⟩
          case round =>
            obtain ⟨rfl, hk⟩ := hrel
            have HK := hide hk
            clear hk
            go_wp2
            go_ret
            exact ⟨rfl, HK.out⟩

theorem Try.infoE152 : (Try.prog.info? 152).map (fun i => (i.zero, i.size, i.bytes)) = some (some (.slice none 0 0), 1, 24) := by kernel_rfl
set_option maxRecDepth 100000 in
theorem flat65 (w : World) : Calls Try.prog 65 #[.slice none 0 0] w fun e w' => e = .returned (.bool true) ∧ Keeps NoB w w' := by
  obtain ⟨i0, hi0, hz0, hz1, hz2⟩ := info_parts Try.infoE152
  have hb := hide (show i0.bytes * 0 ≤ 281474976710656 from by omega)
  go_enter Try.func65, Try.ntmps65
  go_wp2
  go_loopw [3] (fun i wr => i = .int .i64 0 ∧ Keeps NoB w wr) (fun _ _ => 0)
  case atStart => exact ⟨rfl, Keeps.refl _ _⟩
  case round =>
    obtain ⟨rfl, hk⟩ := hrel
    have HK := hide hk
    clear hk
    go_wp2_with (refine wpList_make_full _ rfl _ _ 81 rfl wr.heap.size 152 i0 _ 1 Try.underlying81 hi0 hz0 hz1 .i64 .i64 0 0 0 rfl rfl rfl rfl hb.out (Nat.zero_le _) (Nat.le_refl _) ?_)
    intro w2 _ hg
    have HK := hide (HK.out.grown hg (fun k h _ => by cases h))
    clear hg
    go_wp2
    go_loopw [6] (fun i wr => i = .int .i64 0 ∧ Keeps NoB w wr) (fun _ _ => 0)
    case atStart => exact ⟨rfl, HK.out⟩
    case round =>
      obtain ⟨rfl, hk⟩ := hrel
      have HK := hide hk
      clear hk
      go_wp2
      go_loopw [9] (fun i wr => i = .int .i64 0 ∧ Keeps NoB w wr) (fun _ _ => 0)
      case atStart => exact ⟨rfl, HK.out⟩
      case round =>
        obtain ⟨rfl, hk⟩ := hrel
        have HK := hide hk
        clear hk
        go_wp2
        go_loopw [11] (fun i wr => i = .int .i64 0 ∧ Keeps NoB w wr) (fun _ _ => 0)
        case atStart => exact ⟨rfl, HK.out⟩
        case round =>
          obtain ⟨rfl, hk⟩ := hrel
          have HK := hide hk
          clear hk
          go_wp2
          go_loopw [14] (fun i wr => i = .int .i64 0 ∧ Keeps NoB w wr) (fun _ _ => 0)
          case atStart => exact ⟨rfl, HK.out⟩
          case round =>
            obtain ⟨rfl, hk⟩ := hrel
            have HK := hide hk
            clear hk
            go_wp2
            go_ret
            exact ⟨rfl, HK.out⟩

theorem Try.infoE158 : (Try.prog.info? 158).map (fun i => (i.zero, i.size, i.bytes)) = some (some (.slice none 0 0), 1, 24) := by kernel_rfl
set_option maxRecDepth 100000 in
theorem flat66 (w : World) : Calls Try.prog 66 #[.slice none 0 0] w fun e w' => e = .returned (.bool true) ∧ Keeps NoB w w' := by
  obtain ⟨i0, hi0, hz0, hz1, hz2⟩ := info_parts Try.infoE158
  have hb := hide (show i0.bytes * 0 ≤ 281474976710656 from by omega)
  go_enter Try.func66, Try.ntmps66
  go_wp2
  go_loopw [3] (fun i wr => i = .int .i64 0 ∧ Keeps NoB w wr) (fun _ _ => 0)
  case atStart => exact ⟨rfl, Keeps.refl _ _⟩
  case round =>
    obtain ⟨rfl, hk⟩ := hrel
    have HK := hide hk
    clear hk
    go_wp2_with (refine wpList_make_full _ rfl _ _ 82 rfl wr.heap.size 158 i0 _ 1 Try.underlying82 hi0 hz0 hz1 .i64 .i64 0 0 0 rfl rfl rfl rfl hb.out (Nat.zero_le _) (Nat.le_refl _) ?_)
    intro w2 _ hg
    have HK := hide (HK.out.grown hg (fun k h _ => by cases h))
    clear hg
    go_wp2
    go_loopw [6] (fun i wr => i = .int .i64 0 ∧ Keeps NoB w wr) (fun _ _ => 0)
    case atStart => exact ⟨rfl, HK.out⟩
    case round =>
      obtain ⟨rfl, hk⟩ := hrel
      have HK := hide hk
      clear hk
      go_wp2
      go_loopw [9] (fun i wr => i = .int .i64 0 ∧ Keeps NoB w wr) (fun _ _ => 0)
      case atStart => exact ⟨rfl, HK.out⟩
      case round =>
        obtain ⟨rfl, hk⟩ := hrel
        have HK := hide hk
        clear hk
        go_wp2
        go_loopw [11] (fun i wr => i = .int .i64 0 ∧ Keeps NoB w wr) (fun _ _ => 0)
        case atStart => exact ⟨rfl, HK.out⟩
        case round =>
          obtain ⟨rfl, hk⟩ := hrel
          have HK := hide hk
          clear hk
          go_wp2
          go_loopw [14] (fun i wr => i = .int .i64 0 ∧ Keeps NoB w wr) (fun _ _ => 0)
          case atStart => exact ⟨rfl, HK.out⟩
          case round =>
            obtain ⟨rfl, hk⟩ := hrel
            have HK := hide hk
            clear hk
            go_wp2
            go_ret
            exact ⟨rfl, HK.out⟩

theorem Try.infoE162 : (Try.prog.info? 162).map (fun i => (i.zero, i.size, i.bytes)) = some (some (.slice none 0 0), 1, 24) := by kernel_rfl
set_option maxRecDepth 100000 in
theorem flat67 (w : World) : Calls Try.prog 67 #[.slice none 0 0] w fun e w' => e = .returned (.bool true) ∧ Keeps NoB w w' := by
  obtain ⟨i0, hi0, hz0, hz1, hz2⟩ := info_parts Try.infoE162
  have hb := hide (show i0.bytes * 0 ≤ 281474976710656 from by omega)
  go_enter Try.func67, Try.ntmps67
  go_wp2
  go_loopw [3] (fun i wr => i = .int .i64 0 ∧ Keeps NoB w wr) (fun _ _ => 0)
  case atStart => exact ⟨rfl, Keeps.refl _ _⟩
  case round =>
    obtain ⟨rfl, hk⟩ := hrel
    have HK := hide hk
    clear hk
    go_wp2_with (refine wpList_make_full _ rfl _ _ 83 rfl wr.heap.size 162 i0 _ 1 Try.underlying83 hi0 hz0 hz1 .i64 .i64 0 0 0 rfl rfl rfl rfl hb.out (Nat.zero_le _) (Nat.le_refl _) ?_)
    intro w2 _ hg
    have HK := hide (HK.out.grown hg (fun k h _ => by cases h))
    clear hg
    go_wp2
    go_loopw [6] (fun i wr => i = .int .i64 0 ∧ Keeps NoB w wr) (fun _ _ => 0)
    case atStart => exact ⟨rfl, HK.out⟩
    case round =>
      obtain ⟨rfl, hk⟩ := hrel
      have HK := hide hk
      clear hk
      go_wp2
      go_loopw [9] (fun i wr => i = .int .i64 0 ∧ Keeps NoB w wr) (fun _ _ => 0)
      case atStart => exact ⟨rfl, HK.out⟩
      case round =>
        obtain ⟨rfl, hk⟩ := hrel
        have HK := hide hk
        clear hk
        go_wp2
        go_loopw [11] (fun i wr => i = .int .i64 0 ∧ Keeps NoB w wr) (fun _ _ => 0)
        case atStart => exact ⟨rfl, HK.out⟩
        case round =>
          obtain ⟨rfl, hk⟩ := hrel
          have HK := hide hk
          clear hk
          go_wp2
          go_loopw [14] (fun i wr => i = .int .i64 0 ∧ Keeps NoB w wr) (fun _ _ => 0)
          case atStart => exact ⟨rfl, HK.out⟩
          case round =>
            obtain ⟨rfl, hk⟩ := hrel
            have HK := hide hk
            clear hk
            go_wp2
            go_ret
            exact ⟨rfl, HK.out⟩

theorem Try.infoE167 : (Try.prog.info? 167).map (fun i => (i.zero, i.size, i.bytes)) = some (some (.slice none 0 0), 1, 24) := by kernel_rfl
set_option maxRecDepth 100000 in
theorem flat68 (w : World) : Calls Try.prog 68 #[.slice none 0 0] w fun e w' => e = .returned (.bool true) ∧ Keeps NoB w w' := by
  obtain ⟨i0, hi0, hz0, hz1, hz2⟩ := info_parts Try.infoE167
  have hb := hide (show i0.bytes * 0 ≤ 281474976710656 from by omega)
  go_enter Try.func68, Try.ntmps68
  go_wp2
  go_loopw [3] (fun i wr => i = .int .i64 0 ∧ Keeps NoB w wr) (fun _ _ => 0)
  case atStart => exact ⟨rfl, Keeps.refl _ _⟩
  case round =>
    obtain ⟨rfl, hk⟩ := hrel
    have HK := hide hk
    clear hk
    go_wp2_with (refine wpList_make_full _ rfl _ _ 84 rfl wr.heap.size 167 i0 _ 1 Try.underlying84 hi0 hz0 hz1 .i64 .i64 0 0 0 rfl rfl rfl rfl hb.out (Nat.zero_le _) (Nat.le_refl _) ?_)
    intro w2 _ hg
    have HK := hide (HK.out.grown hg (fun k h _ => by cases h))
    clear hg
    go_wp2
    go_loopw [6] (fun i wr => i = .int .i64 0 ∧ Keeps NoB w wr) (fun _ _ => 0)
    case atStart => exact ⟨rfl, HK.out⟩
    case round =>
      obtain ⟨rfl, hk⟩ := hrel
      have HK := hide hk
      clear hk
      go_wp2
      go_loopw [9] (fun i wr => i = .int .i64 0 ∧ Keeps NoB w wr) (fun _ _ => 0)
      case atStart => exact ⟨rfl, HK.out⟩
      case round =>
        obtain ⟨rfl, hk⟩ := hrel
        have HK := hide hk
        clear hk
        go_wp2
        go_loopw [11] (fun i wr => i = .int .i64 0 ∧ Keeps NoB w wr) (fun _ _ => 0)
        case atStart => exact ⟨rfl, HK.out⟩
        case round =>
          obtain ⟨rfl, hk⟩ := hrel
          have HK := hide hk
          clear hk
          go_wp2
          go_loopw [14] (fun i wr => i = .int .i64 0 ∧ Keeps NoB w wr) (fun _ _ => 0)
          case atStart => exact ⟨rfl, HK.out⟩
          case round =>
            obtain ⟨rfl, hk⟩ := hrel
            have HK := hide hk
            clear hk
            go_wp2
            go_ret
            exact ⟨rfl, HK.out⟩

theorem Try.infoE172 : (Try.prog.info? 172).map (fun i => (i.zero, i.size, i.bytes)) = some (some (.slice none 0 0), 1, 24) := by kernel_rfl
set_option maxRecDepth 100000 in
theorem flat69 (w : World) : Calls Try.prog 69 #[.slice none 0 0] w fun e w' => e = .returned (.bool true) ∧ Keeps NoB w w' := by
  obtain ⟨i0, hi0, hz0, hz1, hz2⟩ := info_parts Try.infoE172
  have hb := hide (show i0.bytes * 0 ≤ 281474976710656 from by omega)
  go_enter Try.func69, Try.ntmps69
  go_wp2
  go_loopw [3] (fun i wr => i = .int .i64 0 ∧ Keeps NoB w wr) (fun _ _ => 0)
  case atStart => exact ⟨rfl, Keeps.refl _ _⟩
  case round =>
    obtain ⟨rfl, hk⟩ := hrel
    have HK := hide hk
    clear hk
    go_wp2_with (refine wpList_make_full _ rfl _ _ 85 rfl wr.heap.size 172 i0 _ 1 Try.underlying85 hi0 hz0 hz1 .i64 .i64 0 0 0 rfl rfl rfl rfl hb.out (Nat.zero_le _) (Nat.le_refl _) ?_)
    intro w2 _ hg
    have HK := hide (HK.out.grown hg (fun k h _ => by cases h))
    clear hg
    go_wp2
    go_loopw [6] (fun i wr => i = .int .i64 0 ∧ Keeps NoB w wr) (fun _ _ => 0)
    case atStart => exact ⟨rfl, HK.out⟩
    case round =>
      obtain ⟨rfl, hk⟩ := hrel
      have HK := hide hk
      clear hk
      go_wp2
      go_loopw [9] (fun i wr => i = .int .i64 0 ∧ Keeps NoB w wr) (fun _ _ => 0)
      case atStart => exact ⟨rfl, HK.out⟩
      case round =>
        obtain ⟨rfl, hk⟩ := hrel
        have HK := hide hk
        clear hk
        go_wp2
        go_loopw [11] (fun i wr => i = .int .i64 0 ∧ Keeps NoB w wr) (fun _ _ => 0)
        case atStart => exact ⟨rfl, HK.out⟩
        case round =>
          obtain ⟨rfl, hk⟩ := hrel
          have HK := hide hk
          clear hk
          go_wp2
          go_loopw [14] (fun i wr => i = .int .i64 0 ∧ Keeps NoB w wr) (fun _ _ => 0)
          case atStart => exact ⟨rfl, HK.out⟩
          case round =>
            obtain ⟨rfl, hk⟩ := hrel
            have HK := hide hk
            clear hk
            go_wp2
            go_ret
            exact ⟨rfl, HK.out⟩

theorem Try.infoE177 : (Try.prog.info? 177).map (fun i => (i.zero, i.size, i.bytes)) = some (some (.slice none 0 0), 1, 24) := by kernel_rfl
set_option maxRecDepth 100000 in
theorem flat70 (w : World) : Calls Try.prog 70 #[.slice none 0 0] w fun e w' => e = .returned (.bool true) ∧ Keeps NoB w w' := by
  obtain ⟨i0, hi0, hz0, hz1, hz2⟩ := info_parts Try.infoE177
  have hb := hide (show i0.bytes * 0 ≤ 281474976710656 from by omega)
  go_enter Try.func70, Try.ntmps70
  go_wp2
  go_loopw [3] (fun i wr => i = .int .i64 0 ∧ Keeps NoB w wr) (fun _ _ => 0)
  case atStart => exact ⟨rfl, Keeps.refl _ _⟩
  case round =>
    obtain ⟨rfl, hk⟩ := hrel
    have HK := hide hk
    clear hk
    go_wp2_with (refine wpList_make_full _ rfl _ _ 86 rfl wr.heap.size 177 i0 _ 1 Try.underlying86 hi0 hz0 hz1 .i64 .i64 0 0 0 rfl rfl rfl rfl hb.out (Nat.zero_le _) (Nat.le_refl _) ?_)
    intro w2 _ hg
    have HK := hide (HK.out.grown hg (fun k h _ => by cases h))
    clear hg
    go_wp2
    go_loopw [6] (fun i wr => i = .int .i64 0 ∧ Keeps NoB w wr) (fun _ _ => 0)
    case atStart => exact ⟨rfl, HK.out⟩
    case round =>
      obtain ⟨rfl, hk⟩ := hrel
      have HK := hide hk
      clear hk
      go_wp2
      go_loopw [9] (fun i wr => i = .int .i64 0 ∧ Keeps NoB w wr) (fun _ _ => 0)
      case atStart => exact ⟨rfl, HK.out⟩
      case round =>
        obtain ⟨rfl, hk⟩ := hrel
        have HK := hide hk
        clear hk
        go_wp2
        go_loopw [11] (fun i wr => i = .int .i64 0 ∧ Keeps NoB w wr) (fun _ _ => 0)
        case atStart => exact ⟨rfl, HK.out⟩
        case round =>
          obtain ⟨rfl, hk⟩ := hrel
          have HK := hide hk
          clear hk
          go_wp2
          go_loopw [14] (fun i wr => i = .int .i64 0 ∧ Keeps NoB w wr) (fun _ _ => 0)
          case atStart => exact ⟨rfl, HK.out⟩
          case round =>
            obtain ⟨rfl, hk⟩ := hrel
            have HK := hide hk
            clear hk
            go_wp2
            go_ret
            exact ⟨rfl, HK.out⟩

theorem Try.infoE181 : (Try.prog.info? 181).map (fun i => (i.zero, i.size, i.bytes)) = some (some (.slice none 0 0), 1, 24) := by kernel_rfl
set_option maxRecDepth 100000 in
theorem flat71 (w : World) : Calls Try.prog 71 #[.slice none 0 0] w fun e w' => e = .returned (.bool true) ∧ Keeps NoB w w' := by
  obtain ⟨i0, hi0, hz0, hz1, hz2⟩ := info_parts Try.infoE181
  have hb := hide (show i0.bytes * 0 ≤ 281474976710656 from by omega)
  go_enter Try.func71, Try.ntmps71
  go_wp2
  go_loopw [3] (fun i wr => i = .int .i64 0 ∧ Keeps NoB w wr) (fun _ _ => 0)
  case atStart => exact ⟨rfl, Keeps.refl _ _⟩
  case round =>
    obtain ⟨rfl, hk⟩ := hrel
    have HK := hide hk
    clear hk
    go_wp2_with (refine wpList_make_full _ rfl _ _ 87 rfl wr.heap.size 181 i0 _ 1 Try.underlying87 hi0 hz0 hz1 .i64 .i64 0 0 0 rfl rfl rfl rfl hb.out (Nat.zero_le _) (Nat.le_refl _) ?_)
    intro w2 _ hg
    have HK := hide (HK.out.grown hg (fun k h _ => by cases h))
    clear hg
    go_wp2
    go_loopw [6] (fun i wr => i = .int .i64 0 ∧ Keeps NoB w wr) (fun _ _ => 0)
    case atStart => exact ⟨rfl, HK.out⟩
    case round =>
      obtain ⟨rfl, hk⟩ := hrel
      have HK := hide hk
      clear hk
      go_wp2
      go_loopw [9] (fun i wr => i = .int .i64 0 ∧ Keeps NoB w wr) (fun _ _ => 0)
      case atStart => exact ⟨rfl, HK.out⟩
      case round =>
        obtain ⟨rfl, hk⟩ := hrel
        have HK := hide hk
        clear hk
        go_wp2
        go_loopw [11] (fun i wr => i = .int .i64 0 ∧ Keeps NoB w wr) (fun _ _ => 0)
        case atStart => exact ⟨rfl, HK.out⟩
        case round =>
          obtain ⟨rfl, hk⟩ := hrel
          have HK := hide hk
          clear hk
          go_wp2
          go_loopw [14] (fun i wr => i = .int .i64 0 ∧ Keeps NoB w wr) (fun _ _ => 0)
          case atStart => exact ⟨rfl, HK.out⟩
          case round =>
            obtain ⟨rfl, hk⟩ := hrel
            have HK := hide hk
            clear hk
            go_wp2
            go_ret
            exact ⟨rfl, HK.out⟩

end Go.Proofs.Ytmkidkfofbnjgaa
