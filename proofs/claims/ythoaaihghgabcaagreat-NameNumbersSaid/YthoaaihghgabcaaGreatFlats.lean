/- pigeonholekit: lists of lists that are none lie apart. -/
import Derived.Test.YthoaaihghgabcaaGreatFlat
import Derived.Test.YthoaaihghgabcaaGreatSame
import Derived.OwnWalk
namespace Go.Proofs.YthoaaihghgabcaaGreat
open Go.RowKit

theorem Tryz.infoE108 : (Tryz.prog.info? 108).map (fun i => (i.zero, i.size, i.bytes)) = some (some (.slice none 0 0), 1, 24) := by kernel_rfl
set_option maxRecDepth 100000 in
theorem flat32 (w : World) : Calls Tryz.prog 32 #[.slice none 0 0] w fun e w' => e = .returned (.bool true) ∧ Keeps NoB w w' := by
  obtain ⟨i0, hi0, hz0, hz1, hz2⟩ := info_parts Tryz.infoE108
  have hb := hide (show i0.bytes * 0 ≤ 281474976710656 from by omega)
  go_enter Tryz.func32, Tryz.ntmps32
  go_wp2
  go_loopw [3] (fun i wr => i = .int .i64 0 ∧ Keeps NoB w wr) (fun _ _ => 0)
  case atStart => exact ⟨rfl, Keeps.refl _ _⟩
  case round =>
    obtain ⟨rfl, hk⟩ := hrel
    have HK := hide hk
    clear hk
    go_wp2_with (refine wpList_make_full _ rfl _ _ 60 rfl wr.heap.size 108 i0 _ 1 Tryz.underlying60 hi0 hz0 hz1 .i64 .i64 0 0 0 rfl rfl rfl rfl hb.out (Nat.zero_le _) (Nat.le_refl _) ?_)
    intro w2 _ hg
    have HK := hide (HK.out.grown hg (fun k h _ => by cases h))
    clear hg
    go_wp2
    go_loopw [6] (fun i wr => i = .int .i64 0 ∧ Keeps NoB w wr) (fun _ _ => 0)
    case atStart => exact ⟨rfl, HK.out⟩
    case round =>
      obtain ⟨rfl, hk⟩ := hrel
      have HK := hide hk
      clear hk
      go_wp2
      go_loopw [9] (fun i wr => i = .int .i64 0 ∧ Keeps NoB w wr) (fun _ _ => 0)
      case atStart => exact ⟨rfl, HK.out⟩
      case round =>
        obtain ⟨rfl, hk⟩ := hrel
        have HK := hide hk
        clear hk
        go_wp2
        go_loopw [11] (fun i wr => i = .int .i64 0 ∧ Keeps NoB w wr) (fun _ _ => 0)
        case atStart => exact ⟨rfl, HK.out⟩
        case round =>
          obtain ⟨rfl, hk⟩ := hrel
          have HK := hide hk
          clear hk
          go_wp2
          go_loopw [14] (fun i wr => i = .int .i64 0 ∧ Keeps NoB w wr) (fun _ _ => 0)
          case atStart => exact ⟨rfl, HK.out⟩
          case round =>
            obtain ⟨rfl, hk⟩ := hrel
            have HK := hide hk
            clear hk
            go_wp2
            go_ret
            exact ⟨rfl, HK.out⟩

theorem Tryz.infoE110 : (Tryz.prog.info? 110).map (fun i => (i.zero, i.size, i.bytes)) = some (some (.slice none 0 0), 1, 24) := by kernel_rfl
set_option maxRecDepth 100000 in
theorem flat33 (w : World) : Calls Tryz.prog 33 #[.slice none 0 0] w fun e w' => e = .returned (.bool true) ∧ Keeps NoB w w' := by
  obtain ⟨i0, hi0, hz0, hz1, hz2⟩ := info_parts Tryz.infoE110
  have hb := hide (show i0.bytes * 0 ≤ 281474976710656 from by omega)
  go_enter Tryz.func33, Tryz.ntmps33
  go_wp2
  go_loopw [3] (fun i wr => i = .int .i64 0 ∧ Keeps NoB w wr) (fun _ _ => 0)
  case atStart => exact ⟨rfl, Keeps.refl _ _⟩
  case round =>
    obtain ⟨rfl, hk⟩ := hrel
    have HK := hide hk
    clear hk
    go_wp2_with (refine wpList_make_full _ rfl _ _ 61 rfl wr.heap.size 110 i0 _ 1 Tryz.underlying61 hi0 hz0 hz1 .i64 .i64 0 0 0 rfl rfl rfl rfl hb.out (Nat.zero_le _) (Nat.le_refl _) ?_)
    intro w2 _ hg
    have HK := hide (HK.out.grown hg (fun k h _ => by cases h))
    clear hg
    go_wp2
    go_loopw [6] (fun i wr => i = .int .i64 0 ∧ Keeps NoB w wr) (fun _ _ => 0)
    case atStart => exact ⟨rfl, HK.out⟩
    case round =>
      obtain ⟨rfl, hk⟩ := hrel
      have HK := hide hk
      clear hk
      go_wp2
      go_loopw [9] (fun i wr => i = .int .i64 0 ∧ Keeps NoB w wr) (fun _ _ => 0)
      case atStart => exact ⟨rfl, HK.out⟩
      case round =>
        obtain ⟨rfl, hk⟩ := hrel
        have HK := hide hk
        clear hk
        go_wp2
        go_loopw [11] (fun i wr => i = .int .i64 0 ∧ Keeps NoB w wr) (fun _ _ => 0)
        case atStart => exact ⟨rfl, HK.out⟩
        case round =>
          obtain ⟨rfl, hk⟩ := hrel
          have HK := hide hk
          clear hk
          go_wp2
          go_loopw [14] (fun i wr => i = .int .i64 0 ∧ Keeps NoB w wr) (fun _ _ => 0)
          case atStart => exact ⟨rfl, HK.out⟩
          case round =>
            obtain ⟨rfl, hk⟩ := hrel
            have HK := hide hk
            clear hk
            go_wp2
            go_ret
            exact ⟨rfl, HK.out⟩

theorem Tryz.infoE39 : (Tryz.prog.info? 39).map (fun i => (i.zero, i.size, i.bytes)) = some (some (.slice none 0 0), 1, 24) := by kernel_rfl
set_option maxRecDepth 100000 in
theorem flat34 (w : World) : Calls Tryz.prog 34 #[.slice none 0 0] w fun e w' => e = .returned (.bool true) ∧ Keeps NoB w w' := by
  obtain ⟨i0, hi0, hz0, hz1, hz2⟩ := info_parts Tryz.infoE39
  have hb := hide (show i0.bytes * 0 ≤ 281474976710656 from by omega)
  go_enter Tryz.func34, Tryz.ntmps34
  go_wp2
  go_loopw [3] (fun i wr => i = .int .i64 0 ∧ Keeps NoB w wr) (fun _ _ => 0)
  case atStart => exact ⟨rfl, Keeps.refl _ _⟩
  case round =>
    obtain ⟨rfl, hk⟩ := hrel
    have HK := hide hk
    clear hk
    go_wp2_with (refine wpList_make_full _ rfl _ _ 62 rfl wr.heap.size 39 i0 _ 1 Tryz.underlying62 hi0 hz0 hz1 .i64 .i64 0 0 0 rfl rfl rfl rfl hb.out (Nat.zero_le _) (Nat.le_refl _) ?_)
    intro w2 _ hg
    have HK := hide (HK.out.grown hg (fun k h _ => by cases h))
    clear hg
    go_wp2
    go_loopw [6] (fun i wr => i = .int .i64 0 ∧ Keeps NoB w wr) (fun _ _ => 0)
    case atStart => exact ⟨rfl, HK.out⟩
    case round =>
      obtain ⟨rfl, hk⟩ := hrel
      have HK := hide hk
      clear hk
      go_wp2
      go_loopw [9] (fun i wr => i = .int .i64 0 ∧ Keeps NoB w wr) (fun _ _ => 0)
      case atStart => exact ⟨rfl, HK.out⟩
      case round =>
        obtain ⟨rfl, hk⟩ := hrel
        have HK := hide hk
        clear hk
        go_wp2
        go_loopw [11] (fun i wr => i = .int .i64 0 ∧ Keeps NoB w wr) (fun _ _ => 0)
        case atStart => exact ⟨rfl, HK.out⟩
        case round =>
          obtain ⟨rfl, hk⟩ := hrel
          have HK := hide hk
          clear hk
          go_wp2
          go_loopw [14] (fun i wr => i = .int .i64 0 ∧ Keeps NoB w wr) (fun _ _ => 0)
          case atStart => exact ⟨rfl, HK.out⟩
          case round =>
            obtain ⟨rfl, hk⟩ := hrel
            have HK := hide hk
            clear hk
            go_wp2
            go_ret
            exact ⟨rfl, HK.out⟩

theorem Tryz.infoE112 : (Tryz.prog.info? 112).map (fun i => (i.zero, i.size, i.bytes)) = some (some (.slice none 0 0), 1, 24) := by kernel_rfl
set_option maxRecDepth 100000 in
theorem flat35 (w : World) : Calls Tryz.prog 35 #[.slice none 0 0] w fun e w' => e = .returned (.bool true) ∧ Keeps NoB w w' := by
  obtain ⟨i0, hi0, hz0, hz1, hz2⟩ := info_parts Tryz.infoE112
  have hb := hide (show i0.bytes * 0 ≤ 281474976710656 from by omega)
  go_enter Tryz.func35, Tryz.ntmps35
  go_wp2
  go_loopw [3] (fun i wr => i = .int .i64 0 ∧ Keeps NoB w wr) (fun _ _ => 0)
  case atStart => exact ⟨rfl, Keeps.refl _ _⟩
  case round =>
    obtain ⟨rfl, hk⟩ := hrel
    have HK := hide hk
    clear hk
    go_wp2_with (refine wpList_make_full _ rfl _ _ 63 rfl wr.heap.size 112 i0 _ 1 Tryz.underlying63 hi0 hz0 hz1 .i64 .i64 0 0 0 rfl rfl rfl rfl hb.out (Nat.zero_le _) (Nat.le_refl _) ?_)
    intro w2 _ hg
    have HK := hide (HK.out.grown hg (fun k h _ => by cases h))
    clear hg
    go_wp2
    go_loopw [6] (fun i wr => i = .int .i64 0 ∧ Keeps NoB w wr) (fun _ _ => 0)
    case atStart => exact ⟨rfl, HK.out⟩
    case round =>
      obtain ⟨rfl, hk⟩ := hrel
      have HK := hide hk
      clear hk
      go_wp2
      go_loopw [9] (fun i wr => i = .int .i64 0 ∧ Keeps NoB w wr) (fun _ _ => 0)
      case atStart => exact ⟨rfl, HK.out⟩
      case round =>
        obtain ⟨rfl, hk⟩ := hrel
        have HK := hide hk
        clear hk
        go_wp2
        go_loopw [11] (fun i wr => i = .int .i64 0 ∧ Keeps NoB w wr) (fun _ _ => 0)
        case atStart => exact ⟨rfl, HK.out⟩
        case round =>
          obtain ⟨rfl, hk⟩ := hrel
          have HK := hide hk
          clear hk
          go_wp2
          go_loopw [14] (fun i wr => i = .int .i64 0 ∧ Keeps NoB w wr) (fun _ _ => 0)
          case atStart => exact ⟨rfl, HK.out⟩
          case round =>
            obtain ⟨rfl, hk⟩ := hrel
            have HK := hide hk
            clear hk
            go_wp2
            go_ret
            exact ⟨rfl, HK.out⟩

theorem Tryz.infoE38 : (Tryz.prog.info? 38).map (fun i => (i.zero, i.size, i.bytes)) = some (some (.slice none 0 0), 1, 24) := by kernel_rfl
set_option maxRecDepth 100000 in
theorem flat36 (w : World) : Calls Tryz.prog 36 #[.slice none 0 0] w fun e w' => e = .returned (.bool true) ∧ Keeps NoB w w' := by
  obtain ⟨i0, hi0, hz0, hz1, hz2⟩ := info_parts Tryz.infoE38
  have hb := hide (show i0.bytes * 0 ≤ 281474976710656 from by omega)
  go_enter Tryz.func36, Tryz.ntmps36
  go_wp2
  go_loopw [3] (fun i wr => i = .int .i64 0 ∧ Keeps NoB w wr) (fun _ _ => 0)
  case atStart => exact ⟨rfl, Keeps.refl _ _⟩
  case round =>
    obtain ⟨rfl, hk⟩ := hrel
    have HK := hide hk
    clear hk
    go_wp2_with (refine wpList_make_full _ rfl _ _ 64 rfl wr.heap.size 38 i0 _ 1 Tryz.underlying64 hi0 hz0 hz1 .i64 .i64 0 0 0 rfl rfl rfl rfl hb.out (Nat.zero_le _) (Nat.le_refl _) ?_)
    intro w2 _ hg
    have HK := hide (HK.out.grown hg (fun k h _ => by cases h))
    clear hg
    go_wp2
    go_loopw [6] (fun i wr => i = .int .i64 0 ∧ Keeps NoB w wr) (fun _ _ => 0)
    case atStart => exact ⟨rfl, HK.out⟩
    case round =>
      obtain ⟨rfl, hk⟩ := hrel
      have HK := hide hk
      clear hk
      go_wp2
      go_loopw [9] (fun i wr => i = .int .i64 0 ∧ Keeps NoB w wr) (fun _ _ => 0)
      case atStart => exact ⟨rfl, HK.out⟩
      case round =>
        obtain ⟨rfl, hk⟩ := hrel
        have HK := hide hk
        clear hk
        go_wp2
        go_loopw [11] (fun i wr => i = .int .i64 0 ∧ Keeps NoB w wr) (fun _ _ => 0)
        case atStart => exact ⟨rfl, HK.out⟩
        case round =>
          obtain ⟨rfl, hk⟩ := hrel
          have HK := hide hk
          clear hk
          go_wp2
          go_loopw [14] (fun i wr => i = .int .i64 0 ∧ Keeps NoB w wr) (fun _ _ => 0)
          case atStart => exact ⟨rfl, HK.out⟩
          case round =>
            obtain ⟨rfl, hk⟩ := hrel
            have HK := hide hk
            clear hk
            go_wp2
            go_ret
            exact ⟨rfl, HK.out⟩

theorem Tryz.infoE114 : (Tryz.prog.info? 114).map (fun i => (i.zero, i.size, i.bytes)) = some (some (.slice none 0 0), 1, 24) := by kernel_rfl
set_option maxRecDepth 100000 in
theorem flat37 (w : World) : Calls Tryz.prog 37 #[.slice none 0 0] w fun e w' => e = .returned (.bool true) ∧ Keeps NoB w w' := by
  obtain ⟨i0, hi0, hz0, hz1, hz2⟩ := info_parts Tryz.infoE114
  have hb := hide (show i0.bytes * 0 ≤ 281474976710656 from by omega)
  go_enter Tryz.func37, Tryz.ntmps37
  go_wp2
  go_loopw [3] (fun i wr => i = .int .i64 0 ∧ Keeps NoB w wr) (fun _ _ => 0)
  case atStart => exact ⟨rfl, Keeps.refl _ _⟩
  case round =>
    obtain ⟨rfl, hk⟩ := hrel
    have HK := hide hk
    clear hk
    go_wp2_with (refine wpList_make_full _ rfl _ _ 65 rfl wr.heap.size 114 i0 _ 1 Tryz.underlying65 hi0 hz0 hz1 .i64 .i64 0 0 0 rfl rfl rfl rfl hb.out (Nat.zero_le _) (Nat.le_refl _) ?_)
    intro w2 _ hg
    have HK := hide (HK.out.grown hg (fun k h _ => by cases h))
    clear hg
    go_wp2
    go_loopw [6] (fun i wr => i = .int .i64 0 ∧ Keeps NoB w wr) (fun _ _ => 0)
    case atStart => exact ⟨rfl, HK.out⟩
    case round =>
      obtain ⟨rfl, hk⟩ := hrel
      have HK := hide hk
      clear hk
      go_wp2
      go_loopw [9] (fun i wr => i = .int .i64 0 ∧ Keeps NoB w wr) (fun _ _ => 0)
      case atStart => exact ⟨rfl, HK.out⟩
      case round =>
        obtain ⟨rfl, hk⟩ := hrel
        have HK := hide hk
        clear hk
        go_wp2
        go_loopw [11] (fun i wr => i = .int .i64 0 ∧ Keeps NoB w wr) (fun _ _ => 0)
        case atStart => exact ⟨rfl, HK.out⟩
        case round =>
          obtain ⟨rfl, hk⟩ := hrel
          have HK := hide hk
          clear hk
          go_wp2
          go_loopw [14] (fun i wr => i = .int .i64 0 ∧ Keeps NoB w wr) (fun _ _ => 0)
          case atStart => exact ⟨rfl, HK.out⟩
          case round =>
            obtain ⟨rfl, hk⟩ := hrel
            have HK := hide hk
            clear hk
            go_wp2
            go_ret
            exact ⟨rfl, HK.out⟩

theorem Tryz.infoE116 : (Tryz.prog.info? 116).map (fun i => (i.zero, i.size, i.bytes)) = some (some (.slice none 0 0), 1, 24) := by kernel_rfl
set_option maxRecDepth 100000 in
theorem flat38 (w : World) : Calls Tryz.prog 38 #[.slice none 0 0] w fun e w' => e = .returned (.bool true) ∧ Keeps NoB w w' := by
  obtain ⟨i0, hi0, hz0, hz1, hz2⟩ := info_parts Tryz.infoE116
  have hb := hide (show i0.bytes * 0 ≤ 281474976710656 from by omega)
  go_enter Tryz.func38, Tryz.ntmps38
  go_wp2
  go_loopw [3] (fun i wr => i = .int .i64 0 ∧ Keeps NoB w wr) (fun _ _ => 0)
  case atStart => exact ⟨rfl, Keeps.refl _ _⟩
  case round =>
    obtain ⟨rfl, hk⟩ := hrel
    have HK := hide hk
    clear hk
    go_wp2_with (refine wpList_make_full _ rfl _ _ 66 rfl wr.heap.size 116 i0 _ 1 Tryz.underlying66 hi0 hz0 hz1 .i64 .i64 0 0 0 rfl rfl rfl rfl hb.out (Nat.zero_le _) (Nat.le_refl _) ?_)
    intro w2 _ hg
    have HK := hide (HK.out.grown hg (fun k h _ => by cases h))
    clear hg
    go_wp2
    go_loopw [6] (fun i wr => i = .int .i64 0 ∧ Keeps NoB w wr) (fun _ _ => 0)
    case atStart => exact ⟨rfl, HK.out⟩
    case round =>
      obtain ⟨rfl, hk⟩ := hrel
      have HK := hide hk
      clear hk
      go_wp2
      go_loopw [9] (fun i wr => i = .int .i64 0 ∧ Keeps NoB w wr) (fun _ _ => 0)
      case atStart => exact ⟨rfl, HK.out⟩
      case round =>
        obtain ⟨rfl, hk⟩ := hrel
        have HK := hide hk
        clear hk
        go_wp2
        go_loopw [11] (fun i wr => i = .int .i64 0 ∧ Keeps NoB w wr) (fun _ _ => 0)
        case atStart => exact ⟨rfl, HK.out⟩
        case round =>
          obtain ⟨rfl, hk⟩ := hrel
          have HK := hide hk
          clear hk
          go_wp2
          go_loopw [14] (fun i wr => i = .int .i64 0 ∧ Keeps NoB w wr) (fun _ _ => 0)
          case atStart => exact ⟨rfl, HK.out⟩
          case round =>
            obtain ⟨rfl, hk⟩ := hrel
            have HK := hide hk
            clear hk
            go_wp2
            go_ret
            exact ⟨rfl, HK.out⟩

theorem Tryz.infoE121 : (Tryz.prog.info? 121).map (fun i => (i.zero, i.size, i.bytes)) = some (some (.slice none 0 0), 1, 24) := by kernel_rfl
set_option maxRecDepth 100000 in
theorem flat39 (w : World) : Calls Tryz.prog 39 #[.slice none 0 0] w fun e w' => e = .returned (.bool true) ∧ Keeps NoB w w' := by
  obtain ⟨i0, hi0, hz0, hz1, hz2⟩ := info_parts Tryz.infoE121
  have hb := hide (show i0.bytes * 0 ≤ 281474976710656 from by omega)
  go_enter Tryz.func39, Tryz.ntmps39
  go_wp2
  go_loopw [3] (fun i wr => i = .int .i64 0 ∧ Keeps NoB w wr) (fun _ _ => 0)
  case atStart => exact ⟨rfl, Keeps.refl _ _⟩
  case round =>
    obtain ⟨rfl, hk⟩ := hrel
    have HK := hide hk
    clear hk
    go_wp2_with (refine wpList_make_full _ rfl _ _ 67 rfl wr.heap.size 121 i0 _ 1 Tryz.underlying67 hi0 hz0 hz1 .i64 .i64 0 0 0 rfl rfl rfl rfl hb.out (Nat.zero_le _) (Nat.le_refl _) ?_)
    intro w2 _ hg
    have HK := hide (HK.out.grown hg (fun k h _ => by cases h))
    clear hg
    go_wp2
    go_loopw [6] (fun i wr => i = .int .i64 0 ∧ Keeps NoB w wr) (fun _ _ => 0)
    case atStart => exact ⟨rfl, HK.out⟩
    case round =>
      obtain ⟨rfl, hk⟩ := hrel
      have HK := hide hk
      clear hk
      go_wp2
      go_loopw [9] (fun i wr => i = .int .i64 0 ∧ Keeps NoB w wr) (fun _ _ => 0)
      case atStart => exact ⟨rfl, HK.out⟩
      case round =>
        obtain ⟨rfl, hk⟩ := hrel
        have HK := hide hk
        clear hk
        go_wp2
        go_loopw [11] (fun i wr => i = .int .i64 0 ∧ Keeps NoB w wr) (fun _ _ => 0)
        case atStart => exact ⟨rfl, HK.out⟩
        case round =>
          obtain ⟨rfl, hk⟩ := hrel
          have HK := hide hk
          clear hk
          go_wp2
          go_loopw [14] (fun i wr => i = .int .i64 0 ∧ Keeps NoB w wr) (fun _ _ => 0)
          case atStart => exact ⟨rfl, HK.out⟩
          case round =>
            obtain ⟨rfl, hk⟩ := hrel
            have HK := hide hk
            clear hk
            go_wp2
            go_ret
            exact ⟨rfl, HK.out⟩

theorem Tryz.infoE127 : (Tryz.prog.info? 127).map (fun i => (i.zero, i.size, i.bytes)) = some (some (.slice none 0 0), 1, 24) := by kernel_rfl
set_option maxRecDepth 100000 in
theorem flat40 (w : World) : Calls Tryz.prog 40 #[.slice none 0 0] w fun e w' => e = .returned (.bool true) ∧ Keeps NoB w w' := by
  obtain ⟨i0, hi0, hz0, hz1, hz2⟩ := info_parts Tryz.infoE127
  have hb := hide (show i0.bytes * 0 ≤ 281474976710656 from by omega)
  go_enter Tryz.func40, Tryz.ntmps40
  go_wp2
  go_loopw [3] (fun i wr => i = .int .i64 0 ∧ Keeps NoB w wr) (fun _ _ => 0)
  case atStart => exact ⟨rfl, Keeps.refl _ _⟩
  case round =>
    obtain ⟨rfl, hk⟩ := hrel
    have HK := hide hk
    clear hk
    go_wp2_with (refine wpList_make_full _ rfl _ _ 68 rfl wr.heap.size 127 i0 _ 1 Tryz.underlying68 hi0 hz0 hz1 .i64 .i64 0 0 0 rfl rfl rfl rfl hb.out (Nat.zero_le _) (Nat.le_refl _) ?_)
    intro w2 _ hg
    have HK := hide (HK.out.grown hg (fun k h _ => by cases h))
    clear hg
    go_wp2
    go_loopw [6] (fun i wr => i = .int .i64 0 ∧ Keeps NoB w wr) (fun _ _ => 0)
    case atStart => exact ⟨rfl, HK.out⟩
    case round =>
      obtain ⟨rfl, hk⟩ := hrel
      have HK := hide hk
      clear hk
      go_wp2
      go_loopw [9] (fun i wr => i = .int .i64 0 ∧ Keeps NoB w wr) (fun _ _ => 0)
      case atStart => exact ⟨rfl, HK.out⟩
      case round =>
        obtain ⟨rfl, hk⟩ := hrel
        have HK := hide hk
        clear hk
        go_wp2
        go_loopw [11] (fun i wr => i = .int .i64 0 ∧ Keeps NoB w wr) (fun _ _ => 0)
        case atStart => exact ⟨rfl, HK.out⟩
        case round =>
          obtain ⟨rfl, hk⟩ := hrel
          have HK := hide hk
          clear hk
          go_wp2
          go_loopw [14] (fun i wr => i = .int .i64 0 ∧ Keeps NoB w wr) (fun _ _ => 0)
          case atStart => exact ⟨rfl, HK.out⟩
          case round =>
            obtain ⟨rfl, hk⟩ := hrel
            have HK := hide hk
            clear hk
            go_wp2
            go_ret
            exact ⟨rfl, HK.out⟩

theorem Tryz.infoE132 : (Tryz.prog.info? 132).map (fun i => (i.zero, i.size, i.bytes)) = some (some (.slice none 0 0), 1, 24) := by kernel_rfl
set_option maxRecDepth 100000 in
theorem flat41 (w : World) : Calls Tryz.prog 41 #[.slice none 0 0] w fun e w' => e = .returned (.bool true) ∧ Keeps NoB w w' := by
  obtain ⟨i0, hi0, hz0, hz1, hz2⟩ := info_parts Tryz.infoE132
  have hb := hide (show i0.bytes * 0 ≤ 281474976710656 from by omega)
  go_enter Tryz.func41, Tryz.ntmps41
  go_wp2
  go_loopw [3] (fun i wr => i = .int .i64 0 ∧ Keeps NoB w wr) (fun _ _ => 0)
  case atStart => exact ⟨rfl, Keeps.refl _ _⟩
  case round =>
    obtain ⟨rfl, hk⟩ := hrel
    have HK := hide hk
    clear hk
    go_wp2_with (refine wpList_make_full _ rfl _ _ 69 rfl wr.heap.size 132 i0 _ 1 Tryz.underlying69 hi0 hz0 hz1 .i64 .i64 0 0 0 rfl rfl rfl rfl hb.out (Nat.zero_le _) (Nat.le_refl _) ?_)
    intro w2 _ hg
    have HK := hide (HK.out.grown hg (fun k h _ => by cases h))
    clear hg
    go_wp2
    go_loopw [6] (fun i wr => i = .int .i64 0 ∧ Keeps NoB w wr) (fun _ _ => 0)
    case atStart => exact ⟨rfl, HK.out⟩
    case round =>
      obtain ⟨rfl, hk⟩ := hrel
      have HK := hide hk
      clear hk
      go_wp2
      go_loopw [9] (fun i wr => i = .int .i64 0 ∧ Keeps NoB w wr) (fun _ _ => 0)
      case atStart => exact ⟨rfl, HK.out⟩
      case round =>
        obtain ⟨rfl, hk⟩ := hrel
        have HK := hide hk
        clear hk
        go_wp2
        go_loopw [11] (fun i wr => i = .int .i64 0 ∧ Keeps NoB w wr) (fun _ _ => 0)
        case atStart => exact ⟨rfl, HK.out⟩
        case round =>
          obtain ⟨rfl, hk⟩ := hrel
          have HK := hide hk
          clear hk
          go_wp2
          go_loopw [14] (fun i wr => i = .int .i64 0 ∧ Keeps NoB w wr) (fun _ _ => 0)
          case atStart => exact ⟨rfl, HK.out⟩
          case round =>
            obtain ⟨rfl, hk⟩ := hrel
            have HK := hide hk
            clear hk
            go_wp2
            go_ret
            exact ⟨rfl, HK.out⟩

theorem Tryz.infoE138 : (Tryz.prog.info? 138).map (fun i => (i.zero, i.size, i.bytes)) = some (some (.slice none 0 0), 1, 24) := by kernel_rfl
set_option maxRecDepth 100000 in
theorem flat42 (w : World) : Calls Tryz.prog 42 #[.slice none 0 0] w fun e w' => e = .returned (.bool true) ∧ Keeps NoB w w' := by
  obtain ⟨i0, hi0, hz0, hz1, hz2⟩ := info_parts Tryz.infoE138
  have hb := hide (show i0.bytes * 0 ≤ 281474976710656 from by omega)
  go_enter Tryz.func42, Tryz.ntmps42
  go_wp2
  go_loopw [3] (fun i wr => i = .int .i64 0 ∧ Keeps NoB w wr) (fun _ _ => 0)
  case atStart => exact ⟨rfl, Keeps.refl _ _⟩
  case round =>
    obtain ⟨rfl, hk⟩ := hrel
    have HK := hide hk
    clear hk
    go_wp2_with (refine wpList_make_full _ rfl _ _ 70 rfl wr.heap.size 138 i0 _ 1 Tryz.underlying70 hi0 hz0 hz1 .i64 .i64 0 0 0 rfl rfl rfl rfl hb.out (Nat.zero_le _) (Nat.le_refl _) ?_)
    intro w2 _ hg
    have HK := hide (HK.out.grown hg (fun k h _ => by cases h))
    clear hg
    go_wp2
    go_loopw [6] (fun i wr => i = .int .i64 0 ∧ Keeps NoB w wr) (fun _ _ => 0)
    case atStart => exact ⟨rfl, HK.out⟩
    case round =>
      obtain ⟨rfl, hk⟩ := hrel
      have HK := hide hk
      clear hk
      go_wp2
      go_loopw [9] (fun i wr => i = .int .i64 0 ∧ Keeps NoB w wr) (fun _ _ => 0)
      case atStart => exact ⟨rfl, HK.out⟩
      case round =>
        obtain ⟨rfl, hk⟩ := hrel
        have HK := hide hk
        clear hk
        go_wp2
        go_loopw [11] (fun i wr => i = .int .i64 0 ∧ Keeps NoB w wr) (fun _ _ => 0)
        case atStart => exact ⟨rfl, HK.out⟩
        case round =>
          obtain ⟨rfl, hk⟩ := hrel
          have HK := hide hk
          clear hk
          go_wp2
          go_loopw [14] (fun i wr => i = .int .i64 0 ∧ Keeps NoB w wr) (fun _ _ => 0)
          case atStart => exact ⟨rfl, HK.out⟩
          case round =>
            obtain ⟨rfl, hk⟩ := hrel
            have HK := hide hk
            clear hk
            go_wp2
            go_ret
            exact ⟨rfl, HK.out⟩

theorem Tryz.infoE144 : (Tryz.prog.info? 144).map (fun i => (i.zero, i.size, i.bytes)) = some (some (.slice none 0 0), 1, 24) := by kernel_rfl
set_option maxRecDepth 100000 in
theorem flat43 (w : World) : Calls Tryz.prog 43 #[.slice none 0 0] w fun e w' => e = .returned (.bool true) ∧ Keeps NoB w w' := by
  obtain ⟨i0, hi0, hz0, hz1, hz2⟩ := info_parts Tryz.infoE144
  have hb := hide (show i0.bytes * 0 ≤ 281474976710656 from by omega)
  go_enter Tryz.func43, Tryz.ntmps43
  go_wp2
  go_loopw [3] (fun i wr => i = .int .i64 0 ∧ Keeps NoB w wr) (fun _ _ => 0)
  case atStart => exact ⟨rfl, Keeps.refl _ _⟩
  case round =>
    obtain ⟨rfl, hk⟩ := hrel
    have HK := hide hk
    clear hk
    go_wp2_with (refine wpList_make_full _ rfl _ _ 71 rfl wr.heap.size 144 i0 _ 1 Tryz.underlying71 hi0 hz0 hz1 .i64 .i64 0 0 0 rfl rfl rfl rfl hb.out (Nat.zero_le _) (Nat.le_refl _) ?_)
    intro w2 _ hg
    have HK := hide (HK.out.grown hg (fun k h _ => by cases h))
    clear hg
    go_wp2
    go_loopw [6] (fun i wr => i = .int .i64 0 ∧ Keeps NoB w wr) (fun _ _ => 0)
    case atStart => exact ⟨rfl, HK.out⟩
    case round =>
      obtain ⟨rfl, hk⟩ := hrel
      have HK := hide hk
      clear hk
      go_wp2
      go_loopw [9] (fun i wr => i = .int .i64 0 ∧ Keeps NoB w wr) (fun _ _ => 0)
      case atStart => exact ⟨rfl, HK.out⟩
      case round =>
        obtain ⟨rfl, hk⟩ := hrel
        have HK := hide hk
        clear hk
        go_wp2
        go_loopw [11] (fun i wr => i = .int .i64 0 ∧ Keeps NoB w wr) (fun _ _ => 0)
        case atStart => exact ⟨rfl, HK.out⟩
        case round =>
          obtain ⟨rfl, hk⟩ := hrel
          have HK := hide hk
          clear hk
          go_wp2
          go_loopw [14] (fun i wr => i = .int .i64 0 ∧ Keeps NoB w wr) (fun _ _ => 0)
          case atStart => exact ⟨rfl, HK.out⟩
          case round =>
            obtain ⟨rfl, hk⟩ := hrel
            have HK := hide hk
            clear hk
            go_wp2
            go_ret
            exact ⟨rfl, HK.out⟩

theorem Tryz.infoE149 : (Tryz.prog.info? 149).map (fun i => (i.zero, i.size, i.bytes)) = some (some (.slice none 0 0), 1, 24) := by kernel_rfl
set_option maxRecDepth 100000 in
theorem flat44 (w : World) : Calls Tryz.prog 44 #[.slice none 0 0] w fun e w' => e = .returned (.bool true) ∧ Keeps NoB w w' := by
  obtain ⟨i0, hi0, hz0, hz1, hz2⟩ := info_parts Tryz.infoE149
  have hb := hide (show i0.bytes * 0 ≤ 281474976710656 from by omega)
  go_enter Tryz.func44, Tryz.ntmps44
  go_wp2
  go_loopw [3] (fun i wr => i = .int .i64 0 ∧ Keeps NoB w wr) (fun _ _ => 0)
  case atStart => exact ⟨rfl, Keeps.refl _ _⟩
  case round =>
    obtain ⟨rfl, hk⟩ := hrel
    have HK := hide hk
    clear hk
    go_wp2_with (refine wpList_make_full _ rfl _ _ 72 rfl wr.heap.size 149 i0 _ 1 Tryz.underlying72 hi0 hz0 hz1 .i64 .i64 0 0 0 rfl rfl rfl rfl hb.out (Nat.zero_le _) (Nat.le_refl _) ?_)
    intro w2 _ hg
    have HK := hide (HK.out.grown hg (fun k h _ => by cases h))
    clear hg
    go_wp2
    go_loopw [6] (fun i wr => i = .int .i64 0 ∧ Keeps NoB w wr) (fun _ _ => 0)
    case atStart => exact ⟨rfl, HK.out⟩
    case round =>
      obtain ⟨rfl, hk⟩ := hrel
      have HK := hide hk
      clear hk
      go_wp2
      go_loopw [9] (fun i wr => i = .int .i64 0 ∧ Keeps NoB w wr) (fun _ _ => 0)
      case atStart => exact ⟨rfl, HK.out⟩
      case round =>
        obtain ⟨rfl, hk⟩ := hrel
        have HK := hide hk
        clear hk
        go_wp2
        go_loopw [11] (fun i wr => i = .int .i64 0 ∧ Keeps NoB w wr) (fun _ _ => 0)
        case atStart => exact ⟨rfl, HK.out⟩
        case round =>
          obtain ⟨rfl, hk⟩ := hrel
          have HK := hide hk
          clear hk
          go_wp2
          go_loopw [14] (fun i wr => i = .int .i64 0 ∧ Keeps NoB w wr) (fun _ _ => 0)
          case atStart => exact ⟨rfl, HK.out⟩
          case round =>
            obtain ⟨rfl, hk⟩ := hrel
            have HK := hide hk
            clear hk
            go_wp2
            go_ret
            exact ⟨rfl, HK.out⟩

theorem Tryz.infoE154 : (Tryz.prog.info? 154).map (fun i => (i.zero, i.size, i.bytes)) = some (some (.slice none 0 0), 1, 24) := by kernel_rfl
set_option maxRecDepth 100000 in
theorem flat45 (w : World) : Calls Tryz.prog 45 #[.slice none 0 0] w fun e w' => e = .returned (.bool true) ∧ Keeps NoB w w' := by
  obtain ⟨i0, hi0, hz0, hz1, hz2⟩ := info_parts Tryz.infoE154
  have hb := hide (show i0.bytes * 0 ≤ 281474976710656 from by omega)
  go_enter Tryz.func45, Tryz.ntmps45
  go_wp2
  go_loopw [3] (fun i wr => i = .int .i64 0 ∧ Keeps NoB w wr) (fun _ _ => 0)
  case atStart => exact ⟨rfl, Keeps.refl _ _⟩
  case round =>
    obtain ⟨rfl, hk⟩ := hrel
    have HK := hide hk
    clear hk
    go_wp2_with (refine wpList_make_full _ rfl _ _ 73 rfl wr.heap.size 154 i0 _ 1 Tryz.underlying73 hi0 hz0 hz1 .i64 .i64 0 0 0 rfl rfl rfl rfl hb.out (Nat.zero_le _) (Nat.le_refl _) ?_)
    intro w2 _ hg
    have HK := hide (HK.out.grown hg (fun k h _ => by cases h))
    clear hg
    go_wp2
    go_loopw [6] (fun i wr => i = .int .i64 0 ∧ Keeps NoB w wr) (fun _ _ => 0)
    case atStart => exact ⟨rfl, HK.out⟩
    case round =>
      obtain ⟨rfl, hk⟩ := hrel
      have HK := hide hk
      clear hk
      go_wp2
      go_loopw [9] (fun i wr => i = .int .i64 0 ∧ Keeps NoB w wr) (fun _ _ => 0)
      case atStart => exact ⟨rfl, HK.out⟩
      case round =>
        obtain ⟨rfl, hk⟩ := hrel
        have HK := hide hk
        clear hk
        go_wp2
        go_loopw [11] (fun i wr => i = .int .i64 0 ∧ Keeps NoB w wr) (fun _ _ => 0)
        case atStart => exact ⟨rfl, HK.out⟩
        case round =>
          obtain ⟨rfl, hk⟩ := hrel
          have HK := hide hk
          clear hk
          go_wp2
          go_loopw [14] (fun i wr => i = .int .i64 0 ∧ Keeps NoB w wr) (fun _ _ => 0)
          case atStart => exact ⟨rfl, HK.out⟩
          case round =>
            obtain ⟨rfl, hk⟩ := hrel
            have HK := hide hk
            clear hk
            go_wp2
            go_ret
            exact ⟨rfl, HK.out⟩

theorem Tryz.infoE160 : (Tryz.prog.info? 160).map (fun i => (i.zero, i.size, i.bytes)) = some (some (.slice none 0 0), 1, 24) := by kernel_rfl
set_option maxRecDepth 100000 in
theorem flat46 (w : World) : Calls Tryz.prog 46 #[.slice none 0 0] w fun e w' => e = .returned (.bool true) ∧ Keeps NoB w w' := by
  obtain ⟨i0, hi0, hz0, hz1, hz2⟩ := info_parts Tryz.infoE160
  have hb := hide (show i0.bytes * 0 ≤ 281474976710656 from by omega)
  go_enter Tryz.func46, Tryz.ntmps46
  go_wp2
  go_loopw [3] (fun i wr => i = .int .i64 0 ∧ Keeps NoB w wr) (fun _ _ => 0)
  case atStart => exact ⟨rfl, Keeps.refl _ _⟩
  case round =>
    obtain ⟨rfl, hk⟩ := hrel
    have HK := hide hk
    clear hk
    go_wp2_with (refine wpList_make_full _ rfl _ _ 74 rfl wr.heap.size 160 i0 _ 1 Tryz.underlying74 hi0 hz0 hz1 .i64 .i64 0 0 0 rfl rfl rfl rfl hb.out (Nat.zero_le _) (Nat.le_refl _) ?_)
    intro w2 _ hg
    have HK := hide (HK.out.grown hg (fun k h _ => by cases h))
    clear hg
    go_wp2
    go_loopw [6] (fun i wr => i = .int .i64 0 ∧ Keeps NoB w wr) (fun _ _ => 0)
    case atStart => exact ⟨rfl, HK.out⟩
    case round =>
      obtain ⟨rfl, hk⟩ := hrel
      have HK := hide hk
      clear hk
      go_wp2
      go_loopw [9] (fun i wr => i = .int .i64 0 ∧ Keeps NoB w wr) (fun _ _ => 0)
      case atStart => exact ⟨rfl, HK.out⟩
      case round =>
        obtain ⟨rfl, hk⟩ := hrel
        have HK := hide hk
        clear hk
        go_wp2
        go_loopw [11] (fun i wr => i = .int .i64 0 ∧ Keeps NoB w wr) (fun _ _ => 0)
        case atStart => exact ⟨rfl, HK.out⟩
        case round =>
          obtain ⟨rfl, hk⟩ := hrel
          have HK := hide hk
          clear hk
          go_wp2
          go_loopw [14] (fun i wr => i = .int .i64 0 ∧ Keeps NoB w wr) (fun _ _ => 0)
          case atStart => exact ⟨rfl, HK.out⟩
          case round =>
            obtain ⟨rfl, hk⟩ := hrel
            have HK := hide hk
            clear hk
            go_wp2
            go_ret
            exact ⟨rfl, HK.out⟩

theorem Tryz.infoE164 : (Tryz.prog.info? 164).map (fun i => (i.zero, i.size, i.bytes)) = some (some (.slice none 0 0), 1, 24) := by kernel_rfl
set_option maxRecDepth 100000 in
theorem flat47 (w : World) : Calls Tryz.prog 47 #[.slice none 0 0] w fun e w' => e = .returned (.bool true) ∧ Keeps NoB w w' := by
  obtain ⟨i0, hi0, hz0, hz1, hz2⟩ := info_parts Tryz.infoE164
  have hb := hide (show i0.bytes * 0 ≤ 281474976710656 from by omega)
  go_enter Tryz.func47, Tryz.ntmps47
  go_wp2
  go_loopw [3] (fun i wr => i = .int .i64 0 ∧ Keeps NoB w wr) (fun _ _ => 0)
  case atStart => exact ⟨rfl, Keeps.refl _ _⟩
  case round =>
    obtain ⟨rfl, hk⟩ := hrel
    have HK := hide hk
    clear hk
    go_wp2_with (refine wpList_make_full _ rfl _ _ 75 rfl wr.heap.size 164 i0 _ 1 Tryz.underlying75 hi0 hz0 hz1 .i64 .i64 0 0 0 rfl rfl rfl rfl hb.out (Nat.zero_le _) (Nat.le_refl _) ?_)
    intro w2 _ hg
    have HK := hide (HK.out.grown hg (fun k h _ => by cases h))
    clear hg
    go_wp2
    go_loopw [6] (fun i wr => i = .int .i64 0 ∧ Keeps NoB w wr) (fun _ _ => 0)
    case atStart => exact ⟨rfl, HK.out⟩
    case round =>
      obtain ⟨rfl, hk⟩ := hrel
      have HK := hide hk
      clear hk
      go_wp2
      go_loopw [9] (fun i wr => i = .int .i64 0 ∧ Keeps NoB w wr) (fun _ _ => 0)
      case atStart => exact ⟨rfl, HK.out⟩
      case round =>
        obtain ⟨rfl, hk⟩ := hrel
        have HK := hide hk
        clear hk
        go_wp2
        go_loopw [11] (fun i wr => i = .int .i64 0 ∧ Keeps NoB w wr) (fun _ _ => 0)
        case atStart => exact ⟨rfl, HK.out⟩
        case round =>
          obtain ⟨rfl, hk⟩ := hrel
          have HK := hide hk
          clear hk
          go_wp2
          go_loopw [14] (fun i wr => i = .int .i64 0 ∧ Keeps NoB w wr) (fun _ _ => 0)
          case atStart => exact ⟨rfl, HK.out⟩
          case round =>
            obtain ⟨rfl, hk⟩ := hrel
            have HK := hide hk
            clear hk
            go_wp2
            go_ret
            exact ⟨rfl, HK.out⟩

theorem Tryz.infoE169 : (Tryz.prog.info? 169).map (fun i => (i.zero, i.size, i.bytes)) = some (some (.slice none 0 0), 1, 24) := by kernel_rfl
set_option maxRecDepth 100000 in
theorem flat48 (w : World) : Calls Tryz.prog 48 #[.slice none 0 0] w fun e w' => e = .returned (.bool true) ∧ Keeps NoB w w' := by
  obtain ⟨i0, hi0, hz0, hz1, hz2⟩ := info_parts Tryz.infoE169
  have hb := hide (show i0.bytes * 0 ≤ 281474976710656 from by omega)
  go_enter Tryz.func48, Tryz.ntmps48
  go_wp2
  go_loopw [3] (fun i wr => i = .int .i64 0 ∧ Keeps NoB w wr) (fun _ _ => 0)
  case atStart => exact ⟨rfl, Keeps.refl _ _⟩
  case round =>
    obtain ⟨rfl, hk⟩ := hrel
    have HK := hide hk
    clear hk
    go_wp2_with (refine wpList_make_full _ rfl _ _ 76 rfl wr.heap.size 169 i0 _ 1 Tryz.underlying76 hi0 hz0 hz1 .i64 .i64 0 0 0 rfl rfl rfl rfl hb.out (Nat.zero_le _) (Nat.le_refl _) ?_)
    intro w2 _ hg
    have HK := hide (HK.out.grown hg (fun k h _ => by cases h))
    clear hg
    go_wp2
    go_loopw [6] (fun i wr => i = .int .i64 0 ∧ Keeps NoB w wr) (fun _ _ => 0)
    case atStart => exact ⟨rfl, HK.out⟩
    case round =>
      obtain ⟨rfl, hk⟩ := hrel
      have HK := hide hk
      clear hk
      go_wp2
      go_loopw [9] (fun i wr => i = .int .i64 0 ∧ Keeps NoB w wr) (fun _ _ => 0)
      case atStart => exact ⟨rfl, HK.out⟩
      case round =>
        obtain ⟨rfl, hk⟩ := hrel
        have HK := hide hk
        clear hk
        go_wp2
        go_loopw [11] (fun i wr => i = .int .i64 0 ∧ Keeps NoB w wr) (fun _ _ => 0)
        case atStart => exact ⟨rfl, HK.out⟩
        case round =>
          obtain ⟨rfl, hk⟩ := hrel
          have HK := hide hk
          clear hk
          go_wp2
          go_loopw [14] (fun i wr => i = .int .i64 0 ∧ Keeps NoB w wr) (fun _ _ => 0)
          case atStart => exact ⟨rfl, HK.out⟩
          case round =>
            obtain ⟨rfl, hk⟩ := hrel
            have HK := hide hk
            clear hk
            go_wp2
            go_ret
            exact ⟨rfl, HK.out⟩

theorem Tryz.infoE174 : (Tryz.prog.info? 174).map (fun i => (i.zero, i.size, i.bytes)) = some (some (.slice none 0 0), 1, 24) := by kernel_rfl
set_option maxRecDepth 100000 in
theorem flat49 (w : World) : Calls Tryz.prog 49 #[.slice none 0 0] w fun e w' => e = .returned (.bool true) ∧ Keeps NoB w w' := by
  obtain ⟨i0, hi0, hz0, hz1, hz2⟩ := info_parts Tryz.infoE174
  have hb := hide (show i0.bytes * 0 ≤ 281474976710656 from by omega)
  go_enter Tryz.func49, Tryz.ntmps49
  go_wp2
  go_loopw [3] (fun i wr => i = .int .i64 0 ∧ Keeps NoB w wr) (fun _ _ => 0)
  case atStart => exact ⟨rfl, Keeps.refl _ _⟩
  case round =>
    obtain ⟨rfl, hk⟩ := hrel
    have HK := hide hk
    clear hk
    go_wp2_with (refine wpList_make_full _ rfl _ _ 77 rfl wr.heap.size 174 i0 _ 1 Tryz.underlying77 hi0 hz0 hz1 .i64 .i64 0 0 0 rfl rfl rfl rfl hb.out (Nat.zero_le _) (Nat.le_refl _) ?_)
    intro w2 _ hg
    have HK := hide (HK.out.grown hg (fun k h _ => by cases h))
    clear hg
    go_wp2
    go_loopw [6] (fun i wr => i = .int .i64 0 ∧ Keeps NoB w wr) (fun _ _ => 0)
    case atStart => exact ⟨rfl, HK.out⟩
    case round =>
      obtain ⟨rfl, hk⟩ := hrel
      have HK := hide hk
      clear hk
      go_wp2
      go_loopw [9] (fun i wr => i = .int .i64 0 ∧ Keeps NoB w wr) (fun _ _ => 0)
      case atStart => exact ⟨rfl, HK.out⟩
      case round =>
        obtain ⟨rfl, hk⟩ := hrel
        have HK := hide hk
        clear hk
        go_wp2
        go_loopw [11] (fun i wr => i = .int .i64 0 ∧ Keeps NoB w wr) (fun _ _ => 0)
        case atStart => exact ⟨rfl, HK.out⟩
        case round =>
          obtain ⟨rfl, hk⟩ := hrel
          have HK := hide hk
          clear hk
          go_wp2
          go_loopw [14] (fun i wr => i = .int .i64 0 ∧ Keeps NoB w wr) (fun _ _ => 0)
          case atStart => exact ⟨rfl, HK.out⟩
          case round =>
            obtain ⟨rfl, hk⟩ := hrel
            have HK := hide hk
            clear hk
            go_wp2
            go_ret
            exact ⟨rfl, HK.out⟩

theorem Tryz.infoE180 : (Tryz.prog.info? 180).map (fun i => (i.zero, i.size, i.bytes)) = some (some (.slice none 0 0), 1, 24) := by kernel_rfl
set_option maxRecDepth 100000 in
theorem flat51 (w : World) : Calls Tryz.prog 51 #[.slice none 0 0] w fun e w' => e = .returned (.bool true) ∧ Keeps NoB w w' := by
  obtain ⟨i0, hi0, hz0, hz1, hz2⟩ := info_parts Tryz.infoE180
  have hb := hide (show i0.bytes * 0 ≤ 281474976710656 from by omega)
  go_enter Tryz.func51, Tryz.ntmps51
  go_wp2
  go_loopw [3] (fun i wr => i = .int .i64 0 ∧ Keeps NoB w wr) (fun _ _ => 0)
  case atStart => exact ⟨rfl, Keeps.refl _ _⟩
  case round =>
    obtain ⟨rfl, hk⟩ := hrel
    have HK := hide hk
    clear hk
    go_wp2_with (refine wpList_make_full _ rfl _ _ 78 rfl wr.heap.size 180 i0 _ 1 Tryz.underlying78 hi0 hz0 hz1 .i64 .i64 0 0 0 rfl rfl rfl rfl hb.out (Nat.zero_le _) (Nat.le_refl _) ?_)
    intro w2 _ hg
    have HK := hide (HK.out.grown hg (fun k h _ => by cases h))
    clear hg
    go_wp2
    go_loopw [6] (fun i wr => i = .int .i64 0 ∧ Keeps NoB w wr) (fun _ _ => 0)
    case atStart => exact ⟨rfl, HK.out⟩
    case round =>
      obtain ⟨rfl, hk⟩ := hrel
      have HK := hide hk
      clear hk
      go_wp2
      go_loopw [9] (fun i wr => i = .int .i64 0 ∧ Keeps NoB w wr) (fun _ _ => 0)
      case atStart => exact ⟨rfl, HK.out⟩
      case round =>
        obtain ⟨rfl, hk⟩ := hrel
        have HK := hide hk
        clear hk
        go_wp2
        go_loopw [11] (fun i wr => i = .int .i64 0 ∧ Keeps NoB w wr) (fun _ _ => 0)
        case atStart => exact ⟨rfl, HK.out⟩
        case round =>
          obtain ⟨rfl, hk⟩ := hrel
          have HK := hide hk
          clear hk
          go_wp2
          go_loopw [14] (fun i wr => i = .int .i64 0 ∧ Keeps NoB w wr) (fun _ _ => 0)
          case atStart => exact ⟨rfl, HK.out⟩
          case round =>
            obtain ⟨rfl, hk⟩ := hrel
            have HK := hide hk
            clear hk
            go_wp2
            go_ret
            exact ⟨rfl, HK.out⟩

end Go.Proofs.YthoaaihghgabcaaGreat
