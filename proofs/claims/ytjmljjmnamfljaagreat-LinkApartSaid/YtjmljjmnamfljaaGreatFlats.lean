/- pigeonholekit: lists of lists that are none lie apart. -/
import Derived.Test.YtjmljjmnamfljaaGreatKitInts
import Derived.OwnWalk
namespace Go.Proofs.YtjmljjmnamfljaaGreat
open Go.RowKit

theorem Tryz.infoE115 : (Tryz.prog.info? 115).map (fun i => (i.zero, i.size, i.bytes)) = some (some (.slice none 0 0), 1, 24) := by kernel_rfl
set_option maxRecDepth 100000 in
theorem flat34 (w : World) : Calls Tryz.prog 34 #[.slice none 0 0] w fun e w' => e = .returned (.bool true) ∧ Keeps NoB w w' := by
  obtain ⟨i0, hi0, hz0, hz1, hz2⟩ := info_parts Tryz.infoE115
  have hb := hide (show i0.bytes * 0 ≤ 281474976710656 from by omega)
  go_enter Tryz.func34, Tryz.ntmps34
  go_wp2
  go_loopw [3] (fun i wr => i = .int .i64 0 ∧ Keeps NoB w wr) (fun _ _ => 0)
  case atStart => exact ⟨rfl, Keeps.refl _ _⟩
  case round =>
    obtain ⟨rfl, hk⟩ := hrel
    have HK := hide hk
    clear hk
    go_wp2_with (refine wpList_make_full _ rfl _ _ 56 rfl wr.heap.size 115 i0 _ 1 Tryz.underlying56 hi0 hz0 hz1 .i64 .i64 0 0 0 rfl rfl rfl rfl hb.out (Nat.zero_le _) (Nat.le_refl _) ?_)
    intro w2 _ hg
    have HK := hide (HK.out.grown hg (fun k h _ => by cases h))
    clear hg
    go_wp2
    go_loopw [6] (fun i wr => i = .int .i64 0 ∧ Keeps NoB w wr) (fun _ _ => 0)
    case atStart => exact ⟨rfl, HK.out⟩
    case round =>
      obtain ⟨rfl, hk⟩ := hrel
      have HK := hide hk
      clear hk
      go_wp2
      go_loopw [9] (fun i wr => i = .int .i64 0 ∧ Keeps NoB w wr) (fun _ _ => 0)
      case atStart => exact ⟨rfl, HK.out⟩
      case round =>
        obtain ⟨rfl, hk⟩ := hrel
        have HK := hide hk
        clear hk
        go_wp2
        go_loopw [11] (fun i wr => i = .int .i64 0 ∧ Keeps NoB w wr) (fun _ _ => 0)
        case atStart => exact ⟨rfl, HK.out⟩
        case round =>
          obtain ⟨rfl, hk⟩ := hrel
          have HK := hide hk
          clear hk
          go_wp2
          go_loopw [14] (fun i wr => i = .int .i64 0 ∧ Keeps NoB w wr) (fun _ _ => 0)
          case atStart => exact ⟨rfl, HK.out⟩
          case round =>
            obtain ⟨rfl, hk⟩ := hrel
            have HK := hide hk
            clear hk
            go_wp2
            go_ret
            exact ⟨rfl, HK.out⟩

theorem Tryz.infoE117 : (Tryz.prog.info? 117).map (fun i => (i.zero, i.size, i.bytes)) = some (some (.slice none 0 0), 1, 24) := by kernel_rfl
set_option maxRecDepth 100000 in
theorem flat35 (w : World) : Calls Tryz.prog 35 #[.slice none 0 0] w fun e w' => e = .returned (.bool true) ∧ Keeps NoB w w' := by
  obtain ⟨i0, hi0, hz0, hz1, hz2⟩ := info_parts Tryz.infoE117
  have hb := hide (show i0.bytes * 0 ≤ 281474976710656 from by omega)
  go_enter Tryz.func35, Tryz.ntmps35
  go_wp2
  go_loopw [3] (fun i wr => i = .int .i64 0 ∧ Keeps NoB w wr) (fun _ _ => 0)
  case atStart => exact ⟨rfl, Keeps.refl _ _⟩
  case round =>
    obtain ⟨rfl, hk⟩ := hrel
    have HK := hide hk
    clear hk
    go_wp2_with (refine wpList_make_full _ rfl _ _ 57 rfl wr.heap.size 117 i0 _ 1 Tryz.underlying57 hi0 hz0 hz1 .i64 .i64 0 0 0 rfl rfl rfl rfl hb.out (Nat.zero_le _) (Nat.le_refl _) ?_)
    intro w2 _ hg
    have HK := hide (HK.out.grown hg (fun k h _ => by cases h))
    clear hg
    go_wp2
    go_loopw [6] (fun i wr => i = .int .i64 0 ∧ Keeps NoB w wr) (fun _ _ => 0)
    case atStart => exact ⟨rfl, HK.out⟩
    case round =>
      obtain ⟨rfl, hk⟩ := hrel
      have HK := hide hk
      clear hk
      go_wp2
      go_loopw [9] (fun i wr => i = .int .i64 0 ∧ Keeps NoB w wr) (fun _ _ => 0)
      case atStart => exact ⟨rfl, HK.out⟩
      case round =>
        obtain ⟨rfl, hk⟩ := hrel
        have HK := hide hk
        clear hk
        go_wp2
        go_loopw [11] (fun i wr => i = .int .i64 0 ∧ Keeps NoB w wr) (fun _ _ => 0)
        case atStart => exact ⟨rfl, HK.out⟩
        case round =>
          obtain ⟨rfl, hk⟩ := hrel
          have HK := hide hk
          clear hk
          go_wp2
          go_loopw [14] (fun i wr => i = .int .i64 0 ∧ Keeps NoB w wr) (fun _ _ => 0)
          case atStart => exact ⟨rfl, HK.out⟩
          case round =>
            obtain ⟨rfl, hk⟩ := hrel
            have HK := hide hk
            clear hk
            go_wp2
            go_ret
            exact ⟨rfl, HK.out⟩

theorem Tryz.infoE119 : (Tryz.prog.info? 119).map (fun i => (i.zero, i.size, i.bytes)) = some (some (.slice none 0 0), 1, 24) := by kernel_rfl
set_option maxRecDepth 100000 in
theorem flat37 (w : World) : Calls Tryz.prog 37 #[.slice none 0 0] w fun e w' => e = .returned (.bool true) ∧ Keeps NoB w w' := by
  obtain ⟨i0, hi0, hz0, hz1, hz2⟩ := info_parts Tryz.infoE119
  have hb := hide (show i0.bytes * 0 ≤ 281474976710656 from by omega)
  go_enter Tryz.func37, Tryz.ntmps37
  go_wp2
  go_loopw [3] (fun i wr => i = .int .i64 0 ∧ Keeps NoB w wr) (fun _ _ => 0)
  case atStart => exact ⟨rfl, Keeps.refl _ _⟩
  case round =>
    obtain ⟨rfl, hk⟩ := hrel
    have HK := hide hk
    clear hk
    go_wp2_with (refine wpList_make_full _ rfl _ _ 58 rfl wr.heap.size 119 i0 _ 1 Tryz.underlying58 hi0 hz0 hz1 .i64 .i64 0 0 0 rfl rfl rfl rfl hb.out (Nat.zero_le _) (Nat.le_refl _) ?_)
    intro w2 _ hg
    have HK := hide (HK.out.grown hg (fun k h _ => by cases h))
    clear hg
    go_wp2
    go_loopw [6] (fun i wr => i = .int .i64 0 ∧ Keeps NoB w wr) (fun _ _ => 0)
    case atStart => exact ⟨rfl, HK.out⟩
    case round =>
      obtain ⟨rfl, hk⟩ := hrel
      have HK := hide hk
      clear hk
      go_wp2
      go_loopw [9] (fun i wr => i = .int .i64 0 ∧ Keeps NoB w wr) (fun _ _ => 0)
      case atStart => exact ⟨rfl, HK.out⟩
      case round =>
        obtain ⟨rfl, hk⟩ := hrel
        have HK := hide hk
        clear hk
        go_wp2
        go_loopw [11] (fun i wr => i = .int .i64 0 ∧ Keeps NoB w wr) (fun _ _ => 0)
        case atStart => exact ⟨rfl, HK.out⟩
        case round =>
          obtain ⟨rfl, hk⟩ := hrel
          have HK := hide hk
          clear hk
          go_wp2
          go_loopw [14] (fun i wr => i = .int .i64 0 ∧ Keeps NoB w wr) (fun _ _ => 0)
          case atStart => exact ⟨rfl, HK.out⟩
          case round =>
            obtain ⟨rfl, hk⟩ := hrel
            have HK := hide hk
            clear hk
            go_wp2
            go_ret
            exact ⟨rfl, HK.out⟩

theorem Tryz.infoE120 : (Tryz.prog.info? 120).map (fun i => (i.zero, i.size, i.bytes)) = some (some (.slice none 0 0), 1, 24) := by kernel_rfl
set_option maxRecDepth 100000 in
theorem flat38 (w : World) : Calls Tryz.prog 38 #[.slice none 0 0] w fun e w' => e = .returned (.bool true) ∧ Keeps NoB w w' := by
  obtain ⟨i0, hi0, hz0, hz1, hz2⟩ := info_parts Tryz.infoE120
  have hb := hide (show i0.bytes * 0 ≤ 281474976710656 from by omega)
  go_enter Tryz.func38, Tryz.ntmps38
  go_wp2
  go_loopw [3] (fun i wr => i = .int .i64 0 ∧ Keeps NoB w wr) (fun _ _ => 0)
  case atStart => exact ⟨rfl, Keeps.refl _ _⟩
  case round =>
    obtain ⟨rfl, hk⟩ := hrel
    have HK := hide hk
    clear hk
    go_wp2_with (refine wpList_make_full _ rfl _ _ 59 rfl wr.heap.size 120 i0 _ 1 Tryz.underlying59 hi0 hz0 hz1 .i64 .i64 0 0 0 rfl rfl rfl rfl hb.out (Nat.zero_le _) (Nat.le_refl _) ?_)
    intro w2 _ hg
    have HK := hide (HK.out.grown hg (fun k h _ => by cases h))
    clear hg
    go_wp2
    go_loopw [6] (fun i wr => i = .int .i64 0 ∧ Keeps NoB w wr) (fun _ _ => 0)
    case atStart => exact ⟨rfl, HK.out⟩
    case round =>
      obtain ⟨rfl, hk⟩ := hrel
      have HK := hide hk
      clear hk
      go_wp2
      go_loopw [9] (fun i wr => i = .int .i64 0 ∧ Keeps NoB w wr) (fun _ _ => 0)
      case atStart => exact ⟨rfl, HK.out⟩
      case round =>
        obtain ⟨rfl, hk⟩ := hrel
        have HK := hide hk
        clear hk
        go_wp2
        go_loopw [11] (fun i wr => i = .int .i64 0 ∧ Keeps NoB w wr) (fun _ _ => 0)
        case atStart => exact ⟨rfl, HK.out⟩
        case round =>
          obtain ⟨rfl, hk⟩ := hrel
          have HK := hide hk
          clear hk
          go_wp2
          go_loopw [14] (fun i wr => i = .int .i64 0 ∧ Keeps NoB w wr) (fun _ _ => 0)
          case atStart => exact ⟨rfl, HK.out⟩
          case round =>
            obtain ⟨rfl, hk⟩ := hrel
            have HK := hide hk
            clear hk
            go_wp2
            go_ret
            exact ⟨rfl, HK.out⟩

theorem Tryz.infoE122 : (Tryz.prog.info? 122).map (fun i => (i.zero, i.size, i.bytes)) = some (some (.slice none 0 0), 1, 24) := by kernel_rfl
set_option maxRecDepth 100000 in
theorem flat39 (w : World) : Calls Tryz.prog 39 #[.slice none 0 0] w fun e w' => e = .returned (.bool true) ∧ Keeps NoB w w' := by
  obtain ⟨i0, hi0, hz0, hz1, hz2⟩ := info_parts Tryz.infoE122
  have hb := hide (show i0.bytes * 0 ≤ 281474976710656 from by omega)
  go_enter Tryz.func39, Tryz.ntmps39
  go_wp2
  go_loopw [3] (fun i wr => i = .int .i64 0 ∧ Keeps NoB w wr) (fun _ _ => 0)
  case atStart => exact ⟨rfl, Keeps.refl _ _⟩
  case round =>
    obtain ⟨rfl, hk⟩ := hrel
    have HK := hide hk
    clear hk
    go_wp2_with (refine wpList_make_full _ rfl _ _ 60 rfl wr.heap.size 122 i0 _ 1 Tryz.underlying60 hi0 hz0 hz1 .i64 .i64 0 0 0 rfl rfl rfl rfl hb.out (Nat.zero_le _) (Nat.le_refl _) ?_)
    intro w2 _ hg
    have HK := hide (HK.out.grown hg (fun k h _ => by cases h))
    clear hg
    go_wp2
    go_loopw [6] (fun i wr => i = .int .i64 0 ∧ Keeps NoB w wr) (fun _ _ => 0)
    case atStart => exact ⟨rfl, HK.out⟩
    case round =>
      obtain ⟨rfl, hk⟩ := hrel
      have HK := hide hk
      clear hk
      go_wp2
      go_loopw [9] (fun i wr => i = .int .i64 0 ∧ Keeps NoB w wr) (fun _ _ => 0)
      case atStart => exact ⟨rfl, HK.out⟩
      case round =>
        obtain ⟨rfl, hk⟩ := hrel
        have HK := hide hk
        clear hk
        go_wp2
        go_loopw [11] (fun i wr => i = .int .i64 0 ∧ Keeps NoB w wr) (fun _ _ => 0)
        case atStart => exact ⟨rfl, HK.out⟩
        case round =>
          obtain ⟨rfl, hk⟩ := hrel
          have HK := hide hk
          clear hk
          go_wp2
          go_loopw [14] (fun i wr => i = .int .i64 0 ∧ Keeps NoB w wr) (fun _ _ => 0)
          case atStart => exact ⟨rfl, HK.out⟩
          case round =>
            obtain ⟨rfl, hk⟩ := hrel
            have HK := hide hk
            clear hk
            go_wp2
            go_ret
            exact ⟨rfl, HK.out⟩

theorem Tryz.infoE124 : (Tryz.prog.info? 124).map (fun i => (i.zero, i.size, i.bytes)) = some (some (.slice none 0 0), 1, 24) := by kernel_rfl
set_option maxRecDepth 100000 in
theorem flat40 (w : World) : Calls Tryz.prog 40 #[.slice none 0 0] w fun e w' => e = .returned (.bool true) ∧ Keeps NoB w w' := by
  obtain ⟨i0, hi0, hz0, hz1, hz2⟩ := info_parts Tryz.infoE124
  have hb := hide (show i0.bytes * 0 ≤ 281474976710656 from by omega)
  go_enter Tryz.func40, Tryz.ntmps40
  go_wp2
  go_loopw [3] (fun i wr => i = .int .i64 0 ∧ Keeps NoB w wr) (fun _ _ => 0)
  case atStart => exact ⟨rfl, Keeps.refl _ _⟩
  case round =>
    obtain ⟨rfl, hk⟩ := hrel
    have HK := hide hk
    clear hk
    go_wp2_with (refine wpList_make_full _ rfl _ _ 61 rfl wr.heap.size 124 i0 _ 1 Tryz.underlying61 hi0 hz0 hz1 .i64 .i64 0 0 0 rfl rfl rfl rfl hb.out (Nat.zero_le _) (Nat.le_refl _) ?_)
    intro w2 _ hg
    have HK := hide (HK.out.grown hg (fun k h _ => by cases h))
    clear hg
    go_wp2
    go_loopw [6] (fun i wr => i = .int .i64 0 ∧ Keeps NoB w wr) (fun _ _ => 0)
    case atStart => exact ⟨rfl, HK.out⟩
    case round =>
      obtain ⟨rfl, hk⟩ := hrel
      have HK := hide hk
      clear hk
      go_wp2
      go_loopw [9] (fun i wr => i = .int .i64 0 ∧ Keeps NoB w wr) (fun _ _ => 0)
      case atStart => exact ⟨rfl, HK.out⟩
      case round =>
        obtain ⟨rfl, hk⟩ := hrel
        have HK := hide hk
        clear hk
        go_wp2
        go_loopw [11] (fun i wr => i = .int .i64 0 ∧ Keeps NoB w wr) (fun _ _ => 0)
        case atStart => exact ⟨rfl, HK.out⟩
        case round =>
          obtain ⟨rfl, hk⟩ := hrel
          have HK := hide hk
          clear hk
          go_wp2
          go_loopw [14] (fun i wr => i = .int .i64 0 ∧ Keeps NoB w wr) (fun _ _ => 0)
          case atStart => exact ⟨rfl, HK.out⟩
          case round =>
            obtain ⟨rfl, hk⟩ := hrel
            have HK := hide hk
            clear hk
            go_wp2
            go_ret
            exact ⟨rfl, HK.out⟩

theorem Tryz.infoE129 : (Tryz.prog.info? 129).map (fun i => (i.zero, i.size, i.bytes)) = some (some (.slice none 0 0), 1, 24) := by kernel_rfl
set_option maxRecDepth 100000 in
theorem flat41 (w : World) : Calls Tryz.prog 41 #[.slice none 0 0] w fun e w' => e = .returned (.bool true) ∧ Keeps NoB w w' := by
  obtain ⟨i0, hi0, hz0, hz1, hz2⟩ := info_parts Tryz.infoE129
  have hb := hide (show i0.bytes * 0 ≤ 281474976710656 from by omega)
  go_enter Tryz.func41, Tryz.ntmps41
  go_wp2
  go_loopw [3] (fun i wr => i = .int .i64 0 ∧ Keeps NoB w wr) (fun _ _ => 0)
  case atStart => exact ⟨rfl, Keeps.refl _ _⟩
  case round =>
    obtain ⟨rfl, hk⟩ := hrel
    have HK := hide hk
    clear hk
    go_wp2_with (refine wpList_make_full _ rfl _ _ 62 rfl wr.heap.size 129 i0 _ 1 Tryz.underlying62 hi0 hz0 hz1 .i64 .i64 0 0 0 rfl rfl rfl rfl hb.out (Nat.zero_le _) (Nat.le_refl _) ?_)
    intro w2 _ hg
    have HK := hide (HK.out.grown hg (fun k h _ => by cases h))
    clear hg
    go_wp2
    go_loopw [6] (fun i wr => i = .int .i64 0 ∧ Keeps NoB w wr) (fun _ _ => 0)
    case atStart => exact ⟨rfl, HK.out⟩
    case round =>
      obtain ⟨rfl, hk⟩ := hrel
      have HK := hide hk
      clear hk
      go_wp2
      go_loopw [9] (fun i wr => i = .int .i64 0 ∧ Keeps NoB w wr) (fun _ _ => 0)
      case atStart => exact ⟨rfl, HK.out⟩
      case round =>
        obtain ⟨rfl, hk⟩ := hrel
        have HK := hide hk
        clear hk
        go_wp2
        go_loopw [11] (fun i wr => i = .int .i64 0 ∧ Keeps NoB w wr) (fun _ _ => 0)
        case atStart => exact ⟨rfl, HK.out⟩
        case round =>
          obtain ⟨rfl, hk⟩ := hrel
          have HK := hide hk
          clear hk
          go_wp2
          go_loopw [14] (fun i wr => i = .int .i64 0 ∧ Keeps NoB w wr) (fun _ _ => 0)
          case atStart => exact ⟨rfl, HK.out⟩
          case round =>
            obtain ⟨rfl, hk⟩ := hrel
            have HK := hide hk
            clear hk
            go_wp2
            go_ret
            exact ⟨rfl, HK.out⟩

theorem Tryz.infoE135 : (Tryz.prog.info? 135).map (fun i => (i.zero, i.size, i.bytes)) = some (some (.slice none 0 0), 1, 24) := by kernel_rfl
set_option maxRecDepth 100000 in
theorem flat42 (w : World) : Calls Tryz.prog 42 #[.slice none 0 0] w fun e w' => e = .returned (.bool true) ∧ Keeps NoB w w' := by
  obtain ⟨i0, hi0, hz0, hz1, hz2⟩ := info_parts Tryz.infoE135
  have hb := hide (show i0.bytes * 0 ≤ 281474976710656 from by omega)
  go_enter Tryz.func42, Tryz.ntmps42
  go_wp2
  go_loopw [3] (fun i wr => i = .int .i64 0 ∧ Keeps NoB w wr) (fun _ _ => 0)
  case atStart => exact ⟨rfl, Keeps.refl _ _⟩
  case round =>
    obtain ⟨rfl, hk⟩ := hrel
    have HK := hide hk
    clear hk
    go_wp2_with (refine wpList_make_full _ rfl _ _ 63 rfl wr.heap.size 135 i0 _ 1 Tryz.underlying63 hi0 hz0 hz1 .i64 .i64 0 0 0 rfl rfl rfl rfl hb.out (Nat.zero_le _) (Nat.le_refl _) ?_)
    intro w2 _ hg
    have HK := hide (HK.out.grown hg (fun k h _ => by cases h))
    clear hg
    go_wp2
    go_loopw [6] (fun i wr => i = .int .i64 0 ∧ Keeps NoB w wr) (fun _ _ => 0)
    case atStart => exact ⟨rfl, HK.out⟩
    case round =>
      obtain ⟨rfl, hk⟩ := hrel
      have HK := hide hk
      clear hk
      go_wp2
      go_loopw [9] (fun i wr => i = .int .i64 0 ∧ Keeps NoB w wr) (fun _ _ => 0)
      case atStart => exact ⟨rfl, HK.out⟩
      case round =>
        obtain ⟨rfl, hk⟩ := hrel
        have HK := hide hk
        clear hk
        go_wp2
        go_loopw [11] (fun i wr => i = .int .i64 0 ∧ Keeps NoB w wr) (fun _ _ => 0)
        case atStart => exact ⟨rfl, HK.out⟩
        case round =>
          obtain ⟨rfl, hk⟩ := hrel
          have HK := hide hk
          clear hk
          go_wp2
          go_loopw [14] (fun i wr => i = .int .i64 0 ∧ Keeps NoB w wr) (fun _ _ => 0)
          case atStart => exact ⟨rfl, HK.out⟩
          case round =>
            obtain ⟨rfl, hk⟩ := hrel
            have HK := hide hk
            clear hk
            go_wp2
            go_ret
            exact ⟨rfl, HK.out⟩

theorem Tryz.infoE140 : (Tryz.prog.info? 140).map (fun i => (i.zero, i.size, i.bytes)) = some (some (.slice none 0 0), 1, 24) := by kernel_rfl
set_option maxRecDepth 100000 in
theorem flat43 (w : World) : Calls Tryz.prog 43 #[.slice none 0 0] w fun e w' => e = .returned (.bool true) ∧ Keeps NoB w w' := by
  obtain ⟨i0, hi0, hz0, hz1, hz2⟩ := info_parts Tryz.infoE140
  have hb := hide (show i0.bytes * 0 ≤ 281474976710656 from by omega)
  go_enter Tryz.func43, Tryz.ntmps43
  go_wp2
  go_loopw [3] (fun i wr => i = .int .i64 0 ∧ Keeps NoB w wr) (fun _ _ => 0)
  case atStart => exact ⟨rfl, Keeps.refl _ _⟩
  case round =>
    obtain ⟨rfl, hk⟩ := hrel
    have HK := hide hk
    clear hk
    go_wp2_with (refine wpList_make_full _ rfl _ _ 64 rfl wr.heap.size 140 i0 _ 1 Tryz.underlying64 hi0 hz0 hz1 .i64 .i64 0 0 0 rfl rfl rfl rfl hb.out (Nat.zero_le _) (Nat.le_refl _) ?_)
    intro w2 _ hg
    have HK := hide (HK.out.grown hg (fun k h _ => by cases h))
    clear hg
    go_wp2
    go_loopw [6] (fun i wr => i = .int .i64 0 ∧ Keeps NoB w wr) (fun _ _ => 0)
    case atStart => exact ⟨rfl, HK.out⟩
    case round =>
      obtain ⟨rfl, hk⟩ := hrel
      have HK := hide hk
      clear hk
      go_wp2
      go_loopw [9] (fun i wr => i = .int .i64 0 ∧ Keeps NoB w wr) (fun _ _ => 0)
      case atStart => exact ⟨rfl, HK.out⟩
      case round =>
        obtain ⟨rfl, hk⟩ := hrel
        have HK := hide hk
        clear hk
        go_wp2
        go_loopw [11] (fun i wr => i = .int .i64 0 ∧ Keeps NoB w wr) (fun _ _ => 0)
        case atStart => exact ⟨rfl, HK.out⟩
        case round =>
          obtain ⟨rfl, hk⟩ := hrel
          have HK := hide hk
          clear hk
          go_wp2
          go_loopw [14] (fun i wr => i = .int .i64 0 ∧ Keeps NoB w wr) (fun _ _ => 0)
          case atStart => exact ⟨rfl, HK.out⟩
          case round =>
            obtain ⟨rfl, hk⟩ := hrel
            have HK := hide hk
            clear hk
            go_wp2
            go_ret
            exact ⟨rfl, HK.out⟩

theorem Tryz.infoE146 : (Tryz.prog.info? 146).map (fun i => (i.zero, i.size, i.bytes)) = some (some (.slice none 0 0), 1, 24) := by kernel_rfl
set_option maxRecDepth 100000 in
theorem flat44 (w : World) : Calls Tryz.prog 44 #[.slice none 0 0] w fun e w' => e = .returned (.bool true) ∧ Keeps NoB w w' := by
  obtain ⟨i0, hi0, hz0, hz1, hz2⟩ := info_parts Tryz.infoE146
  have hb := hide (show i0.bytes * 0 ≤ 281474976710656 from by omega)
  go_enter Tryz.func44, Tryz.ntmps44
  go_wp2
  go_loopw [3] (fun i wr => i = .int .i64 0 ∧ Keeps NoB w wr) (fun _ _ => 0)
  case atStart => exact ⟨rfl, Keeps.refl _ _⟩
  case round =>
    obtain ⟨rfl, hk⟩ := hrel
    have HK := hide hk
    clear hk
    go_wp2_with (refine wpList_make_full _ rfl _ _ 65 rfl wr.heap.size 146 i0 _ 1 Tryz.underlying65 hi0 hz0 hz1 .i64 .i64 0 0 0 rfl rfl rfl rfl hb.out (Nat.zero_le _) (Nat.le_refl _) ?_)
    intro w2 _ hg
    have HK := hide (HK.out.grown hg (fun k h _ => by cases h))
    clear hg
    go_wp2
    go_loopw [6] (fun i wr => i = .int .i64 0 ∧ Keeps NoB w wr) (fun _ _ => 0)
    case atStart => exact ⟨rfl, HK.out⟩
    case round =>
      obtain ⟨rfl, hk⟩ := hrel
      have HK := hide hk
      clear hk
      go_wp2
      go_loopw [9] (fun i wr => i = .int .i64 0 ∧ Keeps NoB w wr) (fun _ _ => 0)
      case atStart => exact ⟨rfl, HK.out⟩
      case round =>
        obtain ⟨rfl, hk⟩ := hrel
        have HK := hide hk
        clear hk
        go_wp2
        go_loopw [11] (fun i wr => i = .int .i64 0 ∧ Keeps NoB w wr) (fun _ _ => 0)
        case atStart => exact ⟨rfl, HK.out⟩
        case round =>
          obtain ⟨rfl, hk⟩ := hrel
          have HK := hide hk
          clear hk
          go_wp2
          go_loopw [14] (fun i wr => i = .int .i64 0 ∧ Keeps NoB w wr) (fun _ _ => 0)
          case atStart => exact ⟨rfl, HK.out⟩
          case round =>
            obtain ⟨rfl, hk⟩ := hrel
            have HK := hide hk
            clear hk
            go_wp2
            go_ret
            exact ⟨rfl, HK.out⟩

theorem Tryz.infoE152 : (Tryz.prog.info? 152).map (fun i => (i.zero, i.size, i.bytes)) = some (some (.slice none 0 0), 1, 24) := by kernel_rfl
set_option maxRecDepth 100000 in
theorem flat45 (w : World) : Calls Tryz.prog 45 #[.slice none 0 0] w fun e w' => e = .returned (.bool true) ∧ Keeps NoB w w' := by
  obtain ⟨i0, hi0, hz0, hz1, hz2⟩ := info_parts Tryz.infoE152
  have hb := hide (show i0.bytes * 0 ≤ 281474976710656 from by omega)
  go_enter Tryz.func45, Tryz.ntmps45
  go_wp2
  go_loopw [3] (fun i wr => i = .int .i64 0 ∧ Keeps NoB w wr) (fun _ _ => 0)
  case atStart => exact ⟨rfl, Keeps.refl _ _⟩
  case round =>
    obtain ⟨rfl, hk⟩ := hrel
    have HK := hide hk
    clear hk
    go_wp2_with (refine wpList_make_full _ rfl _ _ 66 rfl wr.heap.size 152 i0 _ 1 Tryz.underlying66 hi0 hz0 hz1 .i64 .i64 0 0 0 rfl rfl rfl rfl hb.out (Nat.zero_le _) (Nat.le_refl _) ?_)
    intro w2 _ hg
    have HK := hide (HK.out.grown hg (fun k h _ => by cases h))
    clear hg
    go_wp2
    go_loopw [6] (fun i wr => i = .int .i64 0 ∧ Keeps NoB w wr) (fun _ _ => 0)
    case atStart => exact ⟨rfl, HK.out⟩
    case round =>
      obtain ⟨rfl, hk⟩ := hrel
      have HK := hide hk
      clear hk
      go_wp2
      go_loopw [9] (fun i wr => i = .int .i64 0 ∧ Keeps NoB w wr) (fun _ _ => 0)
      case atStart => exact ⟨rfl, HK.out⟩
      case round =>
        obtain ⟨rfl, hk⟩ := hrel
        have HK := hide hk
        clear hk
        go_wp2
        go_loopw [11] (fun i wr => i = .int .i64 0 ∧ Keeps NoB w wr) (fun _ _ => 0)
        case atStart => exact ⟨rfl, HK.out⟩
        case round =>
          obtain ⟨rfl, hk⟩ := hrel
          have HK := hide hk
          clear hk
          go_wp2
          go_loopw [14] (fun i wr => i = .int .i64 0 ∧ Keeps NoB w wr) (fun _ _ => 0)
          case atStart => exact ⟨rfl, HK.out⟩
          case round =>
            obtain ⟨rfl, hk⟩ := hrel
            have HK := hide hk
            clear hk
            go_wp2
            go_ret
            exact ⟨rfl, HK.out⟩

theorem Tryz.infoE157 : (Tryz.prog.info? 157).map (fun i => (i.zero, i.size, i.bytes)) = some (some (.slice none 0 0), 1, 24) := by kernel_rfl
set_option maxRecDepth 100000 in
theorem flat46 (w : World) : Calls Tryz.prog 46 #[.slice none 0 0] w fun e w' => e = .returned (.bool true) ∧ Keeps NoB w w' := by
  obtain ⟨i0, hi0, hz0, hz1, hz2⟩ := info_parts Tryz.infoE157
  have hb := hide (show i0.bytes * 0 ≤ 281474976710656 from by omega)
  go_enter Tryz.func46, Tryz.ntmps46
  go_wp2
  go_loopw [3] (fun i wr => i = .int .i64 0 ∧ Keeps NoB w wr) (fun _ _ => 0)
  case atStart => exact ⟨rfl, Keeps.refl _ _⟩
  case round =>
    obtain ⟨rfl, hk⟩ := hrel
    have HK := hide hk
    clear hk
    go_wp2_with (refine wpList_make_full _ rfl _ _ 67 rfl wr.heap.size 157 i0 _ 1 Tryz.underlying67 hi0 hz0 hz1 .i64 .i64 0 0 0 rfl rfl rfl rfl hb.out (Nat.zero_le _) (Nat.le_refl _) ?_)
    intro w2 _ hg
    have HK := hide (HK.out.grown hg (fun k h _ => by cases h))
    clear hg
    go_wp2
    go_loopw [6] (fun i wr => i = .int .i64 0 ∧ Keeps NoB w wr) (fun _ _ => 0)
    case atStart => exact ⟨rfl, HK.out⟩
    case round =>
      obtain ⟨rfl, hk⟩ := hrel
      have HK := hide hk
      clear hk
      go_wp2
      go_loopw [9] (fun i wr => i = .int .i64 0 ∧ Keeps NoB w wr) (fun _ _ => 0)
      case atStart => exact ⟨rfl, HK.out⟩
      case round =>
        obtain ⟨rfl, hk⟩ := hrel
        have HK := hide hk
        clear hk
        go_wp2
        go_loopw [11] (fun i wr => i = .int .i64 0 ∧ Keeps NoB w wr) (fun _ _ => 0)
        case atStart => exact ⟨rfl, HK.out⟩
        case round =>
          obtain ⟨rfl, hk⟩ := hrel
          have HK := hide hk
          clear hk
          go_wp2
          go_loopw [14] (fun i wr => i = .int .i64 0 ∧ Keeps NoB w wr) (fun _ _ => 0)
          case atStart => exact ⟨rfl, HK.out⟩
          case round =>
            obtain ⟨rfl, hk⟩ := hrel
            have HK := hide hk
            clear hk
            go_wp2
            go_ret
            exact ⟨rfl, HK.out⟩

theorem Tryz.infoE162 : (Tryz.prog.info? 162).map (fun i => (i.zero, i.size, i.bytes)) = some (some (.slice none 0 0), 1, 24) := by kernel_rfl
set_option maxRecDepth 100000 in
theorem flat47 (w : World) : Calls Tryz.prog 47 #[.slice none 0 0] w fun e w' => e = .returned (.bool true) ∧ Keeps NoB w w' := by
  obtain ⟨i0, hi0, hz0, hz1, hz2⟩ := info_parts Tryz.infoE162
  have hb := hide (show i0.bytes * 0 ≤ 281474976710656 from by omega)
  go_enter Tryz.func47, Tryz.ntmps47
  go_wp2
  go_loopw [3] (fun i wr => i = .int .i64 0 ∧ Keeps NoB w wr) (fun _ _ => 0)
  case atStart => exact ⟨rfl, Keeps.refl _ _⟩
  case round =>
    obtain ⟨rfl, hk⟩ := hrel
    have HK := hide hk
    clear hk
    go_wp2_with (refine wpList_make_full _ rfl _ _ 68 rfl wr.heap.size 162 i0 _ 1 Tryz.underlying68 hi0 hz0 hz1 .i64 .i64 0 0 0 rfl rfl rfl rfl hb.out (Nat.zero_le _) (Nat.le_refl _) ?_)
    intro w2 _ hg
    have HK := hide (HK.out.grown hg (fun k h _ => by cases h))
    clear hg
    go_wp2
    go_loopw [6] (fun i wr => i = .int .i64 0 ∧ Keeps NoB w wr) (fun _ _ => 0)
    case atStart => exact ⟨rfl, HK.out⟩
    case round =>
      obtain ⟨rfl, hk⟩ := hrel
      have HK := hide hk
      clear hk
      go_wp2
      go_loopw [9] (fun i wr => i = .int .i64 0 ∧ Keeps NoB w wr) (fun _ _ => 0)
      case atStart => exact ⟨rfl, HK.out⟩
      case round =>
        obtain ⟨rfl, hk⟩ := hrel
        have HK := hide hk
        clear hk
        go_wp2
        go_loopw [11] (fun i wr => i = .int .i64 0 ∧ Keeps NoB w wr) (fun _ _ => 0)
        case atStart => exact ⟨rfl, HK.out⟩
        case round =>
          obtain ⟨rfl, hk⟩ := hrel
          have HK := hide hk
          clear hk
          go_wp2
          go_loopw [14] (fun i wr => i = .int .i64 0 ∧ Keeps NoB w wr) (fun _ _ => 0)
          case atStart => exact ⟨rfl, HK.out⟩
          case round =>
            obtain ⟨rfl, hk⟩ := hrel
            have HK := hide hk
            clear hk
            go_wp2
            go_ret
            exact ⟨rfl, HK.out⟩

theorem Tryz.infoE168 : (Tryz.prog.info? 168).map (fun i => (i.zero, i.size, i.bytes)) = some (some (.slice none 0 0), 1, 24) := by kernel_rfl
set_option maxRecDepth 100000 in
theorem flat48 (w : World) : Calls Tryz.prog 48 #[.slice none 0 0] w fun e w' => e = .returned (.bool true) ∧ Keeps NoB w w' := by
  obtain ⟨i0, hi0, hz0, hz1, hz2⟩ := info_parts Tryz.infoE168
  have hb := hide (show i0.bytes * 0 ≤ 281474976710656 from by omega)
  go_enter Tryz.func48, Tryz.ntmps48
  go_wp2
  go_loopw [3] (fun i wr => i = .int .i64 0 ∧ Keeps NoB w wr) (fun _ _ => 0)
  case atStart => exact ⟨rfl, Keeps.refl _ _⟩
  case round =>
    obtain ⟨rfl, hk⟩ := hrel
    have HK := hide hk
    clear hk
    go_wp2_with (refine wpList_make_full _ rfl _ _ 69 rfl wr.heap.size 168 i0 _ 1 Tryz.underlying69 hi0 hz0 hz1 .i64 .i64 0 0 0 rfl rfl rfl rfl hb.out (Nat.zero_le _) (Nat.le_refl _) ?_)
    intro w2 _ hg
    have HK := hide (HK.out.grown hg (fun k h _ => by cases h))
    clear hg
    go_wp2
    go_loopw [6] (fun i wr => i = .int .i64 0 ∧ Keeps NoB w wr) (fun _ _ => 0)
    case atStart => exact ⟨rfl, HK.out⟩
    case round =>
      obtain ⟨rfl, hk⟩ := hrel
      have HK := hide hk
      clear hk
      go_wp2
      go_loopw [9] (fun i wr => i = .int .i64 0 ∧ Keeps NoB w wr) (fun _ _ => 0)
      case atStart => exact ⟨rfl, HK.out⟩
      case round =>
        obtain ⟨rfl, hk⟩ := hrel
        have HK := hide hk
        clear hk
        go_wp2
        go_loopw [11] (fun i wr => i = .int .i64 0 ∧ Keeps NoB w wr) (fun _ _ => 0)
        case atStart => exact ⟨rfl, HK.out⟩
        case round =>
          obtain ⟨rfl, hk⟩ := hrel
          have HK := hide hk
          clear hk
          go_wp2
          go_loopw [14] (fun i wr => i = .int .i64 0 ∧ Keeps NoB w wr) (fun _ _ => 0)
          case atStart => exact ⟨rfl, HK.out⟩
          case round =>
            obtain ⟨rfl, hk⟩ := hrel
            have HK := hide hk
            clear hk
            go_wp2
            go_ret
            exact ⟨rfl, HK.out⟩

theorem Tryz.infoE172 : (Tryz.prog.info? 172).map (fun i => (i.zero, i.size, i.bytes)) = some (some (.slice none 0 0), 1, 24) := by kernel_rfl
set_option maxRecDepth 100000 in
theorem flat49 (w : World) : Calls Tryz.prog 49 #[.slice none 0 0] w fun e w' => e = .returned (.bool true) ∧ Keeps NoB w w' := by
  obtain ⟨i0, hi0, hz0, hz1, hz2⟩ := info_parts Tryz.infoE172
  have hb := hide (show i0.bytes * 0 ≤ 281474976710656 from by omega)
  go_enter Tryz.func49, Tryz.ntmps49
  go_wp2
  go_loopw [3] (fun i wr => i = .int .i64 0 ∧ Keeps NoB w wr) (fun _ _ => 0)
  case atStart => exact ⟨rfl, Keeps.refl _ _⟩
  case round =>
    obtain ⟨rfl, hk⟩ := hrel
    have HK := hide hk
    clear hk
    go_wp2_with (refine wpList_make_full _ rfl _ _ 70 rfl wr.heap.size 172 i0 _ 1 Tryz.underlying70 hi0 hz0 hz1 .i64 .i64 0 0 0 rfl rfl rfl rfl hb.out (Nat.zero_le _) (Nat.le_refl _) ?_)
    intro w2 _ hg
    have HK := hide (HK.out.grown hg (fun k h _ => by cases h))
    clear hg
    go_wp2
    go_loopw [6] (fun i wr => i = .int .i64 0 ∧ Keeps NoB w wr) (fun _ _ => 0)
    case atStart => exact ⟨rfl, HK.out⟩
    case round =>
      obtain ⟨rfl, hk⟩ := hrel
      have HK := hide hk
      clear hk
      go_wp2
      go_loopw [9] (fun i wr => i = .int .i64 0 ∧ Keeps NoB w wr) (fun _ _ => 0)
      case atStart => exact ⟨rfl, HK.out⟩
      case round =>
        obtain ⟨rfl, hk⟩ := hrel
        have HK := hide hk
        clear hk
        go_wp2
        go_loopw [11] (fun i wr => i = .int .i64 0 ∧ Keeps NoB w wr) (fun _ _ => 0)
        case atStart => exact ⟨rfl, HK.out⟩
        case round =>
          obtain ⟨rfl, hk⟩ := hrel
          have HK := hide hk
          clear hk
          go_wp2
          go_loopw [14] (fun i wr => i = .int .i64 0 ∧ Keeps NoB w wr) (fun _ _ => 0)
          case atStart => exact ⟨rfl, HK.out⟩
          case round =>
            obtain ⟨rfl, hk⟩ := hrel
            have HK := hide hk
            clear hk
            go_wp2
            go_ret
            exact ⟨rfl, HK.out⟩

theorem Tryz.infoE177 : (Tryz.prog.info? 177).map (fun i => (i.zero, i.size, i.bytes)) = some (some (.slice none 0 0), 1, 24) := by kernel_rfl
set_option maxRecDepth 100000 in
theorem flat50 (w : World) : Calls Tryz.prog 50 #[.slice none 0 0] w fun e w' => e = .returned (.bool true) ∧ Keeps NoB w w' := by
  obtain ⟨i0, hi0, hz0, hz1, hz2⟩ := info_parts Tryz.infoE177
  have hb := hide (show i0.bytes * 0 ≤ 281474976710656 from by omega)
  go_enter Tryz.func50, Tryz.ntmps50
  go_wp2
  go_loopw [3] (fun i wr => i = .int .i64 0 ∧ Keeps NoB w wr) (fun _ _ => 0)
  case atStart => exact ⟨rfl, Keeps.refl _ _⟩
  case round =>
    obtain ⟨rfl, hk⟩ := hrel
    have HK := hide hk
    clear hk
    go_wp2_with (refine wpList_make_full _ rfl _ _ 71 rfl wr.heap.size 177 i0 _ 1 Tryz.underlying71 hi0 hz0 hz1 .i64 .i64 0 0 0 rfl rfl rfl rfl hb.out (Nat.zero_le _) (Nat.le_refl _) ?_)
    intro w2 _ hg
    have HK := hide (HK.out.grown hg (fun k h _ => by cases h))
    clear hg
    go_wp2
    go_loopw [6] (fun i wr => i = .int .i64 0 ∧ Keeps NoB w wr) (fun _ _ => 0)
    case atStart => exact ⟨rfl, HK.out⟩
    case round =>
      obtain ⟨rfl, hk⟩ := hrel
      have HK := hide hk
      clear hk
      go_wp2
      go_loopw [9] (fun i wr => i = .int .i64 0 ∧ Keeps NoB w wr) (fun _ _ => 0)
      case atStart => exact ⟨rfl, HK.out⟩
      case round =>
        obtain ⟨rfl, hk⟩ := hrel
        have HK := hide hk
        clear hk
        go_wp2
        go_loopw [11] (fun i wr => i = .int .i64 0 ∧ Keeps NoB w wr) (fun _ _ => 0)
        case atStart => exact ⟨rfl, HK.out⟩
        case round =>
          obtain ⟨rfl, hk⟩ := hrel
          have HK := hide hk
          clear hk
          go_wp2
          go_loopw [14] (fun i wr => i = .int .i64 0 ∧ Keeps NoB w wr) (fun _ _ => 0)
          case atStart => exact ⟨rfl, HK.out⟩
          case round =>
            obtain ⟨rfl, hk⟩ := hrel
            have HK := hide hk
            clear hk
            go_wp2
            go_ret
            exact ⟨rfl, HK.out⟩

theorem Tryz.infoE182 : (Tryz.prog.info? 182).map (fun i => (i.zero, i.size, i.bytes)) = some (some (.slice none 0 0), 1, 24) := by kernel_rfl
set_option maxRecDepth 100000 in
theorem flat51 (w : World) : Calls Tryz.prog 51 #[.slice none 0 0] w fun e w' => e = .returned (.bool true) ∧ Keeps NoB w w' := by
  obtain ⟨i0, hi0, hz0, hz1, hz2⟩ := info_parts Tryz.infoE182
  have hb := hide (show i0.bytes * 0 ≤ 281474976710656 from by omega)
  go_enter Tryz.func51, Tryz.ntmps51
  go_wp2
  go_loopw [3] (fun i wr => i = .int .i64 0 ∧ Keeps NoB w wr) (fun _ _ => 0)
  case atStart => exact ⟨rfl, Keeps.refl _ _⟩
  case round =>
    obtain ⟨rfl, hk⟩ := hrel
    have HK := hide hk
    clear hk
    go_wp2_with (refine wpList_make_full _ rfl _ _ 72 rfl wr.heap.size 182 i0 _ 1 Tryz.underlying72 hi0 hz0 hz1 .i64 .i64 0 0 0 rfl rfl rfl rfl hb.out (Nat.zero_le _) (Nat.le_refl _) ?_)
    intro w2 _ hg
    have HK := hide (HK.out.grown hg (fun k h _ => by cases h))
    clear hg
    go_wp2
    go_loopw [6] (fun i wr => i = .int .i64 0 ∧ Keeps NoB w wr) (fun _ _ => 0)
    case atStart => exact ⟨rfl, HK.out⟩
    case round =>
      obtain ⟨rfl, hk⟩ := hrel
      have HK := hide hk
      clear hk
      go_wp2
      go_loopw [9] (fun i wr => i = .int .i64 0 ∧ Keeps NoB w wr) (fun _ _ => 0)
      case atStart => exact ⟨rfl, HK.out⟩
      case round =>
        obtain ⟨rfl, hk⟩ := hrel
        have HK := hide hk
        clear hk
        go_wp2
        go_loopw [11] (fun i wr => i = .int .i64 0 ∧ Keeps NoB w wr) (fun _ _ => 0)
        case atStart => exact ⟨rfl, HK.out⟩
        case round =>
          obtain ⟨rfl, hk⟩ := hrel
          have HK := hide hk
          clear hk
          go_wp2
          go_loopw [14] (fun i wr => i = .int .i64 0 ∧ Keeps NoB w wr) (fun _ _ => 0)
          case atStart => exact ⟨rfl, HK.out⟩
          case round =>
            obtain ⟨rfl, hk⟩ := hrel
            have HK := hide hk
            clear hk
            go_wp2
            go_ret
            exact ⟨rfl, HK.out⟩

theorem Tryz.infoE187 : (Tryz.prog.info? 187).map (fun i => (i.zero, i.size, i.bytes)) = some (some (.slice none 0 0), 1, 24) := by kernel_rfl
set_option maxRecDepth 100000 in
theorem flat52 (w : World) : Calls Tryz.prog 52 #[.slice none 0 0] w fun e w' => e = .returned (.bool true) ∧ Keeps NoB w w' := by
  obtain ⟨i0, hi0, hz0, hz1, hz2⟩ := info_parts Tryz.infoE187
  have hb := hide (show i0.bytes * 0 ≤ 281474976710656 from by omega)
  go_enter Tryz.func52, Tryz.ntmps52
  go_wp2
  go_loopw [3] (fun i wr => i = .int .i64 0 ∧ Keeps NoB w wr) (fun _ _ => 0)
  case atStart => exact ⟨rfl, Keeps.refl _ _⟩
  case round =>
    obtain ⟨rfl, hk⟩ := hrel
    have HK := hide hk
    clear hk
    go_wp2_with (refine wpList_make_full _ rfl _ _ 73 rfl wr.heap.size 187 i0 _ 1 Tryz.underlying73 hi0 hz0 hz1 .i64 .i64 0 0 0 rfl rfl rfl rfl hb.out (Nat.zero_le _) (Nat.le_refl _) ?_)
    intro w2 _ hg
    have HK := hide (HK.out.grown hg (fun k h _ => by cases h))
    clear hg
    go_wp2
    go_loopw [6] (fun i wr => i = .int .i64 0 ∧ Keeps NoB w wr) (fun _ _ => 0)
    case atStart => exact ⟨rfl, HK.out⟩
    case round =>
      obtain ⟨rfl, hk⟩ := hrel
      have HK := hide hk
      clear hk
      go_wp2
      go_loopw [9] (fun i wr => i = .int .i64 0 ∧ Keeps NoB w wr) (fun _ _ => 0)
      case atStart => exact ⟨rfl, HK.out⟩
      case round =>
        obtain ⟨rfl, hk⟩ := hrel
        have HK := hide hk
        clear hk
        go_wp2
        go_loopw [11] (fun i wr => i = .int .i64 0 ∧ Keeps NoB w wr) (fun _ _ => 0)
        case atStart => exact ⟨rfl, HK.out⟩
        case round =>
          obtain ⟨rfl, hk⟩ := hrel
          have HK := hide hk
          clear hk
          go_wp2
          go_loopw [14] (fun i wr => i = .int .i64 0 ∧ Keeps NoB w wr) (fun _ _ => 0)
          case atStart => exact ⟨rfl, HK.out⟩
          case round =>
            obtain ⟨rfl, hk⟩ := hrel
            have HK := hide hk
            clear hk
            go_wp2
            go_ret
            exact ⟨rfl, HK.out⟩

theorem Tryz.infoE191 : (Tryz.prog.info? 191).map (fun i => (i.zero, i.size, i.bytes)) = some (some (.slice none 0 0), 1, 24) := by kernel_rfl
set_option maxRecDepth 100000 in
theorem flat53 (w : World) : Calls Tryz.prog 53 #[.slice none 0 0] w fun e w' => e = .returned (.bool true) ∧ Keeps NoB w w' := by
  obtain ⟨i0, hi0, hz0, hz1, hz2⟩ := info_parts Tryz.infoE191
  have hb := hide (show i0.bytes * 0 ≤ 281474976710656 from by omega)
  go_enter Tryz.func53, Tryz.ntmps53
  go_wp2
  go_loopw [3] (fun i wr => i = .int .i64 0 ∧ Keeps NoB w wr) (fun _ _ => 0)
  case atStart => exact ⟨rfl, Keeps.refl _ _⟩
  case round =>
    obtain ⟨rfl, hk⟩ := hrel
    have HK := hide hk
    clear hk
    go_wp2_with (refine wpList_make_full _ rfl _ _ 74 rfl wr.heap.size 191 i0 _ 1 Tryz.underlying74 hi0 hz0 hz1 .i64 .i64 0 0 0 rfl rfl rfl rfl hb.out (Nat.zero_le _) (Nat.le_refl _) ?_)
    intro w2 _ hg
    have HK := hide (HK.out.grown hg (fun k h _ => by cases h))
    clear hg
    go_wp2
    go_loopw [6] (fun i wr => i = .int .i64 0 ∧ Keeps NoB w wr) (fun _ _ => 0)
    case atStart => exact ⟨rfl, HK.out⟩
    case round =>
      obtain ⟨rfl, hk⟩ := hrel
      have HK := hide hk
      clear hk
      go_wp2
      go_loopw [9] (fun i wr => i = .int .i64 0 ∧ Keeps NoB w wr) (fun _ _ => 0)
      case atStart => exact ⟨rfl, HK.out⟩
      case round =>
        obtain ⟨rfl, hk⟩ := hrel
        have HK := hide hk
        clear hk
        go_wp2
        go_loopw [11] (fun i wr => i = .int .i64 0 ∧ Keeps NoB w wr) (fun _ _ => 0)
        case atStart => exact ⟨rfl, HK.out⟩
        case round =>
          obtain ⟨rfl, hk⟩ := hrel
          have HK := hide hk
          clear hk
          go_wp2
          go_loopw [14] (fun i wr => i = .int .i64 0 ∧ Keeps NoB w wr) (fun _ _ => 0)
          case atStart => exact ⟨rfl, HK.out⟩
          case round =>
            obtain ⟨rfl, hk⟩ := hrel
            have HK := hide hk
            clear hk
            go_wp2
            go_ret
            exact ⟨rfl, HK.out⟩

end Go.Proofs.YtjmljjmnamfljaaGreat
