/- printed by wip/mkconcat.py: slices.Grow of nil, slices.Concat. -/
import Derived.Test.YtdmldipnalklgaaHeads
namespace Go.Proofs.Ytdmldipnalklgaa
open Go.RowKit

theorem Try.inCInfo : (Try.prog.info? 44).map (fun i => (i.zero, i.size, i.bytes)) = some (some (.agg #[.int .u8 0, .int .i64 0, .int .i64 0, .int .i64 0, .int .i64 0, .int .i64 0, .string ByteArray.empty, .slice none 0 0]), 8, 88) := by kernel_rfl

set_option maxRecDepth 100000 in
theorem inC_grow (n : Nat) (w : World) (hn : Roomy n 88) :
    Calls Try.prog 35 #[.slice none 0 0, .int .i64 n] w fun e w' => ∃ A c, e = .returned (.slice A 0 c) ∧ Slab w' 44 8 A 0 c [] ∧ (∀ k, rowB A k → w.heap.size ≤ k) ∧ Keeps NoB w w' := by
  obtain ⟨i0, hi0, hz0, hz1, hz2⟩ := info_parts Try.inCInfo
  have hnm : n ≤ 140737488355328 := by unfold Roomy at hn; omega
  rcases Nat.eq_zero_or_pos n with rfl | hp
  · go_enter Try.func35, Try.ntmps35
    go_wp2
    go_ret
    exact ⟨none, 0, rfl, Slab.nil _ _ _, (fun k ⟨o, h⟩ => by cases h), Keeps.refl _ _⟩
  · have h1 : ¬ ((n : Int) < 0) := by omega
    have h2 : wrap64 ((n : Int) - 0) = (n : Int) := by unfold wrap64; omega
    have hpp : (0 : Int) < (n : Int) := by omega
    have hold : (Builtin.firstCells i0.size 0 (.slice none 0 0)).run Try.prog w.drew = .ok (([] : List Value)).toArray w.drew := run_firstCells_none w.drew i0.size 0 0 0
    have hrun := fun ty => Lib.run_append_grow_zeros (P := Try.prog) w 34 3 ty 44 i0 (.agg #[.int .u8 0, .int .i64 0, .int .i64 0, .int .i64 0, .int .i64 0, .int .i64 0, .string ByteArray.empty, .slice none 0 0]) .i64 .i64 Try.underlying34 Try.underlying3 hi0 hz0 none 0 0 [] hold n hp (by rw [hz1]; omega) (by omega) (by omega) (by rw [hz2]; unfold Roomy at hn; omega) (by rw [hz2]; exact growslice_fits (by omega) (by rw [Nat.zero_add]; exact hn))
    simp only [Nat.zero_add, Nat.sub_zero] at hrun
    have hge := grownCap_ge w n 0 44
    have hle := grownCap_le_maxLen w n 0 44 (by unfold maxLen; omega)
    obtain ⟨G, hG⟩ : ∃ G, G = grownCap w n 0 44 := ⟨_, rfl⟩
    rw [← hG] at hrun hge hle
    have hG63 : G ≤ 9223372036854775807 := by unfold maxLen at hle; exact hle
    have HRUN := hide hrun; have HLE := hide hle
    clear hrun hold hG hle hi0 hz0 hz1 hz2 hn
    go_enter Try.func35, Try.ntmps35
    go_wp2_with (at_builtin; refine Lib.wpList_append_run _ rfl _ _ _ _ rfl _ _ rfl rfl _ _ (HRUN.out _) ?_)
    all_goals
      go_ret
      refine ⟨_, _, rfl, Slab.mk' (by simp) (Nat.zero_le _) HLE.out (Blk.new w.drew 44 _) ?_ (fun j hj => absurd hj (by omega)), (fun k ⟨o, h⟩ => by injection h with h; injection h with h; omega), ((Keeps.refl NoB w).drew).alloc _⟩
      simp only [Array.size_append, List.size_toArray, size_zeroCells, List.length_nil, Value.cells]
      have := Nat.mul_le_mul_right 8 hge
      simp
      omega

set_option maxRecDepth 100000 in
theorem inC_concat (xss : List (List Value)) (vs : List Value) (A : Option Addr) (K c N : Nat) (w : World) (B B' : Nat → Prop) (F F' : Bool)
    (hh : Reads w B F 1 A K vs) (hx : HeadsAt w B' F' 8 vs xss) (hN : xss.flatten.length = N * 8) (h1 : ∀ u ∈ xss.flatten, u.oneCell' = true) (hr : Roomy N 88) (hK : K ≤ 9223372036854775807) :
    Calls Try.prog 29 #[.slice A K c] w fun e w' => ∃ A' c', e = .returned (.slice A' N c') ∧ Slab w' 44 8 A' N c' xss.flatten ∧ (∀ k, rowB A' k → w.heap.size ≤ k) ∧ Keeps NoB w w' := by
  have hvl : vs.length = K := by have := hh.1; omega
  have hxl : xss.length = K := by rw [← hx.len]; exact hvl
  have hnm : N ≤ 140737488355328 := by unfold Roomy at hr; omega
  have HH := hide hh; have HX := hide hx; have HN := hide hN; have H1 := hide h1; have HR := hide hr; have HVL := hide hvl; have HXL := hide hxl
  clear hh hx hN h1 hr hvl hxl
  go_enter Try.func29, Try.ntmps29
  go_wp2
  go_loopw [11, 3] (fun i s3 wr => ∃ k s : Nat, k ≤ K ∧ i = .int .i64 k ∧ s3 = .int .i64 s ∧ s * 8 = (xss.take k).flatten.length ∧ w = wr) (fun i _ _ => K - (intOf i).toNat)
  case atStart => exact ⟨0, 0, Nat.zero_le _, rfl, rfl, by simp, rfl⟩
  case round =>
    obtain ⟨k, s, hk, rfl, rfl, hs, rfl⟩ := hrel
    have HS := hide hs; clear hs
    by_cases hlt : k < K
    · obtain ⟨A1, n1, c1, xs, hv, hx1, hrd⟩ := HX.out.at k (by have := HVL.out; omega)
      obtain ⟨⟨b, o, sp⟩, hA, hsp, _, _, hc⟩ := HH.out.2 (by omega)
      simp only at hsp
      subst hsp hA
      have p0 := (hc k _ hv).1
      have hk1 : (k : Int) < (K : Int) := by omega
      have hk0 : (0 : Int) ≤ (k : Int) := by omega
      have HT := hide (heads_take hx1)
      have hle : s + n1 ≤ N := by
        have h1 := HS.out; have h2 := heads_take_le xss (k + 1); rw [HT.out, List.length_append, HN.out, ← h1, hrd.1] at h2; omega
      have HS1 : Hid ((s + n1) * 8 = (xss.take (k + 1)).flatten.length) := hide (by
        rw [HT.out, List.length_append, hrd.1, ← HS.out]; omega)
      clear hc hv hx1 hrd
      have hw1 : wrap64 ((s : Int) + (n1 : Int)) = (s : Int) + (n1 : Int) := by unfold wrap64; omega
      have hw2 : ¬ ((s : Int) + (n1 : Int) < 0) := by omega
      go_wp2
      go_roundw
      case rel => exact ⟨k + 1, s + n1, by omega, by go_num, by go_num, HS1.out, by first | rfl | trivial⟩
      case measure => simp [intOf]; omega
    · have hsN : s = N := by
        have h1 := HS.out; rw [List.take_of_length_le (by have := HXL.out; omega), HN.out] at h1; omega
      subst hsN
      have HK0 := hide hlt; clear hlt
      go_wp2_with
        first
        | (go_at_call 35
           refine (inC_grow s _ HR.out).mono ?_
           rintro e w2 ⟨A2, c2, rfl, hs2, hf2, hk2⟩
           have HS2 := hide hs2; have HF2 := hide hf2; have HK2 := hide hk2
           clear hs2 hf2 hk2)
        | fail
      go_loopw [27, 6] (fun i s6 wr => ∃ (k s : Nat) (A' : Option Addr) (c' : Nat), k ≤ K ∧ i = .int .i64 k ∧ s6 = .slice A' s c' ∧ Slab wr 44 8 A' s c' (xss.take k).flatten ∧ (∀ k, rowB A' k → w.heap.size ≤ k) ∧ Keeps NoB w wr) (fun i _ _ => K - (intOf i).toNat)
      case atStart => exact ⟨0, 0, A2, c2, Nat.zero_le _, rfl, rfl, HS2.out, HF2.out, HK2.out⟩
      case round =>
        obtain ⟨k, s2, A', c', hk, rfl, rfl, hs', hf', hk'⟩ := hrel
        have HSL := hide hs'; have HFR := hide hf'; have HKW := hide hk'; clear hs' hf' hk'
        by_cases hlt : k < K
        · obtain ⟨A1, n1, c1, xs, hv, hx1, hrd⟩ := HX.out.at k (by have := HVL.out; omega)
          obtain ⟨⟨b, o, sp⟩, hA, hsp, _, _, hc⟩ := HH.out.2 (by omega)
          simp only at hsp
          subst hsp hA
          have p0 : wr.cell? ⟨b, o + k, none⟩ = some (.slice A1 n1 c1) := HKW.out.cell (p := ⟨b, o + k, none⟩) id (hc k _ hv).1
          have hk1 : (k : Int) < (K : Int) := by omega
          have hk0 : (0 : Int) ≤ (k : Int) := by omega
          have HT := hide (heads_take hx1)
          have hle : s2 + n1 ≤ s := by
            have h1 := HSL.out.1; have h2 := heads_take_le xss (k + 1); rw [HT.out, List.length_append, HN.out, h1, hrd.1] at h2; omega
          have HRD := hide (hrd.keep HKW.out (fun _ _ => id))
          have HON : Hid (∀ u ∈ xs, u.oneCell' = true) := hide (fun u hu => H1.out u (by
            rw [List.mem_flatten]
            exact ⟨xs, List.mem_of_getElem? hx1, hu⟩))
          have HBD : Hid (s2 + n1 ≤ maxLen ∧ (s2 + n1) * 88 ≤ 140737488355328) := hide ⟨by unfold maxLen; omega, by have := HR.out; unfold Roomy at this; omega⟩
          obtain ⟨i0, hi0, hz0, hz1, hz2⟩ := info_parts Try.inCInfo
          clear hc hv hx1 hrd
          obtain ⟨ys, hys⟩ : ∃ ys, (xss.take k).flatten = ys := ⟨_, rfl⟩
          rw [hys] at HSL HT
          clear hys
          go_wp2_with (at_builtin; refine wpList_append_any _ rfl (.tmp 31) (.tmp 32) 34 rfl 44 i0 _ 8 88 Try.underlying34 hi0 hz0 hz1 hz2 rfl (by omega) A' s2 c' ys rfl HSL.out B' F' A1 n1 c1 xs rfl HRD.out HON.out HBD.out.1 HBD.out.2 ?_)
          intro A3 c3 w3 g1 g2 g3
          have HG := hide (And.intro g1 (And.intro g2 g3))
          clear g1 g2 g3
          go_wp2
          go_roundw
          case rel =>
            refine ⟨k + 1, s2 + n1, A3, c3, by omega, by go_num, rfl, by rw [HT.out]; exact HG.out.1, fun j hj => ?_, HKW.out.trans' HG.out.2.1 (fun _ _ => id) (fun j hj hb => absurd (HFR.out j hb) (by omega))⟩
            rcases HG.out.2.2 j hj with h | h
            · exact HFR.out j h
            · exact Nat.le_trans HKW.out.size h
          case measure => simp [intOf]; omega
        · have hsN : s2 = s := by
            have h1 := HSL.out.1; rw [List.take_of_length_le (by have := HXL.out; omega), HN.out] at h1; omega
          subst hsN
          go_wp2
          go_ret
          refine ⟨A', c', rfl, ?_, HFR.out, HKW.out⟩
          have h := HSL.out
          rw [List.take_of_length_le (by have := HXL.out; omega)] at h
          exact h
end Go.Proofs.Ytdmldipnalklgaa

