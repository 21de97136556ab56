/- printed by wip/mkconcat.py: slices.Grow of nil, slices.Concat. term.copies: lists of terms as one, in memory of its own (given term.Copy for smaller terms); Clone of limbs. -/
import Derived.Test.YtjdbjjjbgibpaaaGreatDoorHeadsJn
import Derived.Test.YtjdbjjjbgibpaaaGreatDoorTmSamesJn
namespace Go.Proofs.YtjdbjjjbgibpaaaGreatDoor
open Go.RowKit

theorem Tryz.tmCInfo : (Tryz.prog.info? 26).map (fun i => (i.zero, i.size, i.bytes)) = some (some (.agg #[.int .u8 0, .bool false, .slice none 0 0, .string ByteArray.empty, .int .i64 0, .slice none 0 0, .slice none 0 0]), 7, 104) := by kernel_rfl

set_option maxRecDepth 100000 in
theorem tmC_grow (n : Nat) (w : World) (hn : Roomy n 104) :
    Calls Tryz.prog 72 #[.slice none 0 0, .int .i64 n] w fun e w' => ∃ A c, e = .returned (.slice A 0 c) ∧ Slab w' 26 7 A 0 c [] ∧ (∀ k, rowB A k → w.heap.size ≤ k) ∧ Keeps NoB w w' := by
  obtain ⟨i0, hi0, hz0, hz1, hz2⟩ := info_parts Tryz.tmCInfo
  have hnm : n ≤ 140737488355328 := by unfold Roomy at hn; omega
  rcases Nat.eq_zero_or_pos n with rfl | hp
  · go_enter Tryz.func72, Tryz.ntmps72
    go_wp2
    go_ret
    exact ⟨none, 0, rfl, Slab.nil _ _ _, (fun k ⟨o, h⟩ => by cases h), Keeps.refl _ _⟩
  · have h1 : ¬ ((n : Int) < 0) := by omega
    have h2 : wrap64 ((n : Int) - 0) = (n : Int) := by unfold wrap64; omega
    have hpp : (0 : Int) < (n : Int) := by omega
    have hold : (Builtin.firstCells i0.size 0 (.slice none 0 0)).run Tryz.prog w.drew = .ok (([] : List Value)).toArray w.drew := run_firstCells_none w.drew i0.size 0 0 0
    have hrun := fun ty => Lib.run_append_grow_zeros (P := Tryz.prog) w 24 3 ty 26 i0 (.agg #[.int .u8 0, .bool false, .slice none 0 0, .string ByteArray.empty, .int .i64 0, .slice none 0 0, .slice none 0 0]) .i64 .i64 Tryz.underlying24 Tryz.underlying3 hi0 hz0 none 0 0 [] hold n hp (by rw [hz1]; omega) (by omega) (by omega) (by rw [hz2]; unfold Roomy at hn; omega) (by rw [hz2]; exact growslice_fits (by omega) (by rw [Nat.zero_add]; exact hn))
    simp only [Nat.zero_add, Nat.sub_zero] at hrun
    have hge := grownCap_ge w n 0 26
    have hle := grownCap_le_maxLen w n 0 26 (by unfold maxLen; omega)
    obtain ⟨G, hG⟩ : ∃ G, G = grownCap w n 0 26 := ⟨_, rfl⟩
    rw [← hG] at hrun hge hle
    have hG63 : G ≤ 9223372036854775807 := by unfold maxLen at hle; exact hle
    have HRUN := hide hrun; have HLE := hide hle
    clear hrun hold hG hle hi0 hz0 hz1 hz2 hn
    go_enter Tryz.func72, Tryz.ntmps72
    go_wp2_with (at_builtin; refine Lib.wpList_append_run _ rfl _ _ _ _ rfl _ _ rfl rfl _ _ (HRUN.out _) ?_)
    all_goals
      go_ret
      refine ⟨_, _, rfl, Slab.mk' (by simp) (Nat.zero_le _) HLE.out (Blk.new w.drew 26 _) ?_ (fun j hj => absurd hj (by omega)), (fun k ⟨o, h⟩ => by injection h with h; injection h with h; omega), ((Keeps.refl NoB w).drew).alloc _⟩
      simp only [Array.size_append, List.size_toArray, size_zeroCells, List.length_nil, Value.cells]
      have := Nat.mul_le_mul_right 7 hge
      simp
      omega

set_option maxRecDepth 100000 in
theorem tmC_concat (xss : List (List Value)) (vs : List Value) (A : Option Addr) (K c N : Nat) (w : World) (B B' : Nat → Prop) (F F' : Bool)
    (hh : Reads w B F 1 A K vs) (hx : HeadsAt w B' F' 7 vs xss) (hN : xss.flatten.length = N * 7) (h1 : ∀ u ∈ xss.flatten, u.oneCell' = true) (hr : Roomy N 104) (hK : K ≤ 9223372036854775807) :
    Calls Tryz.prog 59 #[.slice A K c] w fun e w' => ∃ A' c', e = .returned (.slice A' N c') ∧ Slab w' 26 7 A' N c' xss.flatten ∧ (∀ k, rowB A' k → w.heap.size ≤ k) ∧ Keeps NoB w w' := by
  have hvl : vs.length = K := by have := hh.1; omega
  have hxl : xss.length = K := by rw [← hx.len]; exact hvl
  have hnm : N ≤ 140737488355328 := by unfold Roomy at hr; omega
  have HH := hide hh; have HX := hide hx; have HN := hide hN; have H1 := hide h1; have HR := hide hr; have HVL := hide hvl; have HXL := hide hxl
  clear hh hx hN h1 hr hvl hxl
  go_enter Tryz.func59, Tryz.ntmps59
  go_wp2
  go_loopw [11, 3] (fun i s3 wr => ∃ k s : Nat, k ≤ K ∧ i = .int .i64 k ∧ s3 = .int .i64 s ∧ s * 7 = (xss.take k).flatten.length ∧ w = wr) (fun i _ _ => K - (intOf i).toNat)
  case atStart => exact ⟨0, 0, Nat.zero_le _, rfl, rfl, by simp, rfl⟩
  case round =>
    obtain ⟨k, s, hk, rfl, rfl, hs, rfl⟩ := hrel
    have HS := hide hs; clear hs
    by_cases hlt : k < K
    · obtain ⟨A1, n1, c1, xs, hv, hx1, hrd⟩ := HX.out.at k (by have := HVL.out; omega)
      obtain ⟨⟨b, o, sp⟩, hA, hsp, _, _, hc⟩ := HH.out.2 (by omega)
      simp only at hsp
      subst hsp hA
      have p0 := (hc k _ hv).1
      have hk1 : (k : Int) < (K : Int) := by omega
      have hk0 : (0 : Int) ≤ (k : Int) := by omega
      have HT := hide (heads_take hx1)
      have hle : s + n1 ≤ N := by
        have h1 := HS.out; have h2 := heads_take_le xss (k + 1); rw [HT.out, List.length_append, HN.out, ← h1, hrd.1] at h2; omega
      have HS1 : Hid ((s + n1) * 7 = (xss.take (k + 1)).flatten.length) := hide (by
        rw [HT.out, List.length_append, hrd.1, ← HS.out]; omega)
      clear hc hv hx1 hrd
      have hw1 : wrap64 ((s : Int) + (n1 : Int)) = (s : Int) + (n1 : Int) := by unfold wrap64; omega
      have hw2 : ¬ ((s : Int) + (n1 : Int) < 0) := by omega
      go_wp2
      go_roundw
      case rel => exact ⟨k + 1, s + n1, by omega, by go_num, by go_num, HS1.out, by first | rfl | trivial⟩
      case measure => simp [intOf]; omega
    · have hsN : s = N := by
        have h1 := HS.out; rw [List.take_of_length_le (by have := HXL.out; omega), HN.out] at h1; omega
      subst hsN
      have HK0 := hide hlt; clear hlt
      go_wp2_with
        first
        | (go_at_call 72
           refine (tmC_grow s _ HR.out).mono ?_
           rintro e w2 ⟨A2, c2, rfl, hs2, hf2, hk2⟩
           have HS2 := hide hs2; have HF2 := hide hf2; have HK2 := hide hk2
           clear hs2 hf2 hk2)
        | fail
      go_loopw [27, 6] (fun i s6 wr => ∃ (k s : Nat) (A' : Option Addr) (c' : Nat), k ≤ K ∧ i = .int .i64 k ∧ s6 = .slice A' s c' ∧ Slab wr 26 7 A' s c' (xss.take k).flatten ∧ (∀ k, rowB A' k → w.heap.size ≤ k) ∧ Keeps NoB w wr) (fun i _ _ => K - (intOf i).toNat)
      case atStart => exact ⟨0, 0, A2, c2, Nat.zero_le _, rfl, rfl, HS2.out, HF2.out, HK2.out⟩
      case round =>
        obtain ⟨k, s2, A', c', hk, rfl, rfl, hs', hf', hk'⟩ := hrel
        have HSL := hide hs'; have HFR := hide hf'; have HKW := hide hk'; clear hs' hf' hk'
        by_cases hlt : k < K
        · obtain ⟨A1, n1, c1, xs, hv, hx1, hrd⟩ := HX.out.at k (by have := HVL.out; omega)
          obtain ⟨⟨b, o, sp⟩, hA, hsp, _, _, hc⟩ := HH.out.2 (by omega)
          simp only at hsp
          subst hsp hA
          have p0 : wr.cell? ⟨b, o + k, none⟩ = some (.slice A1 n1 c1) := HKW.out.cell (p := ⟨b, o + k, none⟩) id (hc k _ hv).1
          have hk1 : (k : Int) < (K : Int) := by omega
          have hk0 : (0 : Int) ≤ (k : Int) := by omega
          have HT := hide (heads_take hx1)
          have hle : s2 + n1 ≤ s := by
            have h1 := HSL.out.1; have h2 := heads_take_le xss (k + 1); rw [HT.out, List.length_append, HN.out, h1, hrd.1] at h2; omega
          have HRD := hide (hrd.keep HKW.out (fun _ _ => id))
          have HON : Hid (∀ u ∈ xs, u.oneCell' = true) := hide (fun u hu => H1.out u (by
            rw [List.mem_flatten]
            exact ⟨xs, List.mem_of_getElem? hx1, hu⟩))
          have HBD : Hid (s2 + n1 ≤ maxLen ∧ (s2 + n1) * 104 ≤ 140737488355328) := hide ⟨by unfold maxLen; omega, by have := HR.out; unfold Roomy at this; omega⟩
          obtain ⟨i0, hi0, hz0, hz1, hz2⟩ := info_parts Tryz.tmCInfo
          clear hc hv hx1 hrd
          obtain ⟨ys, hys⟩ : ∃ ys, (xss.take k).flatten = ys := ⟨_, rfl⟩
          rw [hys] at HSL HT
          clear hys
          go_wp2_with (at_builtin; refine wpList_append_any _ rfl (.tmp 31) (.tmp 32) 24 rfl 26 i0 _ 7 104 Tryz.underlying24 hi0 hz0 hz1 hz2 rfl (by omega) A' s2 c' ys rfl HSL.out B' F' A1 n1 c1 xs rfl HRD.out HON.out HBD.out.1 HBD.out.2 ?_)
          intro A3 c3 w3 g1 g2 g3
          have HG := hide (And.intro g1 (And.intro g2 g3))
          clear g1 g2 g3
          go_wp2
          go_roundw
          case rel =>
            refine ⟨k + 1, s2 + n1, A3, c3, by omega, by go_num, rfl, by rw [HT.out]; exact HG.out.1, fun j hj => ?_, HKW.out.trans' HG.out.2.1 (fun _ _ => id) (fun j hj hb => absurd (HFR.out j hb) (by omega))⟩
            rcases HG.out.2.2 j hj with h | h
            · exact HFR.out j h
            · exact Nat.le_trans HKW.out.size h
          case measure => simp [intOf]; omega
        · have hsN : s2 = s := by
            have h1 := HSL.out.1; rw [List.take_of_length_le (by have := HXL.out; omega), HN.out] at h1; omega
          subst hsN
          go_wp2
          go_ret
          refine ⟨A', c', rfl, ?_, HFR.out, HKW.out⟩
          have h := HSL.out
          rw [List.take_of_length_le (by have := HXL.out; omega)] at h
          exact h
end Go.Proofs.YtjdbjjjbgibpaaaGreatDoor
namespace Go.Proofs.YtjdbjjjbgibpaaaGreatDoor
open Go.RowKit

/-- What was not there yet. -/
abbrev Above (w : World) : Nat → Prop := fun k => w.heap.size ≤ k

set_option maxRecDepth 100000 in
theorem tm_clone_limbs (B : Nat → Prop) (F : Bool) (A : Option Addr) (n c : Nat) (xs : List Value) (w : World) (hr : Reads w B F 1 A n xs) (h1 : ∀ u ∈ xs, u.oneCell' = true) (hb : Roomy n 4) :
    Calls Tryz.prog 58 #[.slice A n c] w fun e w' => ∃ A' c', e = .returned (.slice A' n c') ∧ Reads w' (Above w) true 1 A' n xs ∧ RoomC n c' 4 ∧ Keeps NoB w w' := by
  obtain ⟨i0, hi0, hz0, hz1, hz2⟩ := info_parts Tryz.infoLm
  have q := fun (w : World) (a : Option Addr) (n c n' c' : Nat) => Lib.run_eql_slice_nil (P := Tryz.prog) w 23 86 a n c n' c' Tryz.underlying23
  rcases A with _ | ad
  · have hn : n = 0 := by
      rcases Nat.eq_zero_or_pos n with h | h
      · exact h
      · obtain ⟨ad, h, _⟩ := hr.2 h; cases h
    subst hn
    have hx : xs = [] := List.eq_nil_of_length_eq_zero (by simpa using hr.1)
    subst hx
    go_enter Tryz.func58, Tryz.ntmps58
    go_wp2
    go_ret
    exact ⟨none, 0, rfl, Reads.zero _ _ _ _ _, RoomC.zero _, Keeps.refl _ _⟩
  · go_enter Tryz.func58, Tryz.ntmps58
    go_wp2_with (at_builtin; go_must (refine wpList_append_reads _ rfl (.tmp 5) (.tmp 6) 23 rfl w.heap.size 86 i0 _ 1 4 Tryz.underlying23 hi0 hz0 hz1 hz2 rfl (by omega) (.slice (some ⟨w.heap.size, 0, none⟩) 0 0) 0 [] rfl ?z1 B F (some ad) n c xs rfl ?z2 h1 ?z3 ?z4 ?z5 ?_))
    case z1 => exact World.ownsRow_made w #[] 0 (Nat.le_refl _) (Nat.zero_le _) rfl
    case z2 => exact hr.keep ((Keeps.refl NoB w).alloc _) (fun _ _ => id)
    case z3 => rw [Nat.zero_add]; exact hb.len (by omega)
    case z4 => rw [Nat.zero_add]; exact hb
    case z5 => simp
    intro v' w' hown hg _
    obtain ⟨A', c', hv, hs⟩ := Slab.of_own hown
    subst hv
    have hbel : Below w.heap.size w w' := ((Below.refl _ _).alloc (Nat.le_refl _) _).grown hg (by simp) (fun k h => by simp [Value.ownBlock] at h; omega)
    have H := hide (hs.reads.more (B' := Above w) (by
      rintro k hk ⟨o, rfl⟩
      rcases hown.2 with ⟨hv, _⟩ | ⟨g, cap, cur, hv, hb, _⟩
      · cases hv
      · injection hv with hv; injection hv with hv; injection hv with hv; subst hv; exact hb))
    have HCC : Hid (RoomC n c' 4) := hide ⟨hb, by have := hs.2.1; simpa using this, hs.2.2.1⟩
    have HB := hide (Keeps.of_below hbel NoB); clear hbel hg hown hs
    go_wp2
    go_ret
    exact ⟨A', c', rfl, H.out, HCC.out, HB.out⟩

def CopySaid (M : Nat) : Prop := ∀ (t : Tm), t.size ≤ M → ∀ (w : World) (B : Nat → Prop) (F : Bool)
    (kd : Int) (ng : Bool) (la : Option Addr) (ln lc : Nat) (tx : ByteArray) (nm : Int) (ia : Option Addr) (im ic : Nat) (ta : Option Addr) (tn tc : Nat),
    TermIn w B F [.int .u8 kd, .bool ng, .slice la ln lc, .string tx, .int .i64 nm, .slice ia im ic, .slice ta tn tc] t →
    Calls Tryz.prog 40 #[.agg #[.int .u8 kd, .bool ng, .slice la ln lc, .string tx, .int .i64 nm, .slice ia im ic, .slice ta tn tc]] w fun e w' => ∃ la' lc' ia' ic' ta' tc', e = .returned (.agg #[.int .u8 kd, .bool ng, .slice la' ln lc', .string tx, .int .i64 nm, .slice ia' im ic', .slice ta' tn tc']) ∧ TermIn w' (Above w) true [.int .u8 kd, .bool ng, .slice la' ln lc', .string tx, .int .i64 nm, .slice ia' im ic', .slice ta' tn tc'] t ∧ Keeps NoB w w'

/-- The first k of a list, copied: the row, and the terms outside of it. -/
def CopiesAt (w : World) (A : Option Addr) (k c : Nat) (ts : List Tm) (wr : World) : Prop :=
  ∃ css, Slab wr 26 7 A k c css.flatten ∧ TermsIn wr (fun j => w.heap.size ≤ j ∧ ¬ rowB A j) true css ts ∧ (∀ j, rowB A j → w.heap.size ≤ j) ∧ Keeps NoB w wr

theorem CopiesAt.step {w wr w3 w4 : World} {A A4 : Option Addr} {k c c4 : Nat} {ts : List Tm} {t : Tm} {cs : List Value} {css : List (List Value)} (hs : Slab wr 26 7 A k c css.flatten) (hts : TermsIn wr (fun j => w.heap.size ≤ j ∧ ¬ rowB A j) true css ts) (hf : ∀ j, rowB A j → w.heap.size ≤ j) (hw : Keeps NoB w wr) (h3 : Keeps NoB wr w3) (ht : TermIn w3 (Above wr) true cs t)
    (h4 : Slab w4 26 7 A4 (k + 1) c4 (css.flatten ++ cs)) (hk : Keeps (rowB A) w3 w4) (hm : Moved w3 A A4) : CopiesAt w A4 (k + 1) c4 (ts ++ [t]) w4 := by
  have hlow : ∀ j, rowB A j → j < wr.heap.size := fun j hj => hs.lt hj
  have h1 := TermsIn.keep hk (fun j (hj : w.heap.size ≤ j ∧ ¬ rowB A j) => hj.2) _ _ (TermsIn.keep h3 (fun _ _ => id) _ _ hts)
  have h2 : TermIn w4 (fun j => w3.heap.size > j ∧ Above wr j) true cs t := by
    refine TermIn.keep hk (fun j hj hr => by have := hlow j hr; have := hj.2; unfold Above at this; omega) _ _ (TermIn.more (fun j h5 h6 => ⟨h5, h6⟩) _ _ ht)
  have h0 : TermsIn w3 (fun j => (w.heap.size ≤ j ∧ ¬ rowB A j) ∧ j < w3.heap.size) true css ts := TermsIn.more (fun j h5 h6 => ⟨h6, h5⟩) _ _ (TermsIn.keep h3 (fun _ _ => id) _ _ hts)
  have h0' := TermsIn.keep hk (fun j hj => hj.1.2) _ _ h0
  refine ⟨css ++ [cs], ?_, ?_, ?_, ?_⟩
  · rw [List.flatten_append]; simpa using h4
  · refine TermsIn.append (TermsIn.more (fun j _ hj => ⟨hj.1.1, fun hr => ?_⟩) _ _ h0') (TermsIn.one (TermIn.more (fun j _ hj => ⟨Nat.le_trans hw.size hj.2, fun hr => ?_⟩) _ _ h2))
    · rcases hm j hr with h5 | h5
      · exact hj.1.2 h5
      · have := hj.2; omega
    · rcases hm j hr with h5 | h5
      · have := hlow j h5; have := hj.2; unfold Above at this; omega
      · have := hj.1; omega
  · intro j hj
    rcases hm j hj with h5 | h5
    · exact hf j h5
    · exact Nat.le_trans hw.size (Nat.le_trans h3.size h5)
  · exact (hw.trans' h3 (fun _ _ => id) (fun _ _ => id) : Keeps NoB w w3).trans' hk (fun _ _ => id) (fun j hj hr => absurd (hf j hr) (by omega))

set_option maxRecDepth 100000 in
set_option maxHeartbeats 1000000 in
theorem copies_of (M : Nat) (IH : Hid (CopySaid M)) (ts : List Tm) (hM : Tm.size.sizes ts ≤ M) (csss : List (List (List Value))) (vs : List Value) (A : Option Addr) (K c N : Nat) (w : World) (B B' : Nat → Prop) (F F' : Bool)
    (hh : Reads w B F 1 A K vs) (hx : HeadsAt w B' F' 7 vs (csss.map List.flatten)) (ht : TermsIn w B' F' csss.flatten ts) (hn : ts.length = N) (hroom : Roomy N 104) (hK : K ≤ 9223372036854775807) :
    Calls Tryz.prog 41 #[.slice A K c] w fun e w' => ∃ A' c', e = .returned (.slice A' N c') ∧ CopiesAt w A' N c' ts w' := by
  have hfl : (csss.map List.flatten).flatten = csss.flatten.flatten := List.flatten_flatten.symm
  have hcl : csss.flatten.length = N := by rw [← hn]; exact ht.lens.1
  have hN : (csss.map List.flatten).flatten.length = N * 7 := by rw [hfl, flat_len ht.lens.2, hcl]
  have h1 : ∀ u ∈ (csss.map List.flatten).flatten, u.oneCell' = true := by rw [hfl]; exact TermsIn.ones _ _ ht
  have hnm : N ≤ 9223372036854775807 := by have := hroom.len (by omega); unfold maxLen at this; exact this
  have HH := hide hh; have HX := hide hx; have HT := hide ht; have HN := hide hN; have H1 := hide h1; have HRO := hide hroom; have HM := hide hM; have HNT := hide hn; have HFL := hide hfl
  clear hh hx ht hN h1 hroom hM hn hfl hcl
  go_enter Tryz.func41, Tryz.ntmps41
  go_wp2_with
    first
    | (go_at_call 59
       refine (tmC_concat _ vs A K c N _ B B' F F' HH.out HX.out HN.out H1.out HRO.out hK).mono ?_
       rintro e w2 ⟨A2, c2, rfl, hs2, hf2, hk2⟩
       have HS2 := hide ((HFL.out ▸ hs2 : Slab w2 26 7 A2 N c2 csss.flatten.flatten).reads.weak.more (B' := fun _ => True) (fun _ _ _ => trivial)); have HK2 := hide hk2
       have HT2 := hide (TermsIn.weak _ _ (TermsIn.more (B' := fun _ => True) (fun _ _ _ => trivial) _ _ (TermsIn.keep hk2 (fun _ _ => id) _ _ HT.out)))
       clear hs2 hf2 hk2)
    | fail
  go_loopw [9, 3] (fun i s3 wr => ∃ (k : Nat) (A' : Option Addr) (c' : Nat), k ≤ N ∧ i = .int .i64 k ∧ s3 = .slice A' k c' ∧ CopiesAt w2 A' k c' (ts.take k) wr) (fun i _ _ => N - (intOf i).toNat)
  case atStart => exact ⟨0, none, 0, Nat.zero_le _, rfl, rfl, ⟨[], Slab.nil _ _ _, by rw [List.take_zero]; unfold TermsIn; trivial, (fun j ⟨o, h⟩ => by cases h), Keeps.refl _ _⟩⟩
  case round =>
    obtain ⟨k, A', c', hk, rfl, rfl, ⟨css, hs, hts, hf, hw⟩⟩ := hrel
    have HKW := hide hw; have HSL := hide hs; have HTS := hide hts; have HF := hide hf
    clear hs hts hf hw
    by_cases hlt : k < N
    · obtain ⟨b, o, kd, ng, la, ln, lc, tx, nm, ia, im, ic, ta, tn, tc, t, hA, h1, h2, h3, f0, f1, f2, f3, f4, f5, f6⟩ := cells_at (HS2.out.keep HKW.out (fun _ _ => id)) (TermsIn.keep HKW.out (fun _ _ => id) _ _ HT2.out) k hlt
      subst hA
      have hk1 : (k : Int) < (N : Int) := by omega
      have hk0 : (0 : Int) ≤ (k : Int) := by omega
      have HE := hide h1; have HT3 := hide (TermIn.keep ((Keeps.refl NoB wr).alloc (.cells #[.int .u8 kd, .bool ng, .slice la ln lc, .string tx, .int .i64 nm, .slice ia im ic, .slice ta tn tc] 26)) (fun _ _ => id) _ _ h2); have HZ := hide h3
      clear h1 h2 h3
      obtain ⟨i0, hi0, hz0, hz1, hz2⟩ := info_parts Tryz.infoTm
      have HBD : Hid (k + 1 ≤ maxLen ∧ (k + 1) * 104 ≤ 140737488355328) := hide ⟨by unfold maxLen; omega, by have := HRO.out; unfold Roomy at this; omega⟩
      go_wp2_with
        first
        | (go_at_call 40
           refine (IH.out t (by have := HM.out; have := HZ.out; omega) _ _ _ _ _ _ _ _ _ _ _ _ _ _ _ _ HT3.out).mono ?_
           rintro e w3 ⟨la', lc', ia', ic', ta', tc', rfl, ht3, hk3⟩
           have HK3 : Hid (Keeps NoB wr (w3.alloc (.cells #[.int .u8 kd, .bool ng, .slice la' ln lc', .string tx, .int .i64 nm, .slice ia' im ic', .slice ta' tn tc'] 26))) := hide ((((Keeps.refl NoB wr).alloc _).trans' hk3 (fun _ _ => id) (fun _ _ => id) : Keeps NoB wr w3).alloc _)
           have HT4 : Hid (TermIn (w3.alloc (.cells #[.int .u8 kd, .bool ng, .slice la' ln lc', .string tx, .int .i64 nm, .slice ia' im ic', .slice ta' tn tc'] 26)) (Above wr) true [.int .u8 kd, .bool ng, .slice la' ln lc', .string tx, .int .i64 nm, .slice ia' im ic', .slice ta' tn tc'] t) := hide (TermIn.keep ((Keeps.refl NoB w3).alloc _) (fun _ _ => id) _ _ (TermIn.more (fun j _ hj => by have := hj; unfold Above at this ⊢; simp at this; omega) _ _ ht3))
           have HRD := hide (one_reads7 (Blk.new w3 26 #[.int .u8 kd, .bool ng, .slice la' ln lc', .string tx, .int .i64 nm, .slice ia' im ic', .slice ta' tn tc']))
           have HSA := hide (HSL.out.fresh HK3.out)
           clear ht3 hk3 f0 f1 f2 f3 f4 f5 f6)
        | (at_builtin; refine wpList_append_slab _ rfl (.tmp 13) (.tmp 16) 24 rfl 26 i0 _ 7 104 Tryz.underlying24 hi0 hz0 hz1 hz2 rfl (by omega) A' k c' css.flatten rfl HSA.out (fun _ => True) true (some ⟨w3.heap.size, 0, none⟩) 1 1 [.int .u8 kd, .bool ng, .slice la' ln lc', .string tx, .int .i64 nm, .slice ia' im ic', .slice ta' tn tc'] rfl HRD.out (by omega) (by intro u hu; simp only [List.mem_cons, List.not_mem_nil, or_false] at hu; rcases hu with rfl | rfl | rfl | rfl | rfl | rfl | rfl <;> rfl) HBD.out.1 HBD.out.2 ?_
           intro A4 c4 w4 g1 g2 g3
           have HG := hide (And.intro g1 (And.intro g2 g3))
           clear g1 g2 g3)
        | fail
      go_roundw
      case rel =>
        refine ⟨k + 1, A4, c4, by omega, by go_num, rfl, ?_⟩
        rw [show ts.take (k + 1) = ts.take k ++ [t] by rw [List.take_add_one, HE.out]; rfl]
        exact CopiesAt.step HSL.out HTS.out HF.out HKW.out HK3.out HT4.out HG.out.1 HG.out.2.1 HG.out.2.2
      case measure => simp [intOf]; omega
    · go_wp2
      go_ret
      obtain rfl : k = N := by omega
      refine ⟨A', c', rfl, css, HSL.out, ?_, fun j hj => Nat.le_trans HK2.out.size (HF.out j hj), HK2.out.trans' HKW.out (fun _ _ => id) (fun _ _ => id)⟩
      have h := HTS.out
      rw [List.take_of_length_le (by have := HNT.out; omega)] at h
      exact TermsIn.more (fun j _ hj => ⟨Nat.le_trans HK2.out.size hj.1, hj.2⟩) _ _ h
end Go.Proofs.YtjdbjjjbgibpaaaGreatDoor
