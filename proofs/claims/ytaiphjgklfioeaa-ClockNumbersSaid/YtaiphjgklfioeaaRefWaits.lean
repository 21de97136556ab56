/- The document's clock: Waits. -/
import Derived.Test.YtaiphjgklfioeaaRefTick
namespace Go.Proofs.Ytaiphjgklfioeaa
open Go.RowKit

structure RWInv (w : World) (d : Nat) (L : List Wt) (k : Nat) (A2 : Option Addr) (c2 : Nat) (B : Option Addr) (c : Nat) (R : List Wt) (wr : World) : Prop where
  ref : RefAt wr d B c 0 R
  perm : R.Perm (L.drop k)
  keep : Keeps NoB w wr
  hd : w.heap.size ≤ d
  hB : ∀ j, rowB B j → w.heap.size ≤ j
  out : Slab wr 3 1 A2 k c2 (ints (pidsOf (L.take k)))
  new : ∀ j, rowB A2 j → w.heap.size ≤ j
theorem RWInv.fresh {w wr w2 : World} {d k c2 c : Nat} {A2 B : Option Addr} {L R : List Wt} (h : RWInv w d L k A2 c2 B c R wr) (hk : Keeps NoB wr w2) : RWInv w d L k A2 c2 B c R w2 :=
  ⟨h.ref.fresh hk, h.perm, h.keep.trans' hk (fun _ _ => id) (fun _ _ => id), h.hd, h.hB, h.out.fresh hk, h.new⟩
theorem RWInv.step {w w3 w4 w5 : World} {d k c2 c3 c c' : Nat} {B B' A2 A3 : Option Addr} {L R T : List Wt} {x : Wt} (h : RWInv w d L k A2 c2 B c R w3) (hd : L.drop k = x :: T) (hn : (pidsOf L).Nodup)
    (ho : Slab w4 3 1 A3 (k + 1) c3 (ints (pidsOf (L.take k)) ++ [.int .i64 x.2])) (hk4 : Keeps (rowB A2) w3 w4) (hm4 : Moved w3 A2 A3) (hr4 : RefAt w4 d B c 0 R) (hr5 : RefAt w5 d B' c' 0 (dropPid x.2 R)) (hk5 : Keeps (clkFp d B) w4 w5) (hm5 : Moved w4 B B') : RWInv w d L (k + 1) A3 c3 B' c' (dropPid x.2 R) w5 := by
  obtain ⟨hxk, hdk⟩ := drop_cons_perm hd
  have h4 : Keeps NoB w w4 := h.keep.trans' hk4 (fun _ _ => id) (fun j hj hr => by have := h.new j hr; omega)
  refine ⟨hr5, ?_, h4.trans' hk5 (fun _ _ => id) (fun j hj hf => ?_), h.hd, ?_, ?_, ?_⟩
  · rw [hdk]
    have hp := h.perm
    rw [hd] at hp
    exact perm_dropPid hp (hd ▸ nodup_drop_list hn k)
  · rcases hf with e | hf
    · have := h.hd; omega
    · have := h.hB j hf; omega
  · exact fun j hj => (hm5 j hj).elim (h.hB j) (fun e => Nat.le_trans h4.size e)
  · have := hr4.leaves ho hk5
    rw [List.take_add_one, hxk]
    simpa [pidsOf, ints] using this
  · exact fun j hj => (hm4 j hj).elim (h.new j) (fun e => Nat.le_trans h.keep.size e)

set_option maxRecDepth 100000 in
set_option maxHeartbeats 2000000 in
theorem rwaits_any (r c : Nat) (B : Option Addr) (now : Int) (L R : List Wt) (w : World) (h : RefAt w r B c now R) (hp : R.Perm L) (hup : Rising L) (hnd : (pidsOf L).Nodup) (hl : R.length ≤ 1000000) :
    Calls Try.prog 17 #[.pointer (some ⟨r, 0, none⟩)] w (PidsPost w L.length L) := by
  obtain ⟨i0, hi0, hz0, hz1, hz2⟩ := info_parts Try.info3
  obtain ⟨j0, hj0, hy0, hy1, hy2⟩ := info_parts Try.info61
  obtain ⟨n, hn⟩ : ∃ n, R.length = n := ⟨_, rfl⟩
  have HLL := hide (show L.length = n from by rw [← hp.length_eq, hn])
  have k1 : w.cell? ⟨r, 1, none⟩ = some (.slice B n c) := by rw [← hn]; exact h.blk.cell 1
  have HROW := hide h.row
  have HROW := hide (show Slab w 61 2 B n c (prs R) from hn ▸ HROW.out)
  have HP := hide hp; have HUP := hide hup; have HND := hide hnd; have HN := hide hn
  have HMD := hide (Slab.made w 61 2)
  have HK1 := hide ((Keeps.refl NoB w).alloc (.cells #[] 61))
  have HBD := hide (show 0 + n ≤ maxLen ∧ (0 + n) * 16 ≤ 140737488355328 from by unfold maxLen; omega)
  rw [hn] at hl
  rw [HLL.out]
  have k1 : (w.alloc (.cells #[] 61)).cell? ⟨r, 1, none⟩ = some (.slice B n c) := HK1.out.cell id k1
  have HRL := hide h
  clear h hp hup hnd hn
  go_enter Try.func17, Try.ntmps17
  go_wp2_with (at_builtin; go_loud (refine wpList_append_any _ rfl (.tmp 6) (.tmp 10) 37 rfl 61 j0 _ 2 16 Try.underlying37 hj0 hy0 hy1 hy2 rfl (by omega) (some ⟨w.heap.size, 0, none⟩) 0 0 [] rfl HMD.out (rowB B) true B n c (prs R) rfl (HROW.out.fresh HK1.out).reads prs_ones HBD.out.1 HBD.out.2 ?_))
  intro B0 c0 w1 h1 h2 h3
  have hk2 : Keeps NoB w w1 := HK1.out.trans' h2 (fun _ _ => id) (fun j hj ⟨o', e⟩ => by injection e with e; injection e with e; omega)
  have hB0 : ∀ j, rowB B0 j → w.heap.size ≤ j := fun j hj => by
    rcases h3 j hj with ⟨o', e⟩ | e
    · injection e with e; injection e with e; omega
    · exact Nat.le_trans HK1.out.size e
  have HI := hide (show RWInv w w1.heap.size L 0 none 0 B0 c0 R (w1.alloc (.cells #[.int .i64 0, .slice B0 n c0] 39)) from
    ⟨⟨by rw [HN.out]; exact Blk.new w1 39 _, by rw [HN.out]; exact h1.fresh ((Keeps.refl NoB w1).alloc _)⟩, by simpa using HP.out, hk2.alloc _, hk2.size, hB0, by simpa using Slab.nil _ 3 1, fun k ⟨o, h⟩ => by cases h⟩)
  clear h1 h2 h3 hk2 hB0 k1 HMD HK1
  go_wp2_with fail
  generalize w1.alloc (.cells #[.int .i64 0, .slice B0 n c0] 39) = w2 at *
  generalize w1.heap.size = d at *
  clear w1
  go_loopg [4] n (fun g s4 wr => ∃ (k : Nat) (A2 : Option Addr) (c2 : Nat) (B' : Option Addr) (c' : Nat) (R' : List Wt), k ≤ n ∧ g = n - k ∧ s4 = .slice A2 k c2 ∧ RWInv w d L k A2 c2 B' c' R' wr)
  case atStart => exact ⟨0, none, 0, B0, c0, R, Nat.zero_le _, rfl, rfl, HI.out⟩
  case round =>
    clear HI
    obtain ⟨k, A2, c2, B', c', R', hk, rfl, rfl, hinv⟩ := hrel
    have HI := hide hinv
    have hRl : R'.length = n - k := by rw [hinv.perm.length_eq, List.length_drop, HLL.out]
    have HRL2 := hide hRl
    clear hinv
    by_cases hlt : k < n
    · obtain ⟨x, T, hd⟩ : ∃ x T, L.drop k = x :: T := by
        cases hc : L.drop k with
        | nil => have := congrArg List.length hc; rw [List.length_drop, HLL.out] at this; simp at this; omega
        | cons x T => exact ⟨x, T, rfl⟩
      have HDR := hide hd
      obtain ⟨m, hm⟩ : ∃ m, n - k = m := ⟨_, rfl⟩
      have HM := hide hm
      have hm0 : 0 < m := by omega
      have hm1 : m ≤ 1000000 := by omega
      rw [hm] at hRl
      have HRM := hide hRl
      have k1 : wr.cell? ⟨d, 1, none⟩ = some (.slice B' m c') := by rw [← hRl]; exact HI.out.ref.blk.cell 1
      have HRR := hide HI.out.ref.row.reads
      have HRR := hide (show Reads wr (rowB B') true 2 B' m (prs R') from hRl ▸ HRR.out)
      obtain ⟨⟨g, o, sp⟩, hA, hs, _, _, hc⟩ := HRR.out.2 hm0
      simp only at hs
      subst hs hA
      have HC := hide hc
      have hmz : (0 : Int) < m := by omega
      clear hd hRl hm hc
      go_wp2_with fail
      refine order_begin (fun W => Keeps NoB wr W) (fun _ => true) (by kernel_rfl) 13 rfl ?_
      have HS : Keeps NoB wr wr.drew := (Keeps.refl _ _).drew
      have K1 := hide k1
      clear k1
      refine order_pure (i := 0) rfl (by kernel_rfl) (fun _ _ _ h => h) (.inl ⟨rfl, fun _ => by go_simp; rfl⟩) ?_
      try simp only [Act.put, List.setIfInBounds_toArray, List.set_cons_succ, List.set_cons_zero]
      refine order_pure (i := 1) rfl (by kernel_rfl) (fun _ _ _ h => h) (.inl ⟨rfl, fun _ => by go_simp; rfl⟩) ?_
      try simp only [Act.put, List.setIfInBounds_toArray, List.set_cons_succ, List.set_cons_zero]
      refine order_pure (i := 2) rfl (by kernel_rfl) (fun _ _ _ h => h) (.inl ⟨rfl, fun _ => by go_simp; rfl⟩) ?_
      try simp only [Act.put, List.setIfInBounds_toArray, List.set_cons_succ, List.set_cons_zero]
      refine order_held (i := 3) rfl (by kernel_rfl) (fun _ _ _ h => h) (.inl ⟨rfl, fun W hW => by
        have q0 : W.cell? ⟨d, 1, none⟩ = some (.slice (some ⟨g, o, none⟩) m c') := hW.cell id K1.out
        go_simp; rfl⟩) HS ?_
      try simp only [Act.put, List.setIfInBounds_toArray, List.set_cons_succ, List.set_cons_zero]
      refine order_pure (i := 4) rfl (by kernel_rfl) (fun _ _ _ h => h) (.inl ⟨rfl, fun _ => by go_simp; rfl⟩) ?_
      try simp only [Act.put, List.setIfInBounds_toArray, List.set_cons_succ, List.set_cons_zero]
      refine order_pure (i := 5) rfl (by kernel_rfl) (fun _ _ _ h => h) (.inl ⟨rfl, fun _ => by go_simp; rfl⟩) ?_
      try simp only [Act.put, List.setIfInBounds_toArray, List.set_cons_succ, List.set_cons_zero]
      refine order_pure (i := 6) rfl (by kernel_rfl) (fun _ _ _ h => h) (.inl ⟨rfl, fun _ => by go_simp; rfl⟩) ?_
      try simp only [Act.put, List.setIfInBounds_toArray, List.set_cons_succ, List.set_cons_zero]
      refine order_held (i := 7) rfl (by kernel_rfl) (fun _ _ _ h => h) (.inl ⟨rfl, fun W hW => by
        have q0 : W.cell? ⟨d, 1, none⟩ = some (.slice (some ⟨g, o, none⟩) m c') := hW.cell id K1.out
        go_simp; rfl⟩) HS ?_
      try simp only [Act.put, List.setIfInBounds_toArray, List.set_cons_succ, List.set_cons_zero]
      refine order_one (i := 8) rfl (by kernel_rfl) (fun K hK => ?_)
      go_simp
      refine (least_hd (some ⟨g, o, none⟩) m c' R' T x _ _ _ (HRR.out.keep HS (fun _ _ => id)) (by omega) (HDR.out ▸ HI.out.perm) (HDR.out ▸ HUP.out.drop_list k)).mono ?_
      rintro e w3 ⟨a, rfl, hxa, hk3⟩
      have hk3' : Keeps NoB wr w3 := HS.trans' hk3 (fun _ _ => id) (fun _ _ => id)
      refine hK _ _ (fun _ _ => hk3') ?_
      clear hK HS
      have HS : Keeps NoB wr w3 := hk3'
      have HK3 := hide hk3'
      have hal : a < m := by have := (List.getElem?_eq_some_iff.1 hxa).1; have := HRM.out; omega
      obtain ⟨_, e1⟩ := prs_at hxa
      obtain ⟨t, p⟩ := x
      have D1 := hide (show wr.cell? ⟨g, o + a * 2 + 1, none⟩ = some (.int .i64 p) from (HC.out _ _ e1).1)
      have haz : (a : Int) < (m : Int) := by omega
      have ha0 : (0 : Int) ≤ (a : Int) := by omega
      clear hxa hk3 hk3' e1
      try simp only [Act.put, List.setIfInBounds_toArray, List.set_cons_succ, List.set_cons_zero]
      refine order_pure (i := 9) rfl (by kernel_rfl) (fun _ _ _ h => h) (.inl ⟨rfl, fun _ => by go_simp; rfl⟩) ?_
      try simp only [Act.put, List.setIfInBounds_toArray, List.set_cons_succ, List.set_cons_zero]
      refine order_pure (i := 10) rfl (by kernel_rfl) (fun _ _ _ h => h) (.inl ⟨rfl, fun _ => by go_simp; rfl⟩) ?_
      try simp only [Act.put, List.setIfInBounds_toArray, List.set_cons_succ, List.set_cons_zero]
      refine order_held (i := 11) rfl (by kernel_rfl) (fun _ _ _ h => h) (.inl ⟨rfl, fun W hW => by
        have q0 : W.cell? ⟨g, o + a * 2 + 1, none⟩ = some (.int .i64 p) := hW.cell id D1.out
        go_simp; rfl⟩) HS ?_
      try simp only [Act.put, List.setIfInBounds_toArray, List.set_cons_succ, List.set_cons_zero]
      refine order_pure (i := 12) rfl (by kernel_rfl) (fun _ _ _ h => h) (.inl ⟨rfl, fun _ => by go_simp; rfl⟩) ?_
      try simp only [Act.put, List.setIfInBounds_toArray, List.set_cons_succ, List.set_cons_zero]
      refine order_done (by kernel_rfl) ?_
      clear HS
      have HI3 := hide (HI.out.fresh HK3.out)
      obtain ⟨xs, hxs⟩ : ∃ xs, ints (pidsOf (L.take k)) = xs := ⟨_, rfl⟩
      have HXS := hide hxs
      have HOUT := hide (show Slab w3 3 1 A2 k c2 xs from hxs ▸ HI3.out.out)
      have HPP := hide (show k + 1 ≤ maxLen ∧ (k + 1) * 8 ≤ 140737488355328 from by unfold maxLen; omega)
      clear hxs
      go_wp2_with (at_builtin; go_loud (refine wpList_append_slab _ rfl (.tmp 32) (.tmp 34) 30 rfl 3 i0 _ 1 8 Try.underlying30 hi0 hz0 hz1 hz2 rfl (by omega) A2 k c2 xs rfl (HOUT.out.fresh ((Keeps.refl NoB w3).alloc _)) (fun _ => True) true (some ⟨_, 0, none⟩) 1 1 [.int .i64 p] rfl (int_reads (Blk.new _ 3 #[.int .i64 p])) (by omega) (ints_ones (xs := [p])) HPP.out.1 HPP.out.2 ?_))
      intro A3 c3 w4 h1 h2 h3
      have HI4 := hide (HI3.out.fresh ((Keeps.refl NoB w3).alloc (.cells #[.int .i64 p] 3)))
      have HR4 := hide (HI4.out.ref.keepInts (HOUT.out.fresh ((Keeps.refl NoB w3).alloc (.cells #[.int .i64 p] 3))) h2)
      have h1' : Slab w4 3 1 A3 (k + 1) c3 (ints (pidsOf (L.take k)) ++ [.int .i64 (t, p).2]) := by rw [HXS.out]; exact h1
      have HST := hide (fun (w5 : World) (B'' : Option Addr) (c'' : Nat) (g1 : RefAt w5 d B'' c'' 0 (dropPid p R')) (g2 : Keeps (clkFp d (some ⟨g, o, none⟩)) w4 w5) (g3 : Moved w4 (some ⟨g, o, none⟩) B'') => HI4.out.step HDR.out HND.out h1' h2 h3 HR4.out g1 g2 g3)
      clear h1 h2 h3 h1' HI3 HOUT HPP
      go_wp2_with fail
      refine (rdrop_any d c' (some ⟨g, o, none⟩) 0 p R' _ HR4.out (by have := HRM.out; omega)).mono ?_
      rintro e w5 ⟨B'', c'', rfl, h1, h2, h3⟩
      have HI5 := hide (HST.out _ _ _ h1 h2 h3)
      clear h1 h2 h3 HST
      go_wp2_with fail
      go_roundg (n - (k + 1))
      case measure => omega
      case rel => exact ⟨k + 1, A3, c3, B'', c'', _, by omega, rfl, rfl, HI5.out⟩
    · obtain rfl : n = k := by omega
      have k1 : wr.cell? ⟨d, 1, none⟩ = some (.slice B' 0 c') := by
        have := HI.out.ref.blk.cell 1
        rw [hRl, Nat.sub_self] at this; exact this
      have hmz : ¬ (0 : Int) < 0 := by omega
      clear hRl
      go_wp2_with fail
      go_ret
      have e : L.take n = L := List.take_of_length_le (by have := HLL.out; omega)
      have ho := HI.out.out
      rw [e] at ho
      exact ⟨A2, c2, rfl, HI.out.keep, by rw [IntsOut]; exact ⟨by rw [List.length_map, HLL.out]; exact ho, HI.out.new⟩⟩
end Go.Proofs.Ytaiphjgklfioeaa
