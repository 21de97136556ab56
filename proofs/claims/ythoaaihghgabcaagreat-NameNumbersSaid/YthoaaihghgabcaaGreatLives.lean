/- pigeonholelaw15: NameLives. -/
import Derived.Test.YthoaaihghgabcaaGreatStep
import Derived.Test.YthoaaihghgabcaaGreatApart
namespace Go.Proofs.YthoaaihghgabcaaGreat
open Go.RowKit Go.Maps

section
variable {w w0 w' w'' : World} {b m1 m2 N r c : Nat} {B : Option Addr} {L R : List Nm} {fp : Nat → Prop}
/-- What turned is all newer than the world w0 in which both stood. -/
theorem Two.off (h0 : Two w w0 b m1 m2 N r B c L R) (h : Two w w' b m1 m2 N r B c L R) (hk : Keeps fp w' w'') (hf : ∀ k, fp k → w0.heap.size ≤ k) : Two w w'' b m1 m2 N r B c L R := by
  obtain ⟨l1, l2, l3⟩ := h0.one.at'.lt
  have hz := h0.one.keep.size
  refine ⟨⟨h.one.at'.keep hk (fun e => ?_) (fun e => ?_) (fun e => ?_), h.one.keep.trans' hk (fun _ _ => id) (fun j hj e => ?_), h.one.hb, h.one.h1, h.one.h2⟩, h.ref.keep hk (fun k hk1 e => ?_), h.hr, h.hB, h.sz⟩
  · have := hf _ e; omega
  · have := hf _ e; omega
  · have := hf _ e; omega
  · have := hf _ e; omega
  · have := hf _ e
    rcases hk1 with rfl | hk1
    · have := h0.ref.blk.lt; omega
    · have := h0.ref.row.lt hk1; omega
end
def LivesInv (w wx : World) (b m1 m2 r i : Nat) : Prop := ∃ N B c L, Two w wx b m1 m2 N r B c L L ∧ N ≤ i ∧ L.length ≤ i
def twoL (X1 X2 : Option Addr) (n c1 c2 : Nat) (k : Nat) : Ld := if k = 0 then ⟨X1, n, c1⟩ else ⟨X2, n, c2⟩
theorem twoL_reads {w : World} {g n c1 c2 : Nat} {X1 X2 : Option Addr} (h : Blk w g 28 #[.slice X1 n c1, .slice X2 n c2]) : Reads w (fun _ => True) true 1 (some ⟨g, 0, none⟩) 2 (cellsL (twoL X1 X2 n c1 c2) 2) := by
  refine ⟨by simp [cellsL], fun _ => ⟨_, rfl, rfl, trivial, h.lt, fun j u hu => ⟨?_, fun _ => h.free _⟩⟩⟩
  rw [h.cell, ← hu]; simp [cellsL, twoL, List.range_succ]
theorem lives_start {w w3 : World} {b m1 m2 : Nat} (h1 : NamesAt w3 b m1 m2 0 []) (hk : Keeps NoB w w3) (hb : w.heap.size ≤ b) (hm1 : w.heap.size ≤ m1) (hm2 : w.heap.size ≤ m2) : LivesInv w (w3.alloc (.cells #[.slice none 0 0] 30)) b m1 m2 w3.heap.size 0 :=
  ⟨0, none, 0, [], ⟨(show Run w w3 b m1 m2 0 [] from ⟨h1, hk, hb, hm1, hm2⟩).fresh ((Keeps.refl NoB w3).alloc _), ⟨Blk.new w3 30 _, Slab.nil _ _ _⟩, hk.size, (fun k ⟨o, e⟩ => by cases e), (fun x hx => by cases hx)⟩, Nat.le_refl _, Nat.le_refl _⟩

set_option maxRecDepth 100000 in
set_option maxHeartbeats 8000000 in
theorem name_lives (A : Option Addr) (n c : Nat) (hnc : n ≤ c) (E : List Dx) (w : World) (h : DosAt w A n E) : Calls Tryz.prog 3 #[.slice A n c] w fun e w' => e = .returned (.bool true) ∧ Keeps NoB w w' := by
  have H := hide h; clear h
  go_enter Tryz.func3, Tryz.ntmps3
  go_upto_if 8 with fail
  go_cut [0] (fun s0 wx => wx = w ∧ ∃ m : Nat, m ≤ 80 ∧ m ≤ n ∧ s0 = .slice A m c)
  case first =>
    by_cases h80 : n ≤ 80
    · have hz : (n : Int) ≤ 80 := by omega
      go_wp2_with fail
      go_meet
      exact ⟨rfl, n, h80, Nat.le_refl _, rfl⟩
    · have hz : (80 : Int) < n := by omega
      have hzc : (80 : Int) ≤ c := by omega
      go_wp2_with fail
      go_meet
      exact ⟨rfl, 80, Nat.le_refl _, by omega, rfl⟩
  case rest =>
    obtain ⟨rfl, m, hm80, hmn, rfl⟩ := hcut
    have HD := hide (H.out.pre hmn)
    generalize hE : E.take m = D at *
    clear hE H
    go_wp2_with fail
    refine (great_any A m c D wc HD.out (by omega)).mono ?_
    rintro e w1 ⟨g, rfl, rfl⟩
    cases g with
    | true =>
      go_wp2_with fail
      refine (awake_any wc).mono ?_
      rintro e w2 ⟨rfl, hk⟩
      have HK2 := hide hk
      clear hk
      go_wp2_with fail
      go_ret
      exact ⟨rfl, HK2.out⟩
    | false =>
      go_wp2_with
        first
        | (go_at_call 7
           refine (new_any _).mono ?_
           rintro e w3 ⟨rfl, h1, hk⟩)
        | fail
      have HP := hide (lives_start h1 hk (by omega) (by omega) (by omega))
      clear h1 hk
      generalize wc.heap.size + 2 = b at *
      generalize wc.heap.size + 1 = m2 at *
      generalize hm1 : wc.heap.size = m1 at *
      clear hm1
      generalize w3.alloc (.cells #[.slice none 0 0] 30) = w4 at *
      generalize w3.heap.size = r at *
      go_loopg [5] m (fun gg s wx => ∃ i : Nat, i ≤ m ∧ gg = m - i ∧ s = .int .i64 i ∧ LivesInv wc wx b m1 m2 r i)
      case atStart => exact ⟨0, Nat.zero_le _, rfl, rfl, HP.out⟩
      case round =>
        obtain ⟨i, hi, rfl, rfl, N, B, c1, L, htwo, hNi, hLi⟩ := hrel
        have HI := hide htwo
        clear htwo HP
        have hi0 : (0 : Int) ≤ i := by omega
        by_cases him : i < m
        · have hiz : (i : Int) < m := by omega
          obtain ⟨x, hx⟩ : ∃ x, D[i]? = some x := ⟨_, List.getElem?_eq_getElem (by rw [HD.out.1]; exact him)⟩
          obtain ⟨hsz, hpok, ab, ao, rfl, d0, d1, d2⟩ := HD.out.2 i x hx
          obtain ⟨op, pid, s⟩ := x
          simp only at d0 d1 d2 hsz hpok
          have D0 := hide d0; have D1 := hide d1; have D2 := hide d2
          have HSZ := hide (And.intro hsz hpok)
          clear hx hsz hpok d0 d1 d2
          go_wp2_with fail
          refine order_begin (fun W => Keeps NoB wc W) (fun _ => true) (by kernel_rfl) 18 rfl ?_
          have HS : Keeps NoB wc wr.drew := HI.out.one.keep.drew
          have HDX := hide (show ∀ W, Keeps NoB wc W → W.cell? ⟨ab, ao + i * 3, none⟩ = some (.int .i64 op) ∧ W.cell? ⟨ab, ao + i * 3 + 1, none⟩ = some (.int .i64 pid) ∧ W.cell? ⟨ab, ao + i * 3 + 2, none⟩ = some (.string s) from fun W hW => ⟨hW.cell id D0.out, hW.cell id D1.out, hW.cell id D2.out⟩)
          refine order_pure (i := 0) rfl (by kernel_rfl) (fun _ _ _ h => h) (.inl ⟨rfl, fun _ => by go_simp; rfl⟩) ?_
          try simp only [Act.put, List.setIfInBounds_toArray, List.set_cons_succ, List.set_cons_zero]
          refine order_pure (i := 1) rfl (by kernel_rfl) (fun _ _ _ h => h) (.inl ⟨rfl, fun _ => by go_simp; rfl⟩) ?_
          try simp only [Act.put, List.setIfInBounds_toArray, List.set_cons_succ, List.set_cons_zero]
          refine order_pure (i := 2) rfl (by kernel_rfl) (fun _ _ _ h => h) (.inl ⟨rfl, fun _ => by go_simp; rfl⟩) ?_
          try simp only [Act.put, List.setIfInBounds_toArray, List.set_cons_succ, List.set_cons_zero]
          refine order_pure (i := 3) rfl (by kernel_rfl) (fun _ _ _ h => h) (.inl ⟨rfl, fun _ => by go_simp; rfl⟩) ?_
          try simp only [Act.put, List.setIfInBounds_toArray, List.set_cons_succ, List.set_cons_zero]
          refine order_pure (i := 4) rfl (by kernel_rfl) (fun _ _ _ h => h) (.inl ⟨rfl, fun _ => by go_simp; rfl⟩) ?_
          try simp only [Act.put, List.setIfInBounds_toArray, List.set_cons_succ, List.set_cons_zero]
          refine order_held (i := 5) rfl (by kernel_rfl) (fun _ _ _ h => h) (.inl ⟨rfl, fun W hW => by
            have q0 : W.cell? ⟨ab, ao + i * 3, none⟩ = some (.int .i64 op) := (HDX.out W hW).1
            have q1 : W.cell? ⟨ab, ao + i * 3 + 1, none⟩ = some (.int .i64 pid) := (HDX.out W hW).2.1
            have q2 : W.cell? ⟨ab, ao + i * 3 + 2, none⟩ = some (.string s) := (HDX.out W hW).2.2
            go_simp; rfl⟩) HS ?_
          try simp only [Act.put, List.setIfInBounds_toArray, List.set_cons_succ, List.set_cons_zero]
          refine order_one (i := 6) rfl (by kernel_rfl) (fun K hK => ?_)
          go_simp
          refine (step_any b m1 m2 N r c1 B L op pid s wc _ (HI.out.fresh (Keeps.refl NoB wr).drew) (by omega) (by omega) HSZ.out.1 HSZ.out.2).mono ?_
          rintro e w5 ⟨N2, B2, c2, L2, rfl, ht2, hn2, hl2⟩
          refine hK _ _ (fun _ _ => ht2.one.keep) ?_
          have HT2 := hide ht2
          have HR0 := hide (show w5.cell? ⟨r, 0, none⟩ = some (.slice B2 L2.length c2) from ht2.ref.blk.cell 0)
          have HN2 := hide (And.intro hn2 hl2)
          clear hK HS ht2 hn2 hl2 HDX
          try simp only [Act.put, List.setIfInBounds_toArray, List.set_cons_succ, List.set_cons_zero]
          refine order_more (fun W => W.cell? ⟨r, 0, none⟩ = some (.slice B2 L2.length c2)) HT2.out.one.keep HR0.out ?_
          have HS := And.intro HT2.out.one.keep HR0.out
          refine order_pure (i := 7) rfl (by kernel_rfl) (fun _ _ _ h => h) (.inl ⟨rfl, fun _ => by go_simp; rfl⟩) ?_
          try simp only [Act.put, List.setIfInBounds_toArray, List.set_cons_succ, List.set_cons_zero]
          refine order_pure (i := 8) rfl (by kernel_rfl) (fun _ _ _ h => h) (.inl ⟨rfl, fun _ => by go_simp; rfl⟩) ?_
          try simp only [Act.put, List.setIfInBounds_toArray, List.set_cons_succ, List.set_cons_zero]
          refine order_pure (i := 9) rfl (by kernel_rfl) (fun _ _ _ h => h) (.inl ⟨rfl, fun _ => by go_simp; rfl⟩) ?_
          try simp only [Act.put, List.setIfInBounds_toArray, List.set_cons_succ, List.set_cons_zero]
          refine order_pure (i := 11) rfl (by kernel_rfl) (fun _ _ _ h => h) (.inl ⟨rfl, fun _ => by go_simp; rfl⟩) ?_
          try simp only [Act.put, List.setIfInBounds_toArray, List.set_cons_succ, List.set_cons_zero]
          refine order_pure (i := 12) rfl (by kernel_rfl) (fun _ _ _ h => h) (.inl ⟨rfl, fun _ => by go_simp; rfl⟩) ?_
          try simp only [Act.put, List.setIfInBounds_toArray, List.set_cons_succ, List.set_cons_zero]
          refine order_pure (i := 13) rfl (by kernel_rfl) (fun _ _ _ h => h) (.inl ⟨rfl, fun _ => by go_simp; rfl⟩) ?_
          try simp only [Act.put, List.setIfInBounds_toArray, List.set_cons_succ, List.set_cons_zero]
          refine order_held (i := 14) rfl (by kernel_rfl) (fun _ _ _ h => h) (.inl ⟨rfl, fun W hW => by
            have q0 : W.cell? ⟨r, 0, none⟩ = some (.slice B2 L2.length c2) := hW.2
            go_simp; rfl⟩) HS ?_
          try simp only [Act.put, List.setIfInBounds_toArray, List.set_cons_succ, List.set_cons_zero]
          refine order_one (i := 10) rfl (by kernel_rfl) (fun K hK => ?_)
          go_simp
          refine (all_at w5 b m1 m2 N2 L2 HT2.out.one.at' (by have := HN2.out; omega) (fun x hx => (HT2.out.sz x hx).1) (by have := HN2.out; omega)).mono ?_
          rintro e w6 ⟨X, xc, rfl, hx, hk, _⟩
          refine hK _ _ (fun _ h => ⟨h.1.trans' hk (fun _ _ => id) (fun _ _ => id), hk.cell id h.2⟩) ?_
          have HT3 := hide (HT2.out.fresh hk); have HX := hide hx
          clear hK hk hx HS
          try simp only [Act.put, List.setIfInBounds_toArray, List.set_cons_succ, List.set_cons_zero]
          refine order_one (i := 15) rfl (by kernel_rfl) (fun K hK => ?_)
          go_simp
          refine (nameds_self X B2 L2.length xc c2 L2 w6 _ _ _ _ HX.out.reads HT3.out.ref.row.reads (by have := HN2.out; omega)).mono ?_
          rintro e w7 ⟨rfl, hk⟩
          refine hK _ _ (fun _ h => ⟨h.1.trans' hk (fun _ _ => id) (fun _ _ => id), hk.cell id h.2⟩) ?_
          have HT4 := hide (HT3.out.fresh hk)
          clear hK hk HX
          try simp only [Act.put, List.setIfInBounds_toArray, List.set_cons_succ, List.set_cons_zero]
          refine order_pure (i := 16) rfl (by kernel_rfl) (fun _ _ _ h => h) (.inl ⟨rfl, fun _ => by go_simp; rfl⟩) ?_
          try simp only [Act.put, List.setIfInBounds_toArray, List.set_cons_succ, List.set_cons_zero]
          refine order_pure (i := 17) rfl (by kernel_rfl) (fun _ _ _ h => h) (.inl ⟨rfl, fun _ => by go_simp; rfl⟩) ?_
          try simp only [Act.put, List.setIfInBounds_toArray, List.set_cons_succ, List.set_cons_zero]
          refine order_done (by kernel_rfl) ?_
          go_wp2_with fail
          go_roundg (m - (i + 1))
          case measure => omega
          case rel => exact ⟨i + 1, by omega, rfl, by go_num, N2, B2, c2, L2, HT4.out, by have := HN2.out; omega, by have := HN2.out; omega⟩
        · obtain rfl : i = m := by omega
          have hiz : ¬ (i : Int) < i := by omega
          go_wp2_with fail
          refine order_begin (fun W => W.cell? ⟨r, 0, none⟩ = some (.slice B L.length c1)) (fun _ => true) (by kernel_rfl) 19 rfl ?_
          have HS : wr.drew.cell? ⟨r, 0, none⟩ = some (.slice B L.length c1) := HI.out.ref.blk.cell 0
          have HT := hide (HI.out.fresh (Keeps.refl NoB wr).drew)
          have HLN := hide (show N ≤ 80 ∧ L.length ≤ 80 from by omega)
          have HSZ := hide (show ∀ x ∈ L, x.1.size ≤ maxLen from fun x hx => (HI.out.sz x hx).1)
          generalize wr.drew = w5 at *
          refine order_pure (i := 0) rfl (by kernel_rfl) (fun _ _ _ h => h) (.inl ⟨rfl, fun _ => by go_simp; rfl⟩) ?_
          try simp only [Act.put, List.setIfInBounds_toArray, List.set_cons_succ, List.set_cons_zero]
          refine order_pure (i := 2) rfl (by kernel_rfl) (fun _ _ _ h => h) (.inl ⟨rfl, fun _ => by go_simp; rfl⟩) ?_
          try simp only [Act.put, List.setIfInBounds_toArray, List.set_cons_succ, List.set_cons_zero]
          refine order_one (i := 1) rfl (by kernel_rfl) (fun K hK => ?_)
          go_simp
          refine (all_at w5 b m1 m2 N L HT.out.one.at' (by have := HLN.out; omega) HSZ.out (by have := HLN.out; omega)).mono ?_
          rintro e w6 ⟨X1, xc1, rfl, hx, hk, hxn⟩
          have HS1 := hk.cell id HS
          refine hK _ _ (fun _ _ => HS1) ?_
          have HT6 := hide (HT.out.fresh hk); have HX1 := hide hx; have HXN1 := hide hxn; have HZ6 := hide hk.size
          clear hK hk hx hxn HS
          try simp only [Act.put, List.setIfInBounds_toArray, List.set_cons_succ, List.set_cons_zero]
          refine order_one (i := 3) rfl (by kernel_rfl) (fun K hK => ?_)
          go_simp
          refine (all_at w6 b m1 m2 N L HT6.out.one.at' (by have := HLN.out; omega) HSZ.out (by have := HLN.out; omega)).mono ?_
          rintro e w7 ⟨X2, xc2, rfl, hx, hk, hxn⟩
          have HS2 := hk.cell id HS1
          refine hK _ _ (fun _ _ => HS2) ?_
          have HT7 := hide (HT6.out.fresh hk); have HX2 := hide hx; have HX1' := hide (HX1.out.fresh hk)
          have HAP := hide (show ∀ j, rowB X1 j → ¬ rowB X2 j from fun j h1 h2 => by have := HX1.out.lt h1; have := hxn j h2; omega)
          have HXN2 := hide (show ∀ j, rowB X2 j → w5.heap.size ≤ j from fun j hj => Nat.le_trans HZ6.out (hxn j hj))
          clear hK hk hx hxn HS1 HX1
          try simp only [Act.put, List.setIfInBounds_toArray, List.set_cons_succ, List.set_cons_zero]
          refine order_one (i := 4) rfl (by kernel_rfl) (fun K hK => ?_)
          go_simp
          have hkn : Keeps NoB w7 (w7.alloc (.cells #[.slice X1 L.length xc1, .slice X2 L.length xc2] 28)) := (Keeps.refl NoB w7).alloc _
          have HS3 := hkn.cell id HS2
          refine hK _ _ (fun _ _ => HS3) ?_
          have HT8 := hide (HT7.out.fresh hkn)
          have HX1'' := hide (HX1'.out.fresh hkn); have HX2'' := hide (HX2.out.fresh hkn)
          have HTR := hide (twoL_reads (Blk.new w7 28 #[.slice X1 L.length xc1, .slice X2 L.length xc2]))
          clear hK hkn HS2 HX1' HX2
          generalize w7.alloc (.cells #[.slice X1 L.length xc1, .slice X2 L.length xc2] 28) = w8 at *
          try simp only [Act.put, List.setIfInBounds_toArray, List.set_cons_succ, List.set_cons_zero]
          refine order_one (i := 5) rfl (by kernel_rfl) (fun K hK => ?_)
          go_simp
          refine (apart_top 2 2 (some ⟨w7.heap.size, 0, none⟩) (twoL X1 X2 L.length xc1 xc2) w8 (fun _ => True) true HTR.out (fun k hk => ?_) (fun k j hk hj hkj bb h1 h2 => ?_) (by omega) (fun k hk => ?_)).mono ?_
          · rcases (by omega : k = 0 ∨ k = 1) with rfl | rfl
            · exact ⟨_, HX1''.out⟩
            · exact ⟨_, HX2''.out⟩
          · rcases (by omega : k = 0 ∧ j = 1 ∨ k = 1 ∧ j = 0) with ⟨rfl, rfl⟩ | ⟨rfl, rfl⟩
            · exact HAP.out bb h1 h2
            · exact HAP.out bb h2 h1
          · have := HLN.out
            rcases (by omega : k = 0 ∨ k = 1) with rfl | rfl
            · show L.length ≤ 100000; omega
            · show L.length ≤ 100000; omega
          rintro e w9 ⟨rfl, hk⟩
          have HFP := hide (show ∀ j, fpL (twoL X1 X2 L.length xc1 xc2) 2 j → w5.heap.size ≤ j from by
            rintro j ⟨k, hk2, hf⟩
            rcases (by omega : k = 0 ∨ k = 1) with rfl | rfl
            · exact HXN1.out j hf
            · exact HXN2.out j hf)
          have HT9 := hide (Two.off HT.out HT8.out hk HFP.out)
          have HS4 : w9.cell? ⟨r, 0, none⟩ = some (.slice B L.length c1) := HT9.out.ref.blk.cell 0
          refine hK _ _ (fun _ _ => HS4) ?_
          clear hK hk HS3 HX1'' HX2'' HAP HTR HXN1 HXN2 HFP HT HT6 HT7 HT8
          try simp only [Act.put, List.setIfInBounds_toArray, List.set_cons_succ, List.set_cons_zero]
          have HS := HS4
          refine order_pure (i := 6) rfl (by kernel_rfl) (fun _ _ _ h => h) (.inl ⟨rfl, fun _ => by go_simp; rfl⟩) ?_
          try simp only [Act.put, List.setIfInBounds_toArray, List.set_cons_succ, List.set_cons_zero]
          refine order_pure (i := 7) rfl (by kernel_rfl) (fun _ _ _ h => h) (.inl ⟨rfl, fun _ => by go_simp; rfl⟩) ?_
          try simp only [Act.put, List.setIfInBounds_toArray, List.set_cons_succ, List.set_cons_zero]
          refine order_pure (i := 9) rfl (by kernel_rfl) (fun _ _ _ h => h) (.inl ⟨rfl, fun _ => by go_simp; rfl⟩) ?_
          try simp only [Act.put, List.setIfInBounds_toArray, List.set_cons_succ, List.set_cons_zero]
          refine order_pure (i := 10) rfl (by kernel_rfl) (fun _ _ _ h => h) (.inl ⟨rfl, fun _ => by go_simp; rfl⟩) ?_
          try simp only [Act.put, List.setIfInBounds_toArray, List.set_cons_succ, List.set_cons_zero]
          refine order_pure (i := 11) rfl (by kernel_rfl) (fun _ _ _ h => h) (.inl ⟨rfl, fun _ => by go_simp; rfl⟩) ?_
          try simp only [Act.put, List.setIfInBounds_toArray, List.set_cons_succ, List.set_cons_zero]
          refine order_held (i := 12) rfl (by kernel_rfl) (fun _ _ _ h => h) (.inl ⟨rfl, fun W hW => by
            have q0 : W.cell? ⟨r, 0, none⟩ = some (.slice B L.length c1) := hW
            go_simp; rfl⟩) HS ?_
          try simp only [Act.put, List.setIfInBounds_toArray, List.set_cons_succ, List.set_cons_zero]
          refine order_one (i := 8) rfl (by kernel_rfl) (fun K hK => ?_)
          go_simp
          refine (all_at w9 b m1 m2 N L HT9.out.one.at' (by have := HLN.out; omega) HSZ.out (by have := HLN.out; omega)).mono ?_
          rintro e w10 ⟨X3, xc3, rfl, hx, hk, _⟩
          have HS5 := hk.cell id HS
          refine hK _ _ (fun _ _ => HS5) ?_
          have HT10 := hide (HT9.out.fresh hk); have HX3 := hide hx
          clear hK hk hx HS HS4
          try simp only [Act.put, List.setIfInBounds_toArray, List.set_cons_succ, List.set_cons_zero]
          refine order_one (i := 13) rfl (by kernel_rfl) (fun K hK => ?_)
          go_simp
          refine (nameds_self X3 B L.length xc3 c1 L w10 _ _ _ _ HX3.out.reads HT10.out.ref.row.reads (by have := HLN.out; omega)).mono ?_
          rintro e w11 ⟨rfl, hk⟩
          have HS6 := hk.cell id HS5
          refine hK _ _ (fun _ _ => HS6) ?_
          have HT11 := hide (HT10.out.fresh hk)
          clear hK hk HX3 HS5
          try simp only [Act.put, List.setIfInBounds_toArray, List.set_cons_succ, List.set_cons_zero]
          refine order_pure (i := 14) rfl (by kernel_rfl) (fun _ _ _ h => h) (.inl ⟨rfl, fun _ => by go_simp; rfl⟩) ?_
          try simp only [Act.put, List.setIfInBounds_toArray, List.set_cons_succ, List.set_cons_zero]
          refine order_pure (i := 15) rfl (by kernel_rfl) (fun _ _ _ h => h) (.inl ⟨rfl, fun _ => by go_simp; rfl⟩) ?_
          try simp only [Act.put, List.setIfInBounds_toArray, List.set_cons_succ, List.set_cons_zero]
          refine order_one (i := 16) rfl (by kernel_rfl) (fun K hK => ?_)
          go_simp
          refine (awake_any w11).mono ?_
          rintro e w12 ⟨rfl, hk⟩
          have HS7 := hk.cell id HS6
          refine hK _ _ (fun _ _ => HS7) ?_
          have HK12 := hide (HT11.out.one.keep.trans' hk (fun _ _ => id) (fun _ _ => id) : Keeps NoB wc w12)
          clear hK hk HS6
          try simp only [Act.put, List.setIfInBounds_toArray, List.set_cons_succ, List.set_cons_zero]
          refine order_pure (i := 17) rfl (by kernel_rfl) (fun _ _ _ h => h) (.inl ⟨rfl, fun _ => by go_simp; rfl⟩) ?_
          try simp only [Act.put, List.setIfInBounds_toArray, List.set_cons_succ, List.set_cons_zero]
          refine order_pure (i := 18) rfl (by kernel_rfl) (fun _ _ _ h => h) (.inl ⟨rfl, fun _ => by go_simp; rfl⟩) ?_
          try simp only [Act.put, List.setIfInBounds_toArray, List.set_cons_succ, List.set_cons_zero]
          refine order_done (by kernel_rfl) ?_
          clear HS7
          go_wp2_with fail
          go_ret
          exact ⟨rfl, HK12.out⟩
end Go.Proofs.YthoaaihghgabcaaGreat
