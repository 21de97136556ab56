/- pigeonholekit: the bag, and all that is asked of it. -/
import Derived.Test.YthoaaihghgabcaaGreatFlatNameds
import Derived.Test.YthoaaihghgabcaaGreatFlats
namespace Go.Proofs.YthoaaihghgabcaaGreat
open Go.RowKit

abbrev bagC (v : Value) : Array Value := #[Value.slice none 0 0, Value.slice none 0 0, Value.slice none 0 0, Value.slice none 0 0, Value.slice none 0 0, Value.slice none 0 0, Value.slice none 0 0, Value.slice none 0 0, Value.slice none 0 0, Value.slice none 0 0, Value.slice none 0 0, Value.slice none 0 0, Value.slice none 0 0, Value.slice none 0 0, Value.slice none 0 0, Value.slice none 0 0, Value.slice none 0 0, Value.slice none 0 0, v, Value.slice none 0 0]

set_option maxRecDepth 100000 in
set_option maxHeartbeats 8000000 in
theorem apart_any (bb K cO : Nat) (O : Option Addr) (L : Nat → Ld) (w : World) (hb : Blk w bb 80 (bagC (.slice O K cO))) (h : P1 KN w w K O cO L (fun _ => 0)) (hK : K ≤ 1000) (hn : ∀ k, k < K → (L k).n ≤ 100000) :
    Calls Tryz.prog 26 #[.pointer (some ⟨bb, 0, none⟩)] w fun e w' => e = .returned (.bool true) ∧ Keeps (fpL L K) w w' := by
  have H := hide h; have HB := hide hb; have HN := hide hn
  have HK := hide (Keeps.refl (fpL L K) w)
  have HNE := hide (show ¬ fpL L K bb from by
    rintro ⟨k, hk, hr⟩
    obtain ⟨ys, h1, _⟩ := h.ls k hk
    exact h1.ne hb (by decide) hr)
  have c0 : w.cell? ⟨bb, 0, none⟩ = some (.slice none 0 0) := hb.cell 0
  clear h hb hn
  go_enter Tryz.func26, Tryz.ntmps26
  go_wp2_with fail
  refine (flat32 _).mono ?_
  rintro e w0 ⟨rfl, hk⟩
  have HK := hide (HK.out.trans' hk (fun _ _ h => h) (fun _ _ h => h.elim) : Keeps (fpL L K) w w0)
  have HB := hide (HB.out.keep hk id)
  have H := hide ((H.out.fresh hk).again)
  have c1 : w0.cell? ⟨bb, 1, none⟩ = some (.slice none 0 0) := HB.out.cell 1
  clear hk c0
  go_wp2_with fail
  refine (flat33 _).mono ?_
  rintro e w1 ⟨rfl, hk⟩
  have HK := hide (HK.out.trans' hk (fun _ _ h => h) (fun _ _ h => h.elim) : Keeps (fpL L K) w w1)
  have HB := hide (HB.out.keep hk id)
  have H := hide ((H.out.fresh hk).again)
  have c2 : w1.cell? ⟨bb, 2, none⟩ = some (.slice none 0 0) := HB.out.cell 2
  clear hk c1
  go_wp2_with fail
  refine (flat34 _).mono ?_
  rintro e w2 ⟨rfl, hk⟩
  have HK := hide (HK.out.trans' hk (fun _ _ h => h) (fun _ _ h => h.elim) : Keeps (fpL L K) w w2)
  have HB := hide (HB.out.keep hk id)
  have H := hide ((H.out.fresh hk).again)
  have c3 : w2.cell? ⟨bb, 3, none⟩ = some (.slice none 0 0) := HB.out.cell 3
  clear hk c2
  go_wp2_with fail
  refine (flat35 _).mono ?_
  rintro e w3 ⟨rfl, hk⟩
  have HK := hide (HK.out.trans' hk (fun _ _ h => h) (fun _ _ h => h.elim) : Keeps (fpL L K) w w3)
  have HB := hide (HB.out.keep hk id)
  have H := hide ((H.out.fresh hk).again)
  have c4 : w3.cell? ⟨bb, 4, none⟩ = some (.slice none 0 0) := HB.out.cell 4
  clear hk c3
  go_wp2_with fail
  refine (flat36 _).mono ?_
  rintro e w4 ⟨rfl, hk⟩
  have HK := hide (HK.out.trans' hk (fun _ _ h => h) (fun _ _ h => h.elim) : Keeps (fpL L K) w w4)
  have HB := hide (HB.out.keep hk id)
  have H := hide ((H.out.fresh hk).again)
  have c5 : w4.cell? ⟨bb, 5, none⟩ = some (.slice none 0 0) := HB.out.cell 5
  clear hk c4
  go_wp2_with fail
  refine (flat37 _).mono ?_
  rintro e w5 ⟨rfl, hk⟩
  have HK := hide (HK.out.trans' hk (fun _ _ h => h) (fun _ _ h => h.elim) : Keeps (fpL L K) w w5)
  have HB := hide (HB.out.keep hk id)
  have H := hide ((H.out.fresh hk).again)
  have c6 : w5.cell? ⟨bb, 6, none⟩ = some (.slice none 0 0) := HB.out.cell 6
  clear hk c5
  go_wp2_with fail
  refine (flat38 _).mono ?_
  rintro e w6 ⟨rfl, hk⟩
  have HK := hide (HK.out.trans' hk (fun _ _ h => h) (fun _ _ h => h.elim) : Keeps (fpL L K) w w6)
  have HB := hide (HB.out.keep hk id)
  have H := hide ((H.out.fresh hk).again)
  have c7 : w6.cell? ⟨bb, 7, none⟩ = some (.slice none 0 0) := HB.out.cell 7
  clear hk c6
  go_wp2_with fail
  refine (flat39 _).mono ?_
  rintro e w7 ⟨rfl, hk⟩
  have HK := hide (HK.out.trans' hk (fun _ _ h => h) (fun _ _ h => h.elim) : Keeps (fpL L K) w w7)
  have HB := hide (HB.out.keep hk id)
  have H := hide ((H.out.fresh hk).again)
  have c8 : w7.cell? ⟨bb, 8, none⟩ = some (.slice none 0 0) := HB.out.cell 8
  clear hk c7
  go_wp2_with fail
  refine (flat40 _).mono ?_
  rintro e w8 ⟨rfl, hk⟩
  have HK := hide (HK.out.trans' hk (fun _ _ h => h) (fun _ _ h => h.elim) : Keeps (fpL L K) w w8)
  have HB := hide (HB.out.keep hk id)
  have H := hide ((H.out.fresh hk).again)
  have c9 : w8.cell? ⟨bb, 9, none⟩ = some (.slice none 0 0) := HB.out.cell 9
  clear hk c8
  go_wp2_with fail
  refine (flat41 _).mono ?_
  rintro e w9 ⟨rfl, hk⟩
  have HK := hide (HK.out.trans' hk (fun _ _ h => h) (fun _ _ h => h.elim) : Keeps (fpL L K) w w9)
  have HB := hide (HB.out.keep hk id)
  have H := hide ((H.out.fresh hk).again)
  have c10 : w9.cell? ⟨bb, 10, none⟩ = some (.slice none 0 0) := HB.out.cell 10
  clear hk c9
  go_wp2_with fail
  refine (flat42 _).mono ?_
  rintro e w10 ⟨rfl, hk⟩
  have HK := hide (HK.out.trans' hk (fun _ _ h => h) (fun _ _ h => h.elim) : Keeps (fpL L K) w w10)
  have HB := hide (HB.out.keep hk id)
  have H := hide ((H.out.fresh hk).again)
  have c11 : w10.cell? ⟨bb, 11, none⟩ = some (.slice none 0 0) := HB.out.cell 11
  clear hk c10
  go_wp2_with fail
  refine (flat43 _).mono ?_
  rintro e w11 ⟨rfl, hk⟩
  have HK := hide (HK.out.trans' hk (fun _ _ h => h) (fun _ _ h => h.elim) : Keeps (fpL L K) w w11)
  have HB := hide (HB.out.keep hk id)
  have H := hide ((H.out.fresh hk).again)
  have c12 : w11.cell? ⟨bb, 12, none⟩ = some (.slice none 0 0) := HB.out.cell 12
  clear hk c11
  go_wp2_with fail
  refine (flat44 _).mono ?_
  rintro e w12 ⟨rfl, hk⟩
  have HK := hide (HK.out.trans' hk (fun _ _ h => h) (fun _ _ h => h.elim) : Keeps (fpL L K) w w12)
  have HB := hide (HB.out.keep hk id)
  have H := hide ((H.out.fresh hk).again)
  have c13 : w12.cell? ⟨bb, 13, none⟩ = some (.slice none 0 0) := HB.out.cell 13
  clear hk c12
  go_wp2_with fail
  refine (flat45 _).mono ?_
  rintro e w13 ⟨rfl, hk⟩
  have HK := hide (HK.out.trans' hk (fun _ _ h => h) (fun _ _ h => h.elim) : Keeps (fpL L K) w w13)
  have HB := hide (HB.out.keep hk id)
  have H := hide ((H.out.fresh hk).again)
  have c14 : w13.cell? ⟨bb, 14, none⟩ = some (.slice none 0 0) := HB.out.cell 14
  clear hk c13
  go_wp2_with fail
  refine (flat46 _).mono ?_
  rintro e w14 ⟨rfl, hk⟩
  have HK := hide (HK.out.trans' hk (fun _ _ h => h) (fun _ _ h => h.elim) : Keeps (fpL L K) w w14)
  have HB := hide (HB.out.keep hk id)
  have H := hide ((H.out.fresh hk).again)
  have c15 : w14.cell? ⟨bb, 15, none⟩ = some (.slice none 0 0) := HB.out.cell 15
  clear hk c14
  go_wp2_with fail
  refine (flat47 _).mono ?_
  rintro e w15 ⟨rfl, hk⟩
  have HK := hide (HK.out.trans' hk (fun _ _ h => h) (fun _ _ h => h.elim) : Keeps (fpL L K) w w15)
  have HB := hide (HB.out.keep hk id)
  have H := hide ((H.out.fresh hk).again)
  have c16 : w15.cell? ⟨bb, 16, none⟩ = some (.slice none 0 0) := HB.out.cell 16
  clear hk c15
  go_wp2_with fail
  refine (flat48 _).mono ?_
  rintro e w16 ⟨rfl, hk⟩
  have HK := hide (HK.out.trans' hk (fun _ _ h => h) (fun _ _ h => h.elim) : Keeps (fpL L K) w w16)
  have HB := hide (HB.out.keep hk id)
  have H := hide ((H.out.fresh hk).again)
  have c17 : w16.cell? ⟨bb, 17, none⟩ = some (.slice none 0 0) := HB.out.cell 17
  clear hk c16
  go_wp2_with fail
  refine (flat49 _).mono ?_
  rintro e w17 ⟨rfl, hk⟩
  have HK := hide (HK.out.trans' hk (fun _ _ h => h) (fun _ _ h => h.elim) : Keeps (fpL L K) w w17)
  have HB := hide (HB.out.keep hk id)
  have H := hide ((H.out.fresh hk).again)
  have c18 : w17.cell? ⟨bb, 18, none⟩ = some (.slice O K cO) := HB.out.cell 18
  clear hk c17
  go_wp2_with fail
  refine (flat50 K cO O L _ H.out hK HN.out).mono ?_
  rintro e w18 ⟨rfl, hk⟩
  have HK := hide (HK.out.trans' hk (fun _ _ h => h) (fun _ _ h => h) : Keeps (fpL L K) w w18)
  have HB := hide (HB.out.keep hk HNE.out)
  have c19 : w18.cell? ⟨bb, 19, none⟩ = some (.slice none 0 0) := HB.out.cell 19
  clear hk c18
  go_wp2_with fail
  refine (flat51 _).mono ?_
  rintro e w19 ⟨rfl, hk⟩
  have HK := hide (HK.out.trans' hk (fun _ _ h => h) (fun _ _ h => h.elim) : Keeps (fpL L K) w w19)
  have HB := hide (HB.out.keep hk id)
  clear hk c19
  go_wp2_with fail
  go_ret
  exact ⟨rfl, HK.out⟩

theorem put_any (bb k cO n c : Nat) (O A : Option Addr) (ys : List Value) (w : World) (hb : Blk w bb 80 (bagC (.slice O k cO))) (hs : Slab w 28 1 O k cO ys) (hk : k ≤ 1000) :
    Calls Tryz.prog 25 #[.pointer (some ⟨bb, 0, none⟩), .slice A n c] w fun e w' => e = .returned (.tuple #[]) ∧ ∃ O' cO', Blk w' bb 80 (bagC (.slice O' (k + 1) cO')) ∧ Slab w' 28 1 O' (k + 1) cO' (ys ++ [.slice A n c]) ∧ Keeps (fun b => b = bb ∨ rowB O b) w w' ∧ Moved w O O' := by
  obtain ⟨i0, hi0, hz0, hz1, hz2⟩ := info_parts Tryz.info28
  have c2 : w.cell? ⟨bb, 18, none⟩ = some (.slice O k cO) := hb.cell 18
  have HS := hide hs; have HB := hide hb
  have HBD := hide (show k + 1 ≤ maxLen ∧ (k + 1) * 24 ≤ 140737488355328 from by unfold maxLen; omega)
  have HR := hide (show Reads (w.alloc (.cells #[.slice A n c] 28)) (fun _ => True) true 1 (some ⟨w.heap.size, 0, none⟩) 1 [.slice A n c] from by
    have hv := Blk.new w 28 #[.slice A n c]
    refine ⟨rfl, fun _ => ⟨_, rfl, rfl, trivial, hv.lt, fun j u hu => ⟨?_, fun _ => hv.free _⟩⟩⟩
    rw [hv.cell, ← hu]; simp)
  have c2' : (w.alloc (.cells #[.slice A n c] 28)).cell? ⟨bb, 18, none⟩ = some (.slice O k cO) := (hb.alloc _).cell 18
  clear hs hb
  go_enter Tryz.func25, Tryz.ntmps25
  go_wp2_with (at_builtin; go_loud (refine wpList_append_slab _ rfl (.tmp 8) (.tmp 10) 37 rfl 28 i0 _ 1 24 Tryz.underlying37 hi0 hz0 hz1 hz2 rfl (by omega) O k cO ys rfl (HS.out.fresh ((Keeps.refl NoB w).alloc _)) _ _ (some ⟨w.heap.size, 0, none⟩) 1 1 [.slice A n c] rfl HR.out (by omega) (by intro u hu; simp only [List.mem_singleton] at hu; rw [hu]; rfl) HBD.out.1 HBD.out.2 ?_))
  intro O' cO' w2 h1 h2 h3
  have hsep : ¬ rowB O bb := HS.out.ne HB.out (by decide)
  have hb2 := (HB.out.alloc (.cells #[.slice A n c] 28)).keep h2 hsep
  have g0 : w2.cell? ⟨bb, 18, none⟩ = some (.slice O k cO) := hb2.cell 18
  have f0 : w2.frozen? ⟨bb, 18, none⟩ = false := hb2.free 18
  have HF := hide (show ∃ O'' cO'', Blk (w2.setCell ⟨bb, 18, none⟩ (.slice O' (k + 1) cO')) bb 80 (bagC (.slice O'' (k + 1) cO'')) ∧ Slab (w2.setCell ⟨bb, 18, none⟩ (.slice O' (k + 1) cO')) 28 1 O'' (k + 1) cO'' (ys ++ [.slice A n c]) ∧ Keeps (fun b => b = bb ∨ rowB O b) w (w2.setCell ⟨bb, 18, none⟩ (.slice O' (k + 1) cO')) ∧ Moved w O O'' from by
    have hkb : Keeps (fun b => b = bb) w2 (w2.setCell ⟨bb, 18, none⟩ (.slice O' (k + 1) cO')) := (Keeps.refl (fun b => b = bb) w2).setCell (p := ⟨bb, 18, none⟩) (.inl rfl) _
    refine ⟨O', cO', hb2.put 18 _, h1.keep hkb (fun b hb e => h1.ne hb2 (by decide) (e ▸ hb)), ?_, fun b hb => (h3 b hb).imp id (fun h => Nat.le_trans (by simp) h)⟩
    exact ((((Keeps.refl NoB w).alloc (.cells #[.slice A n c] 28)).trans' h2 (fun _ _ h => h.elim) (fun _ _ h => h) : Keeps (rowB O) w w2).trans' hkb (fun _ _ h => .inr h) (fun _ _ h => .inl h)))
  clear h1 h2 h3 hb2 c2 c2'
  go_wp2
  go_end0
  exact ⟨rfl, HF.out⟩

structure BagInv (w wr : World) (bb : Nat) (L : Nat → Ld) (k : Nat) (O : Option Addr) (cO : Nat) : Prop where
  blk : Blk wr bb 80 (bagC (.slice O k cO))
  row : Slab wr 28 1 O k cO (cellsL L k)
  keep : Keeps NoB w wr
  new : ∀ b, rowB O b → w.heap.size ≤ b

set_option maxRecDepth 100000 in
theorem apart_top (K c0 : Nat) (Q : Option Addr) (L : Nat → Ld) (w : World) (BB : Nat → Prop) (F : Bool) (hQ : Reads w BB F 1 Q K (cellsL L K)) (hL : ∀ k, k < K → ∃ ys, Slab w (KN).e (KN).sz (L k).A (L k).n (L k).c ys) (ap : ∀ k j, k < K → j < K → k ≠ j → ∀ b, rowB (L k).A b → ¬ rowB (L j).A b) (hK : K ≤ 1000) (hn : ∀ k, k < K → (L k).n ≤ 100000) :
    Calls Tryz.prog 11 #[.slice Q K c0] w fun e w' => e = .returned (.bool true) ∧ Keeps (fpL L K) w w' := by
  have HQ := hide hQ; have HLS := hide hL; have HAP := hide ap; have HN := hide hn
  have H0 := hide (show BagInv w (w.alloc (.cells (bagC (.slice none 0 0)) 80)) w.heap.size L 0 none 0 from
    ⟨Blk.new w 80 _, by simpa [cellsL] using Slab.nil _ 28 1, (Keeps.refl NoB w).alloc _, fun b ⟨o, h⟩ => by cases h⟩)
  clear hQ hL ap hn
  go_enter Tryz.func11, Tryz.ntmps11
  go_wp2_with fail
  generalize w.alloc (.cells (bagC (.slice none 0 0)) 80) = w1 at *
  have HBB := hide (Nat.le_refl w.heap.size)
  have HBB := hide (show w.heap.size ≤ w.heap.size from HBB.out)
  generalize hbb : w.heap.size = bb at H0 ⊢
  have HBE := hide hbb
  clear hbb HBB
  go_loopg [4] K (fun g s4 wr => ∃ (k : Nat) (O : Option Addr) (cO : Nat), k ≤ K ∧ g = K - k ∧ s4 = .int .i64 k ∧ BagInv w wr bb L k O cO)
  case atStart => exact ⟨0, none, 0, Nat.zero_le _, rfl, rfl, H0.out⟩
  case round =>
    clear H0
    obtain ⟨k, O, cO, hk, rfl, rfl, hinv⟩ := hrel
    have HI := hide hinv
    clear hinv
    by_cases hlt : k < K
    · obtain ⟨⟨g, o, sp⟩, hA, hs, _, _, hc⟩ := (HQ.out.keep HI.out.keep (fun _ _ => id)).2 (by omega)
      simp only at hs
      subst hs hA
      obtain ⟨A, hA⟩ : ∃ A, (L k).A = A := ⟨_, rfl⟩
      obtain ⟨n, hn⟩ : ∃ n, (L k).n = n := ⟨_, rfl⟩
      obtain ⟨c, hcc⟩ : ∃ c, (L k).c = c := ⟨_, rfl⟩
      have c1 : wr.cell? ⟨g, o + k, none⟩ = some (.slice A n c) := by
        have := (hc k _ (cellsL_at hlt)).1
        rw [hA, hn, hcc] at this; exact this
      have HE := hide (show cellsL L (k + 1) = cellsL L k ++ [.slice A n c] from by rw [cellsL_succ, hA, hn, hcc])
      have hkz : (k : Int) < K := by omega
      have hk0 : (0 : Int) ≤ k := by omega
      clear hc hA hn hcc
      go_wp2_with fail
      refine (put_any bb k cO n c O A (cellsL L k) _ HI.out.blk HI.out.row (by omega)).mono ?_
      rintro e w2 ⟨rfl, O', cO', h1, h2, h3, h4⟩
      have HI2 := hide (show BagInv w w2 bb L (k + 1) O' cO' from ⟨h1, by rw [HE.out]; exact h2, HI.out.keep.trans' h3 (fun _ _ => id) (fun b hb hf => by
        rcases hf with e | hf
        · have := HBE.out; omega
        · have := HI.out.new b hf; omega), fun b hb => (h4 b hb).elim (HI.out.new b) (fun h => Nat.le_trans HI.out.keep.size h)⟩)
      clear h1 h2 h3 h4
      go_wp2_with fail
      go_roundg (K - (k + 1))
      case measure => omega
      case rel => exact ⟨k + 1, O', cO', by omega, rfl, by go_num, HI2.out⟩
    · obtain rfl : K = k := by omega
      have hkz : ¬ (K : Int) < K := by omega
      go_wp2_with fail
      refine (apart_any bb K cO O L _ HI.out.blk ⟨HI.out.row, fun k hk => by
        obtain ⟨ys, h⟩ := HLS.out k hk
        exact ⟨ys, h.fresh HI.out.keep, fun j hj => by omega⟩, HAP.out, Keeps.refl _ _, by decide⟩ hK HN.out).mono ?_
      rintro e w2 ⟨rfl, hk2⟩
      have HF := hide (HI.out.keep.trans' hk2 (fun _ _ h => h.elim) (fun _ _ h => h) : Keeps (fpL L K) w w2)
      clear hk2
      go_wp2_with fail
      go_ret
      exact ⟨rfl, HF.out⟩
end Go.Proofs.YthoaaihghgabcaaGreat

