/- pigeonholekit: ApartInts: the bag, and all that is asked of it. -/
import Derived.Test.YtjmljjmnamfljaaGreatFlatInts
import Derived.Test.YtjmljjmnamfljaaGreatFlats
namespace Go.Proofs.YtjmljjmnamfljaaGreat
open Go.RowKit

abbrev bagC (v : Value) : Array Value := #[Value.slice none 0 0, Value.slice none 0 0, v, Value.slice none 0 0, Value.slice none 0 0, Value.slice none 0 0, Value.slice none 0 0, Value.slice none 0 0, Value.slice none 0 0, Value.slice none 0 0, Value.slice none 0 0, Value.slice none 0 0, Value.slice none 0 0, Value.slice none 0 0, Value.slice none 0 0, Value.slice none 0 0, Value.slice none 0 0, Value.slice none 0 0, Value.slice none 0 0, Value.slice none 0 0]

set_option maxRecDepth 100000 in
set_option maxHeartbeats 8000000 in
theorem apart_any (bb K cO : Nat) (O : Option Addr) (L : Nat → Ld) (w : World) (hb : Blk w bb 76 (bagC (.slice O K cO))) (h : P1 w w K O cO L (fun _ => 0)) (hK : K ≤ 1000) (hn : ∀ k, k < K → (L k).n ≤ 100000) :
    Calls Tryz.prog 17 #[.pointer (some ⟨bb, 0, none⟩)] w fun e w' => e = .returned (.bool true) ∧ Keeps (fpL L K) w w' := by
  have H := hide h; have HB := hide hb; have HN := hide hn
  have HK := hide (Keeps.refl (fpL L K) w)
  have HNE := hide (show ¬ fpL L K bb from by
    rintro ⟨k, hk, hr⟩
    obtain ⟨ys, h1, _⟩ := h.ls k hk
    exact h1.ne hb (by decide) hr)
  have c0 : w.cell? ⟨bb, 0, none⟩ = some (.slice none 0 0) := hb.cell 0
  clear h hb hn
  go_enter Tryz.func17, Tryz.ntmps17
  go_wp2_with fail
  refine (flat34 _).mono ?_
  rintro e w0 ⟨rfl, hk⟩
  have HK := hide (HK.out.trans' hk (fun _ _ h => h) (fun _ _ h => h.elim) : Keeps (fpL L K) w w0)
  have HB := hide (HB.out.keep hk id)
  have H := hide (show P1 w0 w0 K O cO L (fun _ => 0) from ⟨H.out.out.fresh hk, fun k hk1 => (H.out.ls k hk1).fresh hk, H.out.ap, Keeps.refl _ _⟩)
  have c1 : w0.cell? ⟨bb, 1, none⟩ = some (.slice none 0 0) := HB.out.cell 1
  clear hk c0
  go_wp2_with fail
  refine (flat35 _).mono ?_
  rintro e w1 ⟨rfl, hk⟩
  have HK := hide (HK.out.trans' hk (fun _ _ h => h) (fun _ _ h => h.elim) : Keeps (fpL L K) w w1)
  have HB := hide (HB.out.keep hk id)
  have H := hide (show P1 w1 w1 K O cO L (fun _ => 0) from ⟨H.out.out.fresh hk, fun k hk1 => (H.out.ls k hk1).fresh hk, H.out.ap, Keeps.refl _ _⟩)
  have c2 : w1.cell? ⟨bb, 2, none⟩ = some (.slice O K cO) := HB.out.cell 2
  clear hk c1
  go_wp2_with fail
  refine (flat36 K cO O L _ H.out hK HN.out).mono ?_
  rintro e w2 ⟨rfl, hk⟩
  have HK := hide (HK.out.trans' hk (fun _ _ h => h) (fun _ _ h => h) : Keeps (fpL L K) w w2)
  have HB := hide (HB.out.keep hk HNE.out)
  have c3 : w2.cell? ⟨bb, 3, none⟩ = some (.slice none 0 0) := HB.out.cell 3
  clear hk c2
  go_wp2_with fail
  refine (flat37 _).mono ?_
  rintro e w3 ⟨rfl, hk⟩
  have HK := hide (HK.out.trans' hk (fun _ _ h => h) (fun _ _ h => h.elim) : Keeps (fpL L K) w w3)
  have HB := hide (HB.out.keep hk id)
  have c4 : w3.cell? ⟨bb, 4, none⟩ = some (.slice none 0 0) := HB.out.cell 4
  clear hk c3
  go_wp2_with fail
  refine (flat38 _).mono ?_
  rintro e w4 ⟨rfl, hk⟩
  have HK := hide (HK.out.trans' hk (fun _ _ h => h) (fun _ _ h => h.elim) : Keeps (fpL L K) w w4)
  have HB := hide (HB.out.keep hk id)
  have c5 : w4.cell? ⟨bb, 5, none⟩ = some (.slice none 0 0) := HB.out.cell 5
  clear hk c4
  go_wp2_with fail
  refine (flat39 _).mono ?_
  rintro e w5 ⟨rfl, hk⟩
  have HK := hide (HK.out.trans' hk (fun _ _ h => h) (fun _ _ h => h.elim) : Keeps (fpL L K) w w5)
  have HB := hide (HB.out.keep hk id)
  have c6 : w5.cell? ⟨bb, 6, none⟩ = some (.slice none 0 0) := HB.out.cell 6
  clear hk c5
  go_wp2_with fail
  refine (flat40 _).mono ?_
  rintro e w6 ⟨rfl, hk⟩
  have HK := hide (HK.out.trans' hk (fun _ _ h => h) (fun _ _ h => h.elim) : Keeps (fpL L K) w w6)
  have HB := hide (HB.out.keep hk id)
  have c7 : w6.cell? ⟨bb, 7, none⟩ = some (.slice none 0 0) := HB.out.cell 7
  clear hk c6
  go_wp2_with fail
  refine (flat41 _).mono ?_
  rintro e w7 ⟨rfl, hk⟩
  have HK := hide (HK.out.trans' hk (fun _ _ h => h) (fun _ _ h => h.elim) : Keeps (fpL L K) w w7)
  have HB := hide (HB.out.keep hk id)
  have c8 : w7.cell? ⟨bb, 8, none⟩ = some (.slice none 0 0) := HB.out.cell 8
  clear hk c7
  go_wp2_with fail
  refine (flat42 _).mono ?_
  rintro e w8 ⟨rfl, hk⟩
  have HK := hide (HK.out.trans' hk (fun _ _ h => h) (fun _ _ h => h.elim) : Keeps (fpL L K) w w8)
  have HB := hide (HB.out.keep hk id)
  have c9 : w8.cell? ⟨bb, 9, none⟩ = some (.slice none 0 0) := HB.out.cell 9
  clear hk c8
  go_wp2_with fail
  refine (flat43 _).mono ?_
  rintro e w9 ⟨rfl, hk⟩
  have HK := hide (HK.out.trans' hk (fun _ _ h => h) (fun _ _ h => h.elim) : Keeps (fpL L K) w w9)
  have HB := hide (HB.out.keep hk id)
  have c10 : w9.cell? ⟨bb, 10, none⟩ = some (.slice none 0 0) := HB.out.cell 10
  clear hk c9
  go_wp2_with fail
  refine (flat44 _).mono ?_
  rintro e w10 ⟨rfl, hk⟩
  have HK := hide (HK.out.trans' hk (fun _ _ h => h) (fun _ _ h => h.elim) : Keeps (fpL L K) w w10)
  have HB := hide (HB.out.keep hk id)
  have c11 : w10.cell? ⟨bb, 11, none⟩ = some (.slice none 0 0) := HB.out.cell 11
  clear hk c10
  go_wp2_with fail
  refine (flat45 _).mono ?_
  rintro e w11 ⟨rfl, hk⟩
  have HK := hide (HK.out.trans' hk (fun _ _ h => h) (fun _ _ h => h.elim) : Keeps (fpL L K) w w11)
  have HB := hide (HB.out.keep hk id)
  have c12 : w11.cell? ⟨bb, 12, none⟩ = some (.slice none 0 0) := HB.out.cell 12
  clear hk c11
  go_wp2_with fail
  refine (flat46 _).mono ?_
  rintro e w12 ⟨rfl, hk⟩
  have HK := hide (HK.out.trans' hk (fun _ _ h => h) (fun _ _ h => h.elim) : Keeps (fpL L K) w w12)
  have HB := hide (HB.out.keep hk id)
  have c13 : w12.cell? ⟨bb, 13, none⟩ = some (.slice none 0 0) := HB.out.cell 13
  clear hk c12
  go_wp2_with fail
  refine (flat47 _).mono ?_
  rintro e w13 ⟨rfl, hk⟩
  have HK := hide (HK.out.trans' hk (fun _ _ h => h) (fun _ _ h => h.elim) : Keeps (fpL L K) w w13)
  have HB := hide (HB.out.keep hk id)
  have c14 : w13.cell? ⟨bb, 14, none⟩ = some (.slice none 0 0) := HB.out.cell 14
  clear hk c13
  go_wp2_with fail
  refine (flat48 _).mono ?_
  rintro e w14 ⟨rfl, hk⟩
  have HK := hide (HK.out.trans' hk (fun _ _ h => h) (fun _ _ h => h.elim) : Keeps (fpL L K) w w14)
  have HB := hide (HB.out.keep hk id)
  have c15 : w14.cell? ⟨bb, 15, none⟩ = some (.slice none 0 0) := HB.out.cell 15
  clear hk c14
  go_wp2_with fail
  refine (flat49 _).mono ?_
  rintro e w15 ⟨rfl, hk⟩
  have HK := hide (HK.out.trans' hk (fun _ _ h => h) (fun _ _ h => h.elim) : Keeps (fpL L K) w w15)
  have HB := hide (HB.out.keep hk id)
  have c16 : w15.cell? ⟨bb, 16, none⟩ = some (.slice none 0 0) := HB.out.cell 16
  clear hk c15
  go_wp2_with fail
  refine (flat50 _).mono ?_
  rintro e w16 ⟨rfl, hk⟩
  have HK := hide (HK.out.trans' hk (fun _ _ h => h) (fun _ _ h => h.elim) : Keeps (fpL L K) w w16)
  have HB := hide (HB.out.keep hk id)
  have c17 : w16.cell? ⟨bb, 17, none⟩ = some (.slice none 0 0) := HB.out.cell 17
  clear hk c16
  go_wp2_with fail
  refine (flat51 _).mono ?_
  rintro e w17 ⟨rfl, hk⟩
  have HK := hide (HK.out.trans' hk (fun _ _ h => h) (fun _ _ h => h.elim) : Keeps (fpL L K) w w17)
  have HB := hide (HB.out.keep hk id)
  have c18 : w17.cell? ⟨bb, 18, none⟩ = some (.slice none 0 0) := HB.out.cell 18
  clear hk c17
  go_wp2_with fail
  refine (flat52 _).mono ?_
  rintro e w18 ⟨rfl, hk⟩
  have HK := hide (HK.out.trans' hk (fun _ _ h => h) (fun _ _ h => h.elim) : Keeps (fpL L K) w w18)
  have HB := hide (HB.out.keep hk id)
  have c19 : w18.cell? ⟨bb, 19, none⟩ = some (.slice none 0 0) := HB.out.cell 19
  clear hk c18
  go_wp2_with fail
  refine (flat53 _).mono ?_
  rintro e w19 ⟨rfl, hk⟩
  have HK := hide (HK.out.trans' hk (fun _ _ h => h) (fun _ _ h => h.elim) : Keeps (fpL L K) w w19)
  have HB := hide (HB.out.keep hk id)
  clear hk c19
  go_wp2_with fail
  go_ret
  exact ⟨rfl, HK.out⟩

theorem put_any (bb k cO n c : Nat) (O A : Option Addr) (ys : List Value) (w : World) (hb : Blk w bb 76 (bagC (.slice O k cO))) (hs : Slab w 25 1 O k cO ys) (hk : k ≤ 1000) :
    Calls Tryz.prog 16 #[.pointer (some ⟨bb, 0, none⟩), .slice A n c] w fun e w' => e = .returned (.tuple #[]) ∧ ∃ O' cO', Blk w' bb 76 (bagC (.slice O' (k + 1) cO')) ∧ Slab w' 25 1 O' (k + 1) cO' (ys ++ [.slice A n c]) ∧ Keeps (fun b => b = bb ∨ rowB O b) w w' ∧ Moved w O O' := by
  obtain ⟨i0, hi0, hz0, hz1, hz2⟩ := info_parts Tryz.info25
  have c2 : w.cell? ⟨bb, 2, none⟩ = some (.slice O k cO) := hb.cell 2
  have HS := hide hs; have HB := hide hb
  have HBD := hide (show k + 1 ≤ maxLen ∧ (k + 1) * 24 ≤ 140737488355328 from by unfold maxLen; omega)
  have HR := hide (show Reads (w.alloc (.cells #[.slice A n c] 25)) (fun _ => True) true 1 (some ⟨w.heap.size, 0, none⟩) 1 [.slice A n c] from by
    have hv := Blk.new w 25 #[.slice A n c]
    refine ⟨rfl, fun _ => ⟨_, rfl, rfl, trivial, hv.lt, fun j u hu => ⟨?_, fun _ => hv.free _⟩⟩⟩
    rw [hv.cell, ← hu]; simp)
  have c2' : (w.alloc (.cells #[.slice A n c] 25)).cell? ⟨bb, 2, none⟩ = some (.slice O k cO) := (hb.alloc _).cell 2
  clear hs hb
  go_enter Tryz.func16, Tryz.ntmps16
  go_wp2_with (at_builtin; go_loud (refine wpList_append_slab _ rfl (.tmp 8) (.tmp 10) 31 rfl 25 i0 _ 1 24 Tryz.underlying31 hi0 hz0 hz1 hz2 rfl (by omega) O k cO ys rfl (HS.out.fresh ((Keeps.refl NoB w).alloc _)) _ _ (some ⟨w.heap.size, 0, none⟩) 1 1 [.slice A n c] rfl HR.out (by omega) (by intro u hu; simp only [List.mem_singleton] at hu; rw [hu]; rfl) HBD.out.1 HBD.out.2 ?_))
  intro O' cO' w2 h1 h2 h3
  have hsep : ¬ rowB O bb := HS.out.ne HB.out (by decide)
  have hb2 := (HB.out.alloc (.cells #[.slice A n c] 25)).keep h2 hsep
  have g0 : w2.cell? ⟨bb, 2, none⟩ = some (.slice O k cO) := hb2.cell 2
  have f0 : w2.frozen? ⟨bb, 2, none⟩ = false := hb2.free 2
  have HF := hide (show ∃ O'' cO'', Blk (w2.setCell ⟨bb, 2, none⟩ (.slice O' (k + 1) cO')) bb 76 (bagC (.slice O'' (k + 1) cO'')) ∧ Slab (w2.setCell ⟨bb, 2, none⟩ (.slice O' (k + 1) cO')) 25 1 O'' (k + 1) cO'' (ys ++ [.slice A n c]) ∧ Keeps (fun b => b = bb ∨ rowB O b) w (w2.setCell ⟨bb, 2, none⟩ (.slice O' (k + 1) cO')) ∧ Moved w O O'' from by
    have hkb : Keeps (fun b => b = bb) w2 (w2.setCell ⟨bb, 2, none⟩ (.slice O' (k + 1) cO')) := (Keeps.refl (fun b => b = bb) w2).setCell (p := ⟨bb, 2, none⟩) (.inl rfl) _
    refine ⟨O', cO', hb2.put 2 _, h1.keep hkb (fun b hb e => h1.ne hb2 (by decide) (e ▸ hb)), ?_, fun b hb => (h3 b hb).imp id (fun h => Nat.le_trans (by simp) h)⟩
    exact ((((Keeps.refl NoB w).alloc (.cells #[.slice A n c] 25)).trans' h2 (fun _ _ h => h.elim) (fun _ _ h => h) : Keeps (rowB O) w w2).trans' hkb (fun _ _ h => .inr h) (fun _ _ h => .inl h)))
  clear h1 h2 h3 hb2 c2 c2'
  go_wp2
  go_end0
  exact ⟨rfl, HF.out⟩
end Go.Proofs.YtjmljjmnamfljaaGreat

