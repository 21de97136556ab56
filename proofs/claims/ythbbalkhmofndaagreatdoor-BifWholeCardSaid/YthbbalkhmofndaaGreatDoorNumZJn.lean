/- bif.number: its contracts. Printed by mknum.py. bif.number: its contracts. Printed by mknum.py. bif.number: its contracts. Printed by mknum.py. -/
import Derived.Test.YthbbalkhmofndaaGreatDoorNumBJn
import Derived.Test.YthbbalkhmofndaaGreatDoorTwoJn
import Derived.Test.YthbbalkhmofndaaGreatDoorTextJn
import Derived.Test.YthbbalkhmofndaaGreatDoorDivAllJn
namespace Go.Proofs.YthbbalkhmofndaaGreatDoor
open Go.RowKit

set_option maxRecDepth 100000 in
set_option maxHeartbeats 2000000 in
theorem number_times (x y : Int) (hz : (x * y).natAbs < Big) (a b : Tm) (hka : a.kind = 1) (hkb : b.kind = 1) (ng ng' : Bool) (A A' ia ta ia' ta' : Option Addr) (n c n' c' ic tc ic' tc' : Nat) (w : World) (B B' : Nat → Prop) (ha : TermIn w B false [.int .u8 1, .bool ng, .slice A n c, .string ⟨#[]⟩, .int .i64 0, .slice ia 0 ic, .slice ta 0 tc] a) (hb : TermIn w B' false [.int .u8 1, .bool ng', .slice A' n' c', .string ⟨#[]⟩, .int .i64 0, .slice ia' 0 ic', .slice ta' 0 tc'] b) (h : IA w B ng A n c x) (h' : IA w B' ng' A' n' c' y) :
    Calls Tryz.prog 47 #[.string ⟨#[42]⟩, .agg #[.int .u8 1, .bool ng, .slice A n c, .string ⟨#[]⟩, .int .i64 0, .slice ia 0 ic, .slice ta 0 tc], .agg #[.int .u8 1, .bool ng', .slice A' n' c', .string ⟨#[]⟩, .int .i64 0, .slice ia' 0 ic', .slice ta' 0 tc']] w (ResP 0 w (intTm (x * y)) zeroT) := by
  have HK0 := hide ((((Keeps.refl NoB w).alloc (.cells #[.int .u8 1, .bool ng, .slice A n c, .string ⟨#[]⟩, .int .i64 0, .slice ia 0 ic, .slice ta 0 tc] 26)).alloc (.cells #[.int .u8 1, .bool ng', .slice A' n' c', .string ⟨#[]⟩, .int .i64 0, .slice ia' 0 ic', .slice ta' 0 tc'] 26)).alloc (.cells #[.int .u8 0, .bool false, .slice none 0 0, .string ⟨#[]⟩, .int .i64 0, .slice none 0 0, .slice none 0 0, .int .u8 0, .bool false, .slice none 0 0, .string ⟨#[]⟩, .int .i64 0, .slice none 0 0, .slice none 0 0] 48))
  have HA0 := hide (three_tblks w 26 26 48 #[.int .u8 1, .bool ng, .slice A n c, .string ⟨#[]⟩, .int .i64 0, .slice ia 0 ic, .slice ta 0 tc] #[.int .u8 1, .bool ng', .slice A' n' c', .string ⟨#[]⟩, .int .i64 0, .slice ia' 0 ic', .slice ta' 0 tc'] #[.int .u8 0, .bool false, .slice none 0 0, .string ⟨#[]⟩, .int .i64 0, .slice none 0 0, .slice none 0 0, .int .u8 0, .bool false, .slice none 0 0, .string ⟨#[]⟩, .int .i64 0, .slice none 0 0, .slice none 0 0]).1; have HB0 := hide (three_tblks w 26 26 48 #[.int .u8 1, .bool ng, .slice A n c, .string ⟨#[]⟩, .int .i64 0, .slice ia 0 ic, .slice ta 0 tc] #[.int .u8 1, .bool ng', .slice A' n' c', .string ⟨#[]⟩, .int .i64 0, .slice ia' 0 ic', .slice ta' 0 tc'] #[.int .u8 0, .bool false, .slice none 0 0, .string ⟨#[]⟩, .int .i64 0, .slice none 0 0, .slice none 0 0, .int .u8 0, .bool false, .slice none 0 0, .string ⟨#[]⟩, .int .i64 0, .slice none 0 0, .slice none 0 0]).2.1; have HR0 := hide (three_tblks w 26 26 48 #[.int .u8 1, .bool ng, .slice A n c, .string ⟨#[]⟩, .int .i64 0, .slice ia 0 ic, .slice ta 0 tc] #[.int .u8 1, .bool ng', .slice A' n' c', .string ⟨#[]⟩, .int .i64 0, .slice ia' 0 ic', .slice ta' 0 tc'] #[.int .u8 0, .bool false, .slice none 0 0, .string ⟨#[]⟩, .int .i64 0, .slice none 0 0, .slice none 0 0, .int .u8 0, .bool false, .slice none 0 0, .string ⟨#[]⟩, .int .i64 0, .slice none 0 0, .slice none 0 0]).2.2
  have HHA := hide (TermIn.more (B' := fun _ => True) (fun _ _ _ => trivial) _ _ ha); have HHB := hide (TermIn.more (B' := fun _ => True) (fun _ _ _ => trivial) _ _ hb); have HI := hide h; have HI' := hide h'
  have HAR := hide (show ([a, b].all (ofK 1)) = true from by simp [ofK, hka, hkb])
  clear ha hb h h' hka hkb
  go_enter Tryz.func47, Tryz.ntmps47
  go_upto_region 1 with fail
  generalize ((w.alloc (.cells #[.int .u8 1, .bool ng, .slice A n c, .string ⟨#[]⟩, .int .i64 0, .slice ia 0 ic, .slice ta 0 tc] 26)).alloc (.cells #[.int .u8 1, .bool ng', .slice A' n' c', .string ⟨#[]⟩, .int .i64 0, .slice ia' 0 ic', .slice ta' 0 tc'] 26)).alloc (.cells #[.int .u8 0, .bool false, .slice none 0 0, .string ⟨#[]⟩, .int .i64 0, .slice none 0 0, .slice none 0 0, .int .u8 0, .bool false, .slice none 0 0, .string ⟨#[]⟩, .int .i64 0, .slice none 0 0, .slice none 0 0] 48) = w0 at *
  obtain ⟨x0, x1, x2, x3, x4, x5, x6⟩ := Blk.c7 (show Blk w0 (w.heap.size) _ #[.int .u8 1, .bool ng, .slice A n c, .string ⟨#[]⟩, .int .i64 0, .slice ia 0 ic, .slice ta 0 tc] from HA0.out)
  obtain ⟨y0, y1, y2, y3, y4, y5, y6⟩ := Blk.c7 (show Blk w0 (w.heap.size + 1) _ #[.int .u8 1, .bool ng', .slice A' n' c', .string ⟨#[]⟩, .int .i64 0, .slice ia' 0 ic', .slice ta' 0 tc'] from HB0.out)
  go_upto_region 3 with
    first
    | (go_at_call 74
       refine (are_any 1 [a, b] [[.int .u8 1, .bool ng, .slice A n c, .string ⟨#[]⟩, .int .i64 0, .slice ia 0 ic, .slice ta 0 tc], [.int .u8 1, .bool ng', .slice A' n' c', .string ⟨#[]⟩, .int .i64 0, .slice ia' 0 ic', .slice ta' 0 tc']] (some ⟨w0.heap.size, 0, none⟩) 2 2 (w0.alloc (.cells #[.int .u8 1, .bool ng, .slice A n c, .string ⟨#[]⟩, .int .i64 0, .slice ia 0 ic, .slice ta 0 tc, .int .u8 1, .bool ng', .slice A' n' c', .string ⟨#[]⟩, .int .i64 0, .slice ia' 0 ic', .slice ta' 0 tc'] 26)) (fun _ => True) false (two_reads (Blk.new w0 26 #[.int .u8 1, .bool ng, .slice A n c, .string ⟨#[]⟩, .int .i64 0, .slice ia 0 ic, .slice ta 0 tc, .int .u8 1, .bool ng', .slice A' n' c', .string ⟨#[]⟩, .int .i64 0, .slice ia' 0 ic', .slice ta' 0 tc'])) (two_terms (TermIn.keep (HK0.out.alloc _) (fun _ _ => id) _ _ HHA.out) (TermIn.keep (HK0.out.alloc _) (fun _ _ => id) _ _ HHB.out)) (by omega)).mono ?_
       rintro e w1 ⟨rfl, hk1⟩
       rw [HAR.out]
       have hk1' : Keeps NoB w0 w1 := ((Keeps.refl NoB w0).alloc (.cells #[.int .u8 1, .bool ng, .slice A n c, .string ⟨#[]⟩, .int .i64 0, .slice ia 0 ic, .slice ta 0 tc, .int .u8 1, .bool ng', .slice A' n' c', .string ⟨#[]⟩, .int .i64 0, .slice ia' 0 ic', .slice ta' 0 tc'] 26)).trans' hk1 (fun _ _ => id) (fun _ _ => id)
       have HK1 := hide (HK0.out.trans' hk1' (fun _ _ => id) (fun _ _ => id) : Keeps NoB w w1)
       have HA1 := hide (HA0.out.keep hk1' id); have HB1 := hide (HB0.out.keep hk1' id); have HR1 := hide (HR0.out.keep hk1' id)
       clear hk1 hk1')
    | fail
  clear x0 x1 x2 x3 x4 x5 x6 y0 y1 y2 y3 y4 y5 y6 HK0 HA0 HB0 HR0 HHA HHB HAR
  have HK2 := hide (HK1.out.alloc (.cells #[.int .u8 0, .bool false, .slice none 0 0, .string ⟨#[]⟩, .int .i64 0, .slice none 0 0, .slice none 0 0] 26))
  have HA2 := hide (HA1.out.alloc (.cells #[.int .u8 0, .bool false, .slice none 0 0, .string ⟨#[]⟩, .int .i64 0, .slice none 0 0, .slice none 0 0] 26)); have HB2 := hide (HB1.out.alloc (.cells #[.int .u8 0, .bool false, .slice none 0 0, .string ⟨#[]⟩, .int .i64 0, .slice none 0 0, .slice none 0 0] 26)); have HR2 := hide (HR1.out.alloc (.cells #[.int .u8 0, .bool false, .slice none 0 0, .string ⟨#[]⟩, .int .i64 0, .slice none 0 0, .slice none 0 0] 26)); have HZ2 := hide (Blk.new w1 26 #[.int .u8 0, .bool false, .slice none 0 0, .string ⟨#[]⟩, .int .i64 0, .slice none 0 0, .slice none 0 0])
  have HG := hide (show w.heap.size + 1 + 1 < w1.heap.size from HR1.out.lt)
  go_upto_region 4 with fail
  generalize w1.alloc (.cells #[.int .u8 0, .bool false, .slice none 0 0, .string ⟨#[]⟩, .int .i64 0, .slice none 0 0, .slice none 0 0] 26) = w2 at *
  generalize w1.heap.size = g7 at *
  obtain ⟨x0, x1, x2, x3, x4, x5, x6⟩ := Blk.c7 (show Blk w2 (w.heap.size) _ #[.int .u8 1, .bool ng, .slice A n c, .string ⟨#[]⟩, .int .i64 0, .slice ia 0 ic, .slice ta 0 tc] from HA2.out)
  obtain ⟨y0, y1, y2, y3, y4, y5, y6⟩ := Blk.c7 (show Blk w2 (w.heap.size + 1) _ #[.int .u8 1, .bool ng', .slice A' n' c', .string ⟨#[]⟩, .int .i64 0, .slice ia' 0 ic', .slice ta' 0 tc'] from HB2.out)
  go_upto_region 18 with
    first
    | (go_at_call 77
       refine (times_any ng ng' A A' ia ta ia' ta' n c n' c' ic tc ic' tc' x y w2 B B' (HI.out.keep HK2.out) (HI'.out.keep HK2.out)).mono ?_
       rintro e w3 ⟨kd, ng2, A2, n2, c2, ok, rfl, hak, hk3⟩
       obtain ⟨rfl, rfl, hia⟩ := any_yes hak hz
       have HIA := hide hia
       have HK3 := hide (HK2.out.trans' hk3 (fun _ _ => id) (fun _ _ => id) : Keeps NoB w w3)
       have HZ3 := hide (HZ2.out.keep hk3 id); have HR3 := hide (HR2.out.keep hk3 id)
       have HS3 := hide hk3.size
       have HL2 := hide HZ2.out.lt
       obtain ⟨z0, z1, z2, z3, z4, z5, z6⟩ := Blk.f7 (w := w3) (g := g7) HZ3.out
       obtain ⟨q0, q1, q2, q3, q4, q5, q6⟩ := Blk.c7 (show Blk w3 (g7) _ #[.int .u8 0, .bool false, .slice none 0 0, .string ⟨#[]⟩, .int .i64 0, .slice none 0 0, .slice none 0 0] from HZ3.out)
       clear hak hia hk3)
    | fail
  have HKA := hide (keeps_tput7 w3 g7 (.int .u8 1) (.bool ng2) (.slice A2 n2 c2) (.string ⟨#[]⟩) (.int .i64 0) (.slice none 0 0) (.slice none 0 0))
  have HZ4 := hide (HZ3.out.tput7 (.int .u8 1) (.bool ng2) (.slice A2 n2 c2) (.string ⟨#[]⟩) (.int .i64 0) (.slice none 0 0) (.slice none 0 0)); have HR4 := hide (HR3.out.keep HKA.out (fun e => by have := HG.out; omega))
  have HIA4 := hide (HIA.out.far HKA.out (fun k hk e => by have := HL2.out; omega))
  have HK4 := hide (HK3.out.trans' HKA.out (fun _ _ => id) (fun i hi e => by have := HG.out; omega) : Keeps NoB w _)
  clear z0 z1 z2 z3 z4 z5 z6 q0 q1 q2 q3 q4 q5 q6 HZ3 HR3 HIA HKA HK3
  generalize (((((((w3.setCell ⟨g7, 0, none⟩ (.int .u8 1)).setCell ⟨g7, 1, none⟩ (.bool ng2)).setCell ⟨g7, 2, none⟩ (.slice A2 n2 c2)).setCell ⟨g7, 3, none⟩ (.string ⟨#[]⟩)).setCell ⟨g7, 4, none⟩ (.int .i64 0)).setCell ⟨g7, 5, none⟩ (.slice none 0 0)).setCell ⟨g7, 6, none⟩ (.slice none 0 0)) = w4 at *
  obtain ⟨u0, u1, u2, u3, u4, u5, u6⟩ := Blk.c7 (show Blk w4 (g7) _ #[.int .u8 1, .bool ng2, .slice A2 n2 c2, .string ⟨#[]⟩, .int .i64 0, .slice none 0 0, .slice none 0 0] from HZ4.out)
  go_wp2_with
    first
    | (go_at_call 49
       refine (of_term _ _ _ _ _ _ _ _ _ _ _ _ _ _).mono ?_
       rintro e w5 ⟨rfl, hk5⟩
       have HK5 := hide (HK4.out.trans' hk5 (fun _ _ => id) (fun _ _ => id) : Keeps NoB w w5)
       have HR5 := hide (HR4.out.keep hk5 id)
       have HIA5 := hide (HIA4.out.keep hk5)
       obtain ⟨z0, z1, z2, z3, z4, z5, z6, z7, z8, z9, z10, z11, z12, z13⟩ := Blk.f14 (w := w5) (g := w.heap.size + 1 + 1) HR5.out
       obtain ⟨v0, v1, v2, v3, v4, v5, v6, v7, v8, v9, v10, v11, v12, v13⟩ := Blk.c14 (show Blk w5 (w.heap.size + 1 + 1) _ #[.int .u8 0, .bool false, .slice none 0 0, .string ⟨#[]⟩, .int .i64 0, .slice none 0 0, .slice none 0 0, .int .u8 0, .bool false, .slice none 0 0, .string ⟨#[]⟩, .int .i64 0, .slice none 0 0, .slice none 0 0] from HR5.out)
       clear hk5)
    | fail
  refine bodyPost_ret (results14 Tryz.f47 6 (by kernel_rfl) _ _ _ _ _ _ _ _ _ _ _ _ _ _ _ _ _ rfl (HR5.out.tput14 _ _ _ _ _ _ _ _ _ _ _ _ _ _)) rfl ?_
  have hkt := keeps_tput14 w5 (w.heap.size + 1 + 1) (.int .u8 1) (.bool ng2) (.slice A2 n2 c2) (.string ⟨#[]⟩) (.int .i64 0) (.slice none 0 0) (.slice none 0 0) (.int .u8 0) (.bool false) (.slice none 0 0) (.string ⟨#[]⟩) (.int .i64 0) (.slice none 0 0) (.slice none 0 0)
  exact ⟨1, ng2, A2, n2, c2, ⟨#[]⟩, 0, none, 0, 0, none, 0, 0, 0, false, none, 0, 0, ⟨#[]⟩, 0, none, 0, 0, none, 0, 0, rfl, IA.tm ((HIA5.out.far hkt (fun k (hk : w2.heap.size ≤ k) e => by have := HG.out; have := HL2.out; omega)).more (fun k _ (hk : w2.heap.size ≤ k) => Or.inr (by have := HG.out; have := HL2.out; omega))), flat_in _ _ _ 0 ByteArray.empty 0, HK5.out.trans' hkt (fun _ _ => id) (fun i hi e => by omega)⟩
end Go.Proofs.YthbbalkhmofndaaGreatDoor
namespace Go.Proofs.YthbbalkhmofndaaGreatDoor
open Go.RowKit

set_option maxRecDepth 100000 in
set_option maxHeartbeats 2000000 in
theorem number_div (x y : Int) (hy : y ≠ 0) (a b : Tm) (hka : a.kind = 1) (hkb : b.kind = 1) (ng ng' : Bool) (A A' ia ta ia' ta' : Option Addr) (n c n' c' ic tc ic' tc' : Nat) (w : World) (B B' : Nat → Prop) (ha : TermIn w B false [.int .u8 1, .bool ng, .slice A n c, .string ⟨#[]⟩, .int .i64 0, .slice ia 0 ic, .slice ta 0 tc] a) (hb : TermIn w B' false [.int .u8 1, .bool ng', .slice A' n' c', .string ⟨#[]⟩, .int .i64 0, .slice ia' 0 ic', .slice ta' 0 tc'] b) (h : IA w B ng A n c x) (h' : IA w B' ng' A' n' c' y) :
    Calls Tryz.prog 47 #[.string ⟨#[100, 105, 118]⟩, .agg #[.int .u8 1, .bool ng, .slice A n c, .string ⟨#[]⟩, .int .i64 0, .slice ia 0 ic, .slice ta 0 tc], .agg #[.int .u8 1, .bool ng', .slice A' n' c', .string ⟨#[]⟩, .int .i64 0, .slice ia' 0 ic', .slice ta' 0 tc']] w (ResP 0 w (intTm (x.tdiv y)) zeroT) := by
  have HK0 := hide ((((Keeps.refl NoB w).alloc (.cells #[.int .u8 1, .bool ng, .slice A n c, .string ⟨#[]⟩, .int .i64 0, .slice ia 0 ic, .slice ta 0 tc] 26)).alloc (.cells #[.int .u8 1, .bool ng', .slice A' n' c', .string ⟨#[]⟩, .int .i64 0, .slice ia' 0 ic', .slice ta' 0 tc'] 26)).alloc (.cells #[.int .u8 0, .bool false, .slice none 0 0, .string ⟨#[]⟩, .int .i64 0, .slice none 0 0, .slice none 0 0, .int .u8 0, .bool false, .slice none 0 0, .string ⟨#[]⟩, .int .i64 0, .slice none 0 0, .slice none 0 0] 48))
  have HA0 := hide (three_tblks w 26 26 48 #[.int .u8 1, .bool ng, .slice A n c, .string ⟨#[]⟩, .int .i64 0, .slice ia 0 ic, .slice ta 0 tc] #[.int .u8 1, .bool ng', .slice A' n' c', .string ⟨#[]⟩, .int .i64 0, .slice ia' 0 ic', .slice ta' 0 tc'] #[.int .u8 0, .bool false, .slice none 0 0, .string ⟨#[]⟩, .int .i64 0, .slice none 0 0, .slice none 0 0, .int .u8 0, .bool false, .slice none 0 0, .string ⟨#[]⟩, .int .i64 0, .slice none 0 0, .slice none 0 0]).1; have HB0 := hide (three_tblks w 26 26 48 #[.int .u8 1, .bool ng, .slice A n c, .string ⟨#[]⟩, .int .i64 0, .slice ia 0 ic, .slice ta 0 tc] #[.int .u8 1, .bool ng', .slice A' n' c', .string ⟨#[]⟩, .int .i64 0, .slice ia' 0 ic', .slice ta' 0 tc'] #[.int .u8 0, .bool false, .slice none 0 0, .string ⟨#[]⟩, .int .i64 0, .slice none 0 0, .slice none 0 0, .int .u8 0, .bool false, .slice none 0 0, .string ⟨#[]⟩, .int .i64 0, .slice none 0 0, .slice none 0 0]).2.1; have HR0 := hide (three_tblks w 26 26 48 #[.int .u8 1, .bool ng, .slice A n c, .string ⟨#[]⟩, .int .i64 0, .slice ia 0 ic, .slice ta 0 tc] #[.int .u8 1, .bool ng', .slice A' n' c', .string ⟨#[]⟩, .int .i64 0, .slice ia' 0 ic', .slice ta' 0 tc'] #[.int .u8 0, .bool false, .slice none 0 0, .string ⟨#[]⟩, .int .i64 0, .slice none 0 0, .slice none 0 0, .int .u8 0, .bool false, .slice none 0 0, .string ⟨#[]⟩, .int .i64 0, .slice none 0 0, .slice none 0 0]).2.2
  have HHA := hide (TermIn.more (B' := fun _ => True) (fun _ _ _ => trivial) _ _ ha); have HHB := hide (TermIn.more (B' := fun _ => True) (fun _ _ _ => trivial) _ _ hb); have HI := hide h; have HI' := hide h'
  have HAR := hide (show ([a, b].all (ofK 1)) = true from by simp [ofK, hka, hkb])
  clear ha hb h h' hka hkb
  go_enter Tryz.func47, Tryz.ntmps47
  go_upto_region 1 with fail
  generalize ((w.alloc (.cells #[.int .u8 1, .bool ng, .slice A n c, .string ⟨#[]⟩, .int .i64 0, .slice ia 0 ic, .slice ta 0 tc] 26)).alloc (.cells #[.int .u8 1, .bool ng', .slice A' n' c', .string ⟨#[]⟩, .int .i64 0, .slice ia' 0 ic', .slice ta' 0 tc'] 26)).alloc (.cells #[.int .u8 0, .bool false, .slice none 0 0, .string ⟨#[]⟩, .int .i64 0, .slice none 0 0, .slice none 0 0, .int .u8 0, .bool false, .slice none 0 0, .string ⟨#[]⟩, .int .i64 0, .slice none 0 0, .slice none 0 0] 48) = w0 at *
  obtain ⟨x0, x1, x2, x3, x4, x5, x6⟩ := Blk.c7 (show Blk w0 (w.heap.size) _ #[.int .u8 1, .bool ng, .slice A n c, .string ⟨#[]⟩, .int .i64 0, .slice ia 0 ic, .slice ta 0 tc] from HA0.out)
  obtain ⟨y0, y1, y2, y3, y4, y5, y6⟩ := Blk.c7 (show Blk w0 (w.heap.size + 1) _ #[.int .u8 1, .bool ng', .slice A' n' c', .string ⟨#[]⟩, .int .i64 0, .slice ia' 0 ic', .slice ta' 0 tc'] from HB0.out)
  go_upto_region 3 with
    first
    | (go_at_call 74
       refine (are_any 1 [a, b] [[.int .u8 1, .bool ng, .slice A n c, .string ⟨#[]⟩, .int .i64 0, .slice ia 0 ic, .slice ta 0 tc], [.int .u8 1, .bool ng', .slice A' n' c', .string ⟨#[]⟩, .int .i64 0, .slice ia' 0 ic', .slice ta' 0 tc']] (some ⟨w0.heap.size, 0, none⟩) 2 2 (w0.alloc (.cells #[.int .u8 1, .bool ng, .slice A n c, .string ⟨#[]⟩, .int .i64 0, .slice ia 0 ic, .slice ta 0 tc, .int .u8 1, .bool ng', .slice A' n' c', .string ⟨#[]⟩, .int .i64 0, .slice ia' 0 ic', .slice ta' 0 tc'] 26)) (fun _ => True) false (two_reads (Blk.new w0 26 #[.int .u8 1, .bool ng, .slice A n c, .string ⟨#[]⟩, .int .i64 0, .slice ia 0 ic, .slice ta 0 tc, .int .u8 1, .bool ng', .slice A' n' c', .string ⟨#[]⟩, .int .i64 0, .slice ia' 0 ic', .slice ta' 0 tc'])) (two_terms (TermIn.keep (HK0.out.alloc _) (fun _ _ => id) _ _ HHA.out) (TermIn.keep (HK0.out.alloc _) (fun _ _ => id) _ _ HHB.out)) (by omega)).mono ?_
       rintro e w1 ⟨rfl, hk1⟩
       rw [HAR.out]
       have hk1' : Keeps NoB w0 w1 := ((Keeps.refl NoB w0).alloc (.cells #[.int .u8 1, .bool ng, .slice A n c, .string ⟨#[]⟩, .int .i64 0, .slice ia 0 ic, .slice ta 0 tc, .int .u8 1, .bool ng', .slice A' n' c', .string ⟨#[]⟩, .int .i64 0, .slice ia' 0 ic', .slice ta' 0 tc'] 26)).trans' hk1 (fun _ _ => id) (fun _ _ => id)
       have HK1 := hide (HK0.out.trans' hk1' (fun _ _ => id) (fun _ _ => id) : Keeps NoB w w1)
       have HA1 := hide (HA0.out.keep hk1' id); have HB1 := hide (HB0.out.keep hk1' id); have HR1 := hide (HR0.out.keep hk1' id)
       clear hk1 hk1')
    | fail
  clear x0 x1 x2 x3 x4 x5 x6 y0 y1 y2 y3 y4 y5 y6 HK0 HA0 HB0 HR0 HHA HHB HAR
  have HK2 := hide (HK1.out.alloc (.cells #[.int .u8 0, .bool false, .slice none 0 0, .string ⟨#[]⟩, .int .i64 0, .slice none 0 0, .slice none 0 0] 26))
  have HA2 := hide (HA1.out.alloc (.cells #[.int .u8 0, .bool false, .slice none 0 0, .string ⟨#[]⟩, .int .i64 0, .slice none 0 0, .slice none 0 0] 26)); have HB2 := hide (HB1.out.alloc (.cells #[.int .u8 0, .bool false, .slice none 0 0, .string ⟨#[]⟩, .int .i64 0, .slice none 0 0, .slice none 0 0] 26)); have HR2 := hide (HR1.out.alloc (.cells #[.int .u8 0, .bool false, .slice none 0 0, .string ⟨#[]⟩, .int .i64 0, .slice none 0 0, .slice none 0 0] 26)); have HZ2 := hide (Blk.new w1 26 #[.int .u8 0, .bool false, .slice none 0 0, .string ⟨#[]⟩, .int .i64 0, .slice none 0 0, .slice none 0 0])
  have HG := hide (show w.heap.size + 1 + 1 < w1.heap.size from HR1.out.lt)
  go_upto_region 4 with fail
  generalize w1.alloc (.cells #[.int .u8 0, .bool false, .slice none 0 0, .string ⟨#[]⟩, .int .i64 0, .slice none 0 0, .slice none 0 0] 26) = w2 at *
  generalize w1.heap.size = g7 at *
  obtain ⟨x0, x1, x2, x3, x4, x5, x6⟩ := Blk.c7 (show Blk w2 (w.heap.size) _ #[.int .u8 1, .bool ng, .slice A n c, .string ⟨#[]⟩, .int .i64 0, .slice ia 0 ic, .slice ta 0 tc] from HA2.out)
  obtain ⟨y0, y1, y2, y3, y4, y5, y6⟩ := Blk.c7 (show Blk w2 (w.heap.size + 1) _ #[.int .u8 1, .bool ng', .slice A' n' c', .string ⟨#[]⟩, .int .i64 0, .slice ia' 0 ic', .slice ta' 0 tc'] from HB2.out)
  go_upto_region 7 with
    first
    | (go_at_call 78
       refine (div_any ng ng' A A' ia ta ia' ta' n c n' c' ic tc ic' tc' x y w2 B B' (HI.out.keep HK2.out) (HI'.out.keep HK2.out) hy).mono ?_
       rintro e w3 ⟨ngq, Aq, nq, cq, ngr, Ar, nr, cr, rfl, hiq, hir, hk3⟩
       have HIQ := hide hiq; have HIR := hide hir
       have HK3 := hide (HK2.out.trans' hk3 (fun _ _ => id) (fun _ _ => id) : Keeps NoB w w3); have HR3 := hide (HR2.out.keep hk3 id)
       have HS3 := hide hk3.size
       have HL2 := hide HZ2.out.lt
       clear hiq hir hk3)
    | fail
  have HG3 := hide (show g7 < w3.heap.size ∧ w.heap.size + 1 + 1 < w3.heap.size from by have := HG.out; have := HS3.out; have := HL2.out; omega)
  have HN3 := hide (show Keeps NoB w3 ((w3.alloc (.cells #[.int .u8 1, .bool ngq, .slice Aq nq cq, .string ⟨#[]⟩, .int .i64 0, .slice none 0 0, .slice none 0 0] 26)).alloc (.cells #[.int .u8 1, .bool ngr, .slice Ar nr cr, .string ⟨#[]⟩, .int .i64 0, .slice none 0 0, .slice none 0 0] 26)) from ((Keeps.refl NoB w3).alloc _).alloc _)
  have HQ5 := hide (two_tblks w3 26 26 #[.int .u8 1, .bool ngq, .slice Aq nq cq, .string ⟨#[]⟩, .int .i64 0, .slice none 0 0, .slice none 0 0] #[.int .u8 1, .bool ngr, .slice Ar nr cr, .string ⟨#[]⟩, .int .i64 0, .slice none 0 0, .slice none 0 0]).1; have HE5 := hide (two_tblks w3 26 26 #[.int .u8 1, .bool ngq, .slice Aq nq cq, .string ⟨#[]⟩, .int .i64 0, .slice none 0 0, .slice none 0 0] #[.int .u8 1, .bool ngr, .slice Ar nr cr, .string ⟨#[]⟩, .int .i64 0, .slice none 0 0, .slice none 0 0]).2
  have HR5 := hide (HR3.out.keep HN3.out id)
  have HIW5 := hide ((HIQ.out.more (B' := fun k => w2.heap.size ≤ k ∧ k < w3.heap.size) (fun k h1 h2 => ⟨h2, h1⟩)).keep HN3.out)
  have HK5 := hide (HK3.out.trans' HN3.out (fun _ _ => id) (fun _ _ => id) : Keeps NoB w _)
  clear HIQ HIR HR3 HK3 HN3
  generalize (w3.alloc (.cells #[.int .u8 1, .bool ngq, .slice Aq nq cq, .string ⟨#[]⟩, .int .i64 0, .slice none 0 0, .slice none 0 0] 26)).alloc (.cells #[.int .u8 1, .bool ngr, .slice Ar nr cr, .string ⟨#[]⟩, .int .i64 0, .slice none 0 0, .slice none 0 0] 26) = w5 at *
  obtain ⟨u0, u1, u2, u3, u4, u5, u6⟩ := Blk.c7 (show Blk w5 (w3.heap.size) _ #[.int .u8 1, .bool ngq, .slice Aq nq cq, .string ⟨#[]⟩, .int .i64 0, .slice none 0 0, .slice none 0 0] from HQ5.out)
  obtain ⟨t0, t1, t2, t3, t4, t5, t6⟩ := Blk.c7 (show Blk w5 (w3.heap.size + 1) _ #[.int .u8 1, .bool ngr, .slice Ar nr cr, .string ⟨#[]⟩, .int .i64 0, .slice none 0 0, .slice none 0 0] from HE5.out)
  go_wp2_with
    first
    | (go_at_call 49
       refine (of_term _ _ _ _ _ _ _ _ _ _ _ _ _ _).mono ?_
       rintro e w6 ⟨rfl, hk6⟩
       have HK6 := hide (HK5.out.trans' hk6 (fun _ _ => id) (fun _ _ => id) : Keeps NoB w w6)
       have HR6 := hide (HR5.out.keep hk6 id)
       have HIW6 := hide (HIW5.out.keep hk6)
       obtain ⟨z0, z1, z2, z3, z4, z5, z6, z7, z8, z9, z10, z11, z12, z13⟩ := Blk.f14 (w := w6) (g := w.heap.size + 1 + 1) HR6.out
       obtain ⟨v0, v1, v2, v3, v4, v5, v6, v7, v8, v9, v10, v11, v12, v13⟩ := Blk.c14 (show Blk w6 (w.heap.size + 1 + 1) _ #[.int .u8 0, .bool false, .slice none 0 0, .string ⟨#[]⟩, .int .i64 0, .slice none 0 0, .slice none 0 0, .int .u8 0, .bool false, .slice none 0 0, .string ⟨#[]⟩, .int .i64 0, .slice none 0 0, .slice none 0 0] from HR6.out)
       clear hk6)
    | fail
  refine bodyPost_ret (results14 Tryz.f47 6 (by kernel_rfl) _ _ _ _ _ _ _ _ _ _ _ _ _ _ _ _ _ rfl (HR6.out.tput14 _ _ _ _ _ _ _ _ _ _ _ _ _ _)) rfl ?_
  have hkt := keeps_tput14 w6 (w.heap.size + 1 + 1) (.int .u8 1) (.bool ngq) (.slice Aq nq cq) (.string ⟨#[]⟩) (.int .i64 0) (.slice none 0 0) (.slice none 0 0) (.int .u8 0) (.bool false) (.slice none 0 0) (.string ⟨#[]⟩) (.int .i64 0) (.slice none 0 0) (.slice none 0 0)
  exact ⟨1, ngq, Aq, nq, cq, ⟨#[]⟩, 0, none, 0, 0, none, 0, 0, 0, false, none, 0, 0, ⟨#[]⟩, 0, none, 0, 0, none, 0, 0, rfl, IA.tm ((HIW6.out.far hkt (fun k hk e => by have := HG.out; have := HL2.out; have := hk.1; omega)).more (fun k _ hk => Or.inr (by have := HG.out; have := HL2.out; have := hk.1; omega))), flat_in _ _ _ 0 ByteArray.empty 0, HK6.out.trans' hkt (fun _ _ => id) (fun i hi e => by omega)⟩
set_option maxRecDepth 100000 in
set_option maxHeartbeats 2000000 in
theorem number_rem (x y : Int) (hy : y ≠ 0) (a b : Tm) (hka : a.kind = 1) (hkb : b.kind = 1) (ng ng' : Bool) (A A' ia ta ia' ta' : Option Addr) (n c n' c' ic tc ic' tc' : Nat) (w : World) (B B' : Nat → Prop) (ha : TermIn w B false [.int .u8 1, .bool ng, .slice A n c, .string ⟨#[]⟩, .int .i64 0, .slice ia 0 ic, .slice ta 0 tc] a) (hb : TermIn w B' false [.int .u8 1, .bool ng', .slice A' n' c', .string ⟨#[]⟩, .int .i64 0, .slice ia' 0 ic', .slice ta' 0 tc'] b) (h : IA w B ng A n c x) (h' : IA w B' ng' A' n' c' y) :
    Calls Tryz.prog 47 #[.string ⟨#[114, 101, 109]⟩, .agg #[.int .u8 1, .bool ng, .slice A n c, .string ⟨#[]⟩, .int .i64 0, .slice ia 0 ic, .slice ta 0 tc], .agg #[.int .u8 1, .bool ng', .slice A' n' c', .string ⟨#[]⟩, .int .i64 0, .slice ia' 0 ic', .slice ta' 0 tc']] w (ResP 0 w (intTm (x.tmod y)) zeroT) := by
  have HK0 := hide ((((Keeps.refl NoB w).alloc (.cells #[.int .u8 1, .bool ng, .slice A n c, .string ⟨#[]⟩, .int .i64 0, .slice ia 0 ic, .slice ta 0 tc] 26)).alloc (.cells #[.int .u8 1, .bool ng', .slice A' n' c', .string ⟨#[]⟩, .int .i64 0, .slice ia' 0 ic', .slice ta' 0 tc'] 26)).alloc (.cells #[.int .u8 0, .bool false, .slice none 0 0, .string ⟨#[]⟩, .int .i64 0, .slice none 0 0, .slice none 0 0, .int .u8 0, .bool false, .slice none 0 0, .string ⟨#[]⟩, .int .i64 0, .slice none 0 0, .slice none 0 0] 48))
  have HA0 := hide (three_tblks w 26 26 48 #[.int .u8 1, .bool ng, .slice A n c, .string ⟨#[]⟩, .int .i64 0, .slice ia 0 ic, .slice ta 0 tc] #[.int .u8 1, .bool ng', .slice A' n' c', .string ⟨#[]⟩, .int .i64 0, .slice ia' 0 ic', .slice ta' 0 tc'] #[.int .u8 0, .bool false, .slice none 0 0, .string ⟨#[]⟩, .int .i64 0, .slice none 0 0, .slice none 0 0, .int .u8 0, .bool false, .slice none 0 0, .string ⟨#[]⟩, .int .i64 0, .slice none 0 0, .slice none 0 0]).1; have HB0 := hide (three_tblks w 26 26 48 #[.int .u8 1, .bool ng, .slice A n c, .string ⟨#[]⟩, .int .i64 0, .slice ia 0 ic, .slice ta 0 tc] #[.int .u8 1, .bool ng', .slice A' n' c', .string ⟨#[]⟩, .int .i64 0, .slice ia' 0 ic', .slice ta' 0 tc'] #[.int .u8 0, .bool false, .slice none 0 0, .string ⟨#[]⟩, .int .i64 0, .slice none 0 0, .slice none 0 0, .int .u8 0, .bool false, .slice none 0 0, .string ⟨#[]⟩, .int .i64 0, .slice none 0 0, .slice none 0 0]).2.1; have HR0 := hide (three_tblks w 26 26 48 #[.int .u8 1, .bool ng, .slice A n c, .string ⟨#[]⟩, .int .i64 0, .slice ia 0 ic, .slice ta 0 tc] #[.int .u8 1, .bool ng', .slice A' n' c', .string ⟨#[]⟩, .int .i64 0, .slice ia' 0 ic', .slice ta' 0 tc'] #[.int .u8 0, .bool false, .slice none 0 0, .string ⟨#[]⟩, .int .i64 0, .slice none 0 0, .slice none 0 0, .int .u8 0, .bool false, .slice none 0 0, .string ⟨#[]⟩, .int .i64 0, .slice none 0 0, .slice none 0 0]).2.2
  have HHA := hide (TermIn.more (B' := fun _ => True) (fun _ _ _ => trivial) _ _ ha); have HHB := hide (TermIn.more (B' := fun _ => True) (fun _ _ _ => trivial) _ _ hb); have HI := hide h; have HI' := hide h'
  have HAR := hide (show ([a, b].all (ofK 1)) = true from by simp [ofK, hka, hkb])
  clear ha hb h h' hka hkb
  go_enter Tryz.func47, Tryz.ntmps47
  go_upto_region 1 with fail
  generalize ((w.alloc (.cells #[.int .u8 1, .bool ng, .slice A n c, .string ⟨#[]⟩, .int .i64 0, .slice ia 0 ic, .slice ta 0 tc] 26)).alloc (.cells #[.int .u8 1, .bool ng', .slice A' n' c', .string ⟨#[]⟩, .int .i64 0, .slice ia' 0 ic', .slice ta' 0 tc'] 26)).alloc (.cells #[.int .u8 0, .bool false, .slice none 0 0, .string ⟨#[]⟩, .int .i64 0, .slice none 0 0, .slice none 0 0, .int .u8 0, .bool false, .slice none 0 0, .string ⟨#[]⟩, .int .i64 0, .slice none 0 0, .slice none 0 0] 48) = w0 at *
  obtain ⟨x0, x1, x2, x3, x4, x5, x6⟩ := Blk.c7 (show Blk w0 (w.heap.size) _ #[.int .u8 1, .bool ng, .slice A n c, .string ⟨#[]⟩, .int .i64 0, .slice ia 0 ic, .slice ta 0 tc] from HA0.out)
  obtain ⟨y0, y1, y2, y3, y4, y5, y6⟩ := Blk.c7 (show Blk w0 (w.heap.size + 1) _ #[.int .u8 1, .bool ng', .slice A' n' c', .string ⟨#[]⟩, .int .i64 0, .slice ia' 0 ic', .slice ta' 0 tc'] from HB0.out)
  go_upto_region 3 with
    first
    | (go_at_call 74
       refine (are_any 1 [a, b] [[.int .u8 1, .bool ng, .slice A n c, .string ⟨#[]⟩, .int .i64 0, .slice ia 0 ic, .slice ta 0 tc], [.int .u8 1, .bool ng', .slice A' n' c', .string ⟨#[]⟩, .int .i64 0, .slice ia' 0 ic', .slice ta' 0 tc']] (some ⟨w0.heap.size, 0, none⟩) 2 2 (w0.alloc (.cells #[.int .u8 1, .bool ng, .slice A n c, .string ⟨#[]⟩, .int .i64 0, .slice ia 0 ic, .slice ta 0 tc, .int .u8 1, .bool ng', .slice A' n' c', .string ⟨#[]⟩, .int .i64 0, .slice ia' 0 ic', .slice ta' 0 tc'] 26)) (fun _ => True) false (two_reads (Blk.new w0 26 #[.int .u8 1, .bool ng, .slice A n c, .string ⟨#[]⟩, .int .i64 0, .slice ia 0 ic, .slice ta 0 tc, .int .u8 1, .bool ng', .slice A' n' c', .string ⟨#[]⟩, .int .i64 0, .slice ia' 0 ic', .slice ta' 0 tc'])) (two_terms (TermIn.keep (HK0.out.alloc _) (fun _ _ => id) _ _ HHA.out) (TermIn.keep (HK0.out.alloc _) (fun _ _ => id) _ _ HHB.out)) (by omega)).mono ?_
       rintro e w1 ⟨rfl, hk1⟩
       rw [HAR.out]
       have hk1' : Keeps NoB w0 w1 := ((Keeps.refl NoB w0).alloc (.cells #[.int .u8 1, .bool ng, .slice A n c, .string ⟨#[]⟩, .int .i64 0, .slice ia 0 ic, .slice ta 0 tc, .int .u8 1, .bool ng', .slice A' n' c', .string ⟨#[]⟩, .int .i64 0, .slice ia' 0 ic', .slice ta' 0 tc'] 26)).trans' hk1 (fun _ _ => id) (fun _ _ => id)
       have HK1 := hide (HK0.out.trans' hk1' (fun _ _ => id) (fun _ _ => id) : Keeps NoB w w1)
       have HA1 := hide (HA0.out.keep hk1' id); have HB1 := hide (HB0.out.keep hk1' id); have HR1 := hide (HR0.out.keep hk1' id)
       clear hk1 hk1')
    | fail
  clear x0 x1 x2 x3 x4 x5 x6 y0 y1 y2 y3 y4 y5 y6 HK0 HA0 HB0 HR0 HHA HHB HAR
  have HK2 := hide (HK1.out.alloc (.cells #[.int .u8 0, .bool false, .slice none 0 0, .string ⟨#[]⟩, .int .i64 0, .slice none 0 0, .slice none 0 0] 26))
  have HA2 := hide (HA1.out.alloc (.cells #[.int .u8 0, .bool false, .slice none 0 0, .string ⟨#[]⟩, .int .i64 0, .slice none 0 0, .slice none 0 0] 26)); have HB2 := hide (HB1.out.alloc (.cells #[.int .u8 0, .bool false, .slice none 0 0, .string ⟨#[]⟩, .int .i64 0, .slice none 0 0, .slice none 0 0] 26)); have HR2 := hide (HR1.out.alloc (.cells #[.int .u8 0, .bool false, .slice none 0 0, .string ⟨#[]⟩, .int .i64 0, .slice none 0 0, .slice none 0 0] 26)); have HZ2 := hide (Blk.new w1 26 #[.int .u8 0, .bool false, .slice none 0 0, .string ⟨#[]⟩, .int .i64 0, .slice none 0 0, .slice none 0 0])
  have HG := hide (show w.heap.size + 1 + 1 < w1.heap.size from HR1.out.lt)
  go_upto_region 4 with fail
  generalize w1.alloc (.cells #[.int .u8 0, .bool false, .slice none 0 0, .string ⟨#[]⟩, .int .i64 0, .slice none 0 0, .slice none 0 0] 26) = w2 at *
  generalize w1.heap.size = g7 at *
  obtain ⟨x0, x1, x2, x3, x4, x5, x6⟩ := Blk.c7 (show Blk w2 (w.heap.size) _ #[.int .u8 1, .bool ng, .slice A n c, .string ⟨#[]⟩, .int .i64 0, .slice ia 0 ic, .slice ta 0 tc] from HA2.out)
  obtain ⟨y0, y1, y2, y3, y4, y5, y6⟩ := Blk.c7 (show Blk w2 (w.heap.size + 1) _ #[.int .u8 1, .bool ng', .slice A' n' c', .string ⟨#[]⟩, .int .i64 0, .slice ia' 0 ic', .slice ta' 0 tc'] from HB2.out)
  go_upto_region 7 with
    first
    | (go_at_call 78
       refine (div_any ng ng' A A' ia ta ia' ta' n c n' c' ic tc ic' tc' x y w2 B B' (HI.out.keep HK2.out) (HI'.out.keep HK2.out) hy).mono ?_
       rintro e w3 ⟨ngq, Aq, nq, cq, ngr, Ar, nr, cr, rfl, hiq, hir, hk3⟩
       have HIQ := hide hiq; have HIR := hide hir
       have HK3 := hide (HK2.out.trans' hk3 (fun _ _ => id) (fun _ _ => id) : Keeps NoB w w3); have HR3 := hide (HR2.out.keep hk3 id)
       have HS3 := hide hk3.size
       have HL2 := hide HZ2.out.lt
       clear hiq hir hk3)
    | fail
  have HG3 := hide (show g7 < w3.heap.size ∧ w.heap.size + 1 + 1 < w3.heap.size from by have := HG.out; have := HS3.out; have := HL2.out; omega)
  have HN3 := hide (show Keeps NoB w3 ((w3.alloc (.cells #[.int .u8 1, .bool ngq, .slice Aq nq cq, .string ⟨#[]⟩, .int .i64 0, .slice none 0 0, .slice none 0 0] 26)).alloc (.cells #[.int .u8 1, .bool ngr, .slice Ar nr cr, .string ⟨#[]⟩, .int .i64 0, .slice none 0 0, .slice none 0 0] 26)) from ((Keeps.refl NoB w3).alloc _).alloc _)
  have HQ5 := hide (two_tblks w3 26 26 #[.int .u8 1, .bool ngq, .slice Aq nq cq, .string ⟨#[]⟩, .int .i64 0, .slice none 0 0, .slice none 0 0] #[.int .u8 1, .bool ngr, .slice Ar nr cr, .string ⟨#[]⟩, .int .i64 0, .slice none 0 0, .slice none 0 0]).1; have HE5 := hide (two_tblks w3 26 26 #[.int .u8 1, .bool ngq, .slice Aq nq cq, .string ⟨#[]⟩, .int .i64 0, .slice none 0 0, .slice none 0 0] #[.int .u8 1, .bool ngr, .slice Ar nr cr, .string ⟨#[]⟩, .int .i64 0, .slice none 0 0, .slice none 0 0]).2
  have HR5 := hide (HR3.out.keep HN3.out id)
  have HIW5 := hide ((HIR.out.more (B' := fun k => w2.heap.size ≤ k ∧ k < w3.heap.size) (fun k h1 h2 => ⟨h2, h1⟩)).keep HN3.out)
  have HK5 := hide (HK3.out.trans' HN3.out (fun _ _ => id) (fun _ _ => id) : Keeps NoB w _)
  clear HIQ HIR HR3 HK3 HN3
  generalize (w3.alloc (.cells #[.int .u8 1, .bool ngq, .slice Aq nq cq, .string ⟨#[]⟩, .int .i64 0, .slice none 0 0, .slice none 0 0] 26)).alloc (.cells #[.int .u8 1, .bool ngr, .slice Ar nr cr, .string ⟨#[]⟩, .int .i64 0, .slice none 0 0, .slice none 0 0] 26) = w5 at *
  obtain ⟨u0, u1, u2, u3, u4, u5, u6⟩ := Blk.c7 (show Blk w5 (w3.heap.size) _ #[.int .u8 1, .bool ngq, .slice Aq nq cq, .string ⟨#[]⟩, .int .i64 0, .slice none 0 0, .slice none 0 0] from HQ5.out)
  obtain ⟨t0, t1, t2, t3, t4, t5, t6⟩ := Blk.c7 (show Blk w5 (w3.heap.size + 1) _ #[.int .u8 1, .bool ngr, .slice Ar nr cr, .string ⟨#[]⟩, .int .i64 0, .slice none 0 0, .slice none 0 0] from HE5.out)
  go_wp2_with
    first
    | (go_at_call 49
       refine (of_term _ _ _ _ _ _ _ _ _ _ _ _ _ _).mono ?_
       rintro e w6 ⟨rfl, hk6⟩
       have HK6 := hide (HK5.out.trans' hk6 (fun _ _ => id) (fun _ _ => id) : Keeps NoB w w6)
       have HR6 := hide (HR5.out.keep hk6 id)
       have HIW6 := hide (HIW5.out.keep hk6)
       obtain ⟨z0, z1, z2, z3, z4, z5, z6, z7, z8, z9, z10, z11, z12, z13⟩ := Blk.f14 (w := w6) (g := w.heap.size + 1 + 1) HR6.out
       obtain ⟨v0, v1, v2, v3, v4, v5, v6, v7, v8, v9, v10, v11, v12, v13⟩ := Blk.c14 (show Blk w6 (w.heap.size + 1 + 1) _ #[.int .u8 0, .bool false, .slice none 0 0, .string ⟨#[]⟩, .int .i64 0, .slice none 0 0, .slice none 0 0, .int .u8 0, .bool false, .slice none 0 0, .string ⟨#[]⟩, .int .i64 0, .slice none 0 0, .slice none 0 0] from HR6.out)
       clear hk6)
    | fail
  refine bodyPost_ret (results14 Tryz.f47 6 (by kernel_rfl) _ _ _ _ _ _ _ _ _ _ _ _ _ _ _ _ _ rfl (HR6.out.tput14 _ _ _ _ _ _ _ _ _ _ _ _ _ _)) rfl ?_
  have hkt := keeps_tput14 w6 (w.heap.size + 1 + 1) (.int .u8 1) (.bool ngr) (.slice Ar nr cr) (.string ⟨#[]⟩) (.int .i64 0) (.slice none 0 0) (.slice none 0 0) (.int .u8 0) (.bool false) (.slice none 0 0) (.string ⟨#[]⟩) (.int .i64 0) (.slice none 0 0) (.slice none 0 0)
  exact ⟨1, ngr, Ar, nr, cr, ⟨#[]⟩, 0, none, 0, 0, none, 0, 0, 0, false, none, 0, 0, ⟨#[]⟩, 0, none, 0, 0, none, 0, 0, rfl, IA.tm ((HIW6.out.far hkt (fun k hk e => by have := HG.out; have := HL2.out; have := hk.1; omega)).more (fun k _ hk => Or.inr (by have := HG.out; have := HL2.out; have := hk.1; omega))), flat_in _ _ _ 0 ByteArray.empty 0, HK6.out.trans' hkt (fun _ _ => id) (fun i hi e => by omega)⟩
end Go.Proofs.YthbbalkhmofndaaGreatDoor
namespace Go.Proofs.YthbbalkhmofndaaGreatDoor
open Go.RowKit

set_option maxRecDepth 100000 in
set_option maxHeartbeats 2000000 in
theorem number_div_zero (x y : Int) (a b : Tm) (hka : a.kind = 1) (hkb : b.kind = 1) (ng ng' : Bool) (A A' ia ta ia' ta' : Option Addr) (n c n' c' ic tc ic' tc' : Nat) (w : World) (B B' : Nat → Prop) (ha : TermIn w B false [.int .u8 1, .bool ng, .slice A n c, .string ⟨#[]⟩, .int .i64 0, .slice ia 0 ic, .slice ta 0 tc] a) (hb : TermIn w B' false [.int .u8 1, .bool ng', .slice A' n' c', .string ⟨#[]⟩, .int .i64 0, .slice ia' 0 ic', .slice ta' 0 tc'] b) (h : IA w B ng A n c x) (h' : IA w B' ng' A' n' c' y) (hn0 : n' = 0) :
    Calls Tryz.prog 47 #[.string ⟨#[100, 105, 118]⟩, .agg #[.int .u8 1, .bool ng, .slice A n c, .string ⟨#[]⟩, .int .i64 0, .slice ia 0 ic, .slice ta 0 tc], .agg #[.int .u8 1, .bool ng', .slice A' n' c', .string ⟨#[]⟩, .int .i64 0, .slice ia' 0 ic', .slice ta' 0 tc']] w (ResP 0 w zeroT (errT ⟨#[98, 97, 100, 97, 114, 105, 116, 104]⟩)) := by
  have HK0 := hide ((((Keeps.refl NoB w).alloc (.cells #[.int .u8 1, .bool ng, .slice A n c, .string ⟨#[]⟩, .int .i64 0, .slice ia 0 ic, .slice ta 0 tc] 26)).alloc (.cells #[.int .u8 1, .bool ng', .slice A' n' c', .string ⟨#[]⟩, .int .i64 0, .slice ia' 0 ic', .slice ta' 0 tc'] 26)).alloc (.cells #[.int .u8 0, .bool false, .slice none 0 0, .string ⟨#[]⟩, .int .i64 0, .slice none 0 0, .slice none 0 0, .int .u8 0, .bool false, .slice none 0 0, .string ⟨#[]⟩, .int .i64 0, .slice none 0 0, .slice none 0 0] 48))
  have HA0 := hide (three_tblks w 26 26 48 #[.int .u8 1, .bool ng, .slice A n c, .string ⟨#[]⟩, .int .i64 0, .slice ia 0 ic, .slice ta 0 tc] #[.int .u8 1, .bool ng', .slice A' n' c', .string ⟨#[]⟩, .int .i64 0, .slice ia' 0 ic', .slice ta' 0 tc'] #[.int .u8 0, .bool false, .slice none 0 0, .string ⟨#[]⟩, .int .i64 0, .slice none 0 0, .slice none 0 0, .int .u8 0, .bool false, .slice none 0 0, .string ⟨#[]⟩, .int .i64 0, .slice none 0 0, .slice none 0 0]).1; have HB0 := hide (three_tblks w 26 26 48 #[.int .u8 1, .bool ng, .slice A n c, .string ⟨#[]⟩, .int .i64 0, .slice ia 0 ic, .slice ta 0 tc] #[.int .u8 1, .bool ng', .slice A' n' c', .string ⟨#[]⟩, .int .i64 0, .slice ia' 0 ic', .slice ta' 0 tc'] #[.int .u8 0, .bool false, .slice none 0 0, .string ⟨#[]⟩, .int .i64 0, .slice none 0 0, .slice none 0 0, .int .u8 0, .bool false, .slice none 0 0, .string ⟨#[]⟩, .int .i64 0, .slice none 0 0, .slice none 0 0]).2.1; have HR0 := hide (three_tblks w 26 26 48 #[.int .u8 1, .bool ng, .slice A n c, .string ⟨#[]⟩, .int .i64 0, .slice ia 0 ic, .slice ta 0 tc] #[.int .u8 1, .bool ng', .slice A' n' c', .string ⟨#[]⟩, .int .i64 0, .slice ia' 0 ic', .slice ta' 0 tc'] #[.int .u8 0, .bool false, .slice none 0 0, .string ⟨#[]⟩, .int .i64 0, .slice none 0 0, .slice none 0 0, .int .u8 0, .bool false, .slice none 0 0, .string ⟨#[]⟩, .int .i64 0, .slice none 0 0, .slice none 0 0]).2.2
  have HHA := hide (TermIn.more (B' := fun _ => True) (fun _ _ _ => trivial) _ _ ha); have HHB := hide (TermIn.more (B' := fun _ => True) (fun _ _ _ => trivial) _ _ hb); have HI := hide h; have HI' := hide h'
  have HAR := hide (show ([a, b].all (ofK 1)) = true from by simp [ofK, hka, hkb])
  clear ha hb h h' hka hkb
  subst hn0
  go_enter Tryz.func47, Tryz.ntmps47
  go_upto_region 1 with fail
  generalize ((w.alloc (.cells #[.int .u8 1, .bool ng, .slice A n c, .string ⟨#[]⟩, .int .i64 0, .slice ia 0 ic, .slice ta 0 tc] 26)).alloc (.cells #[.int .u8 1, .bool ng', .slice A' 0 c', .string ⟨#[]⟩, .int .i64 0, .slice ia' 0 ic', .slice ta' 0 tc'] 26)).alloc (.cells #[.int .u8 0, .bool false, .slice none 0 0, .string ⟨#[]⟩, .int .i64 0, .slice none 0 0, .slice none 0 0, .int .u8 0, .bool false, .slice none 0 0, .string ⟨#[]⟩, .int .i64 0, .slice none 0 0, .slice none 0 0] 48) = w0 at *
  obtain ⟨x0, x1, x2, x3, x4, x5, x6⟩ := Blk.c7 (show Blk w0 (w.heap.size) _ #[.int .u8 1, .bool ng, .slice A n c, .string ⟨#[]⟩, .int .i64 0, .slice ia 0 ic, .slice ta 0 tc] from HA0.out)
  obtain ⟨y0, y1, y2, y3, y4, y5, y6⟩ := Blk.c7 (show Blk w0 (w.heap.size + 1) _ #[.int .u8 1, .bool ng', .slice A' 0 c', .string ⟨#[]⟩, .int .i64 0, .slice ia' 0 ic', .slice ta' 0 tc'] from HB0.out)
  go_upto_region 3 with
    first
    | (go_at_call 74
       refine (are_any 1 [a, b] [[.int .u8 1, .bool ng, .slice A n c, .string ⟨#[]⟩, .int .i64 0, .slice ia 0 ic, .slice ta 0 tc], [.int .u8 1, .bool ng', .slice A' 0 c', .string ⟨#[]⟩, .int .i64 0, .slice ia' 0 ic', .slice ta' 0 tc']] (some ⟨w0.heap.size, 0, none⟩) 2 2 (w0.alloc (.cells #[.int .u8 1, .bool ng, .slice A n c, .string ⟨#[]⟩, .int .i64 0, .slice ia 0 ic, .slice ta 0 tc, .int .u8 1, .bool ng', .slice A' 0 c', .string ⟨#[]⟩, .int .i64 0, .slice ia' 0 ic', .slice ta' 0 tc'] 26)) (fun _ => True) false (two_reads (Blk.new w0 26 #[.int .u8 1, .bool ng, .slice A n c, .string ⟨#[]⟩, .int .i64 0, .slice ia 0 ic, .slice ta 0 tc, .int .u8 1, .bool ng', .slice A' 0 c', .string ⟨#[]⟩, .int .i64 0, .slice ia' 0 ic', .slice ta' 0 tc'])) (two_terms (TermIn.keep (HK0.out.alloc _) (fun _ _ => id) _ _ HHA.out) (TermIn.keep (HK0.out.alloc _) (fun _ _ => id) _ _ HHB.out)) (by omega)).mono ?_
       rintro e w1 ⟨rfl, hk1⟩
       rw [HAR.out]
       have hk1' : Keeps NoB w0 w1 := ((Keeps.refl NoB w0).alloc (.cells #[.int .u8 1, .bool ng, .slice A n c, .string ⟨#[]⟩, .int .i64 0, .slice ia 0 ic, .slice ta 0 tc, .int .u8 1, .bool ng', .slice A' 0 c', .string ⟨#[]⟩, .int .i64 0, .slice ia' 0 ic', .slice ta' 0 tc'] 26)).trans' hk1 (fun _ _ => id) (fun _ _ => id)
       have HK1 := hide (HK0.out.trans' hk1' (fun _ _ => id) (fun _ _ => id) : Keeps NoB w w1)
       have HA1 := hide (HA0.out.keep hk1' id); have HB1 := hide (HB0.out.keep hk1' id); have HR1 := hide (HR0.out.keep hk1' id)
       clear hk1 hk1')
    | fail
  clear x0 x1 x2 x3 x4 x5 x6 y0 y1 y2 y3 y4 y5 y6 HK0 HA0 HB0 HR0 HHA HHB HAR
  have HK2 := hide (HK1.out.alloc (.cells #[.int .u8 0, .bool false, .slice none 0 0, .string ⟨#[]⟩, .int .i64 0, .slice none 0 0, .slice none 0 0] 26))
  have HA2 := hide (HA1.out.alloc (.cells #[.int .u8 0, .bool false, .slice none 0 0, .string ⟨#[]⟩, .int .i64 0, .slice none 0 0, .slice none 0 0] 26)); have HB2 := hide (HB1.out.alloc (.cells #[.int .u8 0, .bool false, .slice none 0 0, .string ⟨#[]⟩, .int .i64 0, .slice none 0 0, .slice none 0 0] 26)); have HR2 := hide (HR1.out.alloc (.cells #[.int .u8 0, .bool false, .slice none 0 0, .string ⟨#[]⟩, .int .i64 0, .slice none 0 0, .slice none 0 0] 26)); have HZ2 := hide (Blk.new w1 26 #[.int .u8 0, .bool false, .slice none 0 0, .string ⟨#[]⟩, .int .i64 0, .slice none 0 0, .slice none 0 0])
  have HG := hide (show w.heap.size + 1 + 1 < w1.heap.size from HR1.out.lt)
  go_upto_region 4 with fail
  generalize w1.alloc (.cells #[.int .u8 0, .bool false, .slice none 0 0, .string ⟨#[]⟩, .int .i64 0, .slice none 0 0, .slice none 0 0] 26) = w2 at *
  generalize w1.heap.size = g7 at *
  obtain ⟨x0, x1, x2, x3, x4, x5, x6⟩ := Blk.c7 (show Blk w2 (w.heap.size) _ #[.int .u8 1, .bool ng, .slice A n c, .string ⟨#[]⟩, .int .i64 0, .slice ia 0 ic, .slice ta 0 tc] from HA2.out)
  obtain ⟨y0, y1, y2, y3, y4, y5, y6⟩ := Blk.c7 (show Blk w2 (w.heap.size + 1) _ #[.int .u8 1, .bool ng', .slice A' 0 c', .string ⟨#[]⟩, .int .i64 0, .slice ia' 0 ic', .slice ta' 0 tc'] from HB2.out)
  go_upto_region 7 with
    first
    | (go_at_call 78
       refine (div_zero ((HI.out.keep HK2.out).term ia ta ic tc) (HI'.out.keep HK2.out)).mono ?_
       rintro e w3 ⟨rfl, hk3⟩
       have HK3 := hide (HK2.out.trans' hk3 (fun _ _ => id) (fun _ _ => id) : Keeps NoB w w3); have HR3 := hide (HR2.out.keep hk3 id)
       have HS3 := hide hk3.size
       have HL2 := hide HZ2.out.lt
       clear hk3)
    | fail
  have HG3 := hide (show g7 < w3.heap.size ∧ w.heap.size + 1 + 1 < w3.heap.size from by have := HG.out; have := HS3.out; have := HL2.out; omega)
  have HN3 := hide (show Keeps NoB w3 ((w3.alloc (.cells #[.int .u8 0, .bool false, .slice none 0 0, .string ⟨#[]⟩, .int .i64 0, .slice none 0 0, .slice none 0 0] 26)).alloc (.cells #[.int .u8 0, .bool false, .slice none 0 0, .string ⟨#[]⟩, .int .i64 0, .slice none 0 0, .slice none 0 0] 26)) from ((Keeps.refl NoB w3).alloc _).alloc _)
  have HR5 := hide (HR3.out.keep HN3.out id)
  have HK5 := hide (HK3.out.trans' HN3.out (fun _ _ => id) (fun _ _ => id) : Keeps NoB w _)
  clear HR3 HK3 HN3
  generalize (w3.alloc (.cells #[.int .u8 0, .bool false, .slice none 0 0, .string ⟨#[]⟩, .int .i64 0, .slice none 0 0, .slice none 0 0] 26)).alloc (.cells #[.int .u8 0, .bool false, .slice none 0 0, .string ⟨#[]⟩, .int .i64 0, .slice none 0 0, .slice none 0 0] 26) = w5 at *
  go_wp2_with
    first
    | (go_at_call 27
       refine (bad_any ⟨#[98, 97, 100, 97, 114, 105, 116, 104]⟩ w5).mono ?_
       rintro e w6 ⟨g, rfl, hg6, hb6, hk6⟩
       have HK6 := hide (HK5.out.trans' hk6 (fun _ _ => id) (fun _ _ => id) : Keeps NoB w w6)
       have HR6 := hide (HR5.out.keep hk6 id)
       have HN6 := hide hb6
       have HG6 := hide (show w.heap.size + 1 + 1 < g from Nat.lt_of_lt_of_le HR5.out.lt hg6)
       obtain ⟨z0, z1, z2, z3, z4, z5, z6, z7, z8, z9, z10, z11, z12, z13⟩ := Blk.f14 (w := w6) (g := w.heap.size + 1 + 1) HR6.out
       obtain ⟨v0, v1, v2, v3, v4, v5, v6, v7, v8, v9, v10, v11, v12, v13⟩ := Blk.c14 (show Blk w6 (w.heap.size + 1 + 1) _ #[.int .u8 0, .bool false, .slice none 0 0, .string ⟨#[]⟩, .int .i64 0, .slice none 0 0, .slice none 0 0, .int .u8 0, .bool false, .slice none 0 0, .string ⟨#[]⟩, .int .i64 0, .slice none 0 0, .slice none 0 0] from HR6.out)
       clear hk6 hb6 hg6)
    | fail
  refine bodyPost_ret (results14 Tryz.f47 6 (by kernel_rfl) _ _ _ _ _ _ _ _ _ _ _ _ _ _ _ _ _ rfl (HR6.out.tput14 _ _ _ _ _ _ _ _ _ _ _ _ _ _)) rfl ?_
  have hkt := keeps_tput14 w6 (w.heap.size + 1 + 1) (.int .u8 0) (.bool false) (.slice none 0 0) (.string ⟨#[]⟩) (.int .i64 0) (.slice none 0 0) (.slice none 0 0) (.int .u8 6) (.bool false) (.slice none 0 0) (.string ⟨#[]⟩) (.int .i64 0) (.slice (some ⟨g, 0, none⟩) 2 2) (.slice none 0 0)
  exact ⟨0, false, none, 0, 0, ⟨#[]⟩, 0, none, 0, 0, none, 0, 0, 6, false, none, 0, 0, ⟨#[]⟩, 0, some ⟨g, 0, none⟩, 2, 2, none, 0, 0, rfl, flat_in _ _ _ 0 ByteArray.empty 0, TermIn.more (fun k _ (hk : k = g) => Or.inr (by have := HG6.out; omega)) _ _ (err_in (HN6.out.keep hkt (fun e => by have := HG6.out; omega))), HK6.out.trans' hkt (fun _ _ => id) (fun i hi e => by omega)⟩
set_option maxRecDepth 100000 in
set_option maxHeartbeats 2000000 in
theorem number_rem_zero (x y : Int) (a b : Tm) (hka : a.kind = 1) (hkb : b.kind = 1) (ng ng' : Bool) (A A' ia ta ia' ta' : Option Addr) (n c n' c' ic tc ic' tc' : Nat) (w : World) (B B' : Nat → Prop) (ha : TermIn w B false [.int .u8 1, .bool ng, .slice A n c, .string ⟨#[]⟩, .int .i64 0, .slice ia 0 ic, .slice ta 0 tc] a) (hb : TermIn w B' false [.int .u8 1, .bool ng', .slice A' n' c', .string ⟨#[]⟩, .int .i64 0, .slice ia' 0 ic', .slice ta' 0 tc'] b) (h : IA w B ng A n c x) (h' : IA w B' ng' A' n' c' y) (hn0 : n' = 0) :
    Calls Tryz.prog 47 #[.string ⟨#[114, 101, 109]⟩, .agg #[.int .u8 1, .bool ng, .slice A n c, .string ⟨#[]⟩, .int .i64 0, .slice ia 0 ic, .slice ta 0 tc], .agg #[.int .u8 1, .bool ng', .slice A' n' c', .string ⟨#[]⟩, .int .i64 0, .slice ia' 0 ic', .slice ta' 0 tc']] w (ResP 0 w zeroT (errT ⟨#[98, 97, 100, 97, 114, 105, 116, 104]⟩)) := by
  have HK0 := hide ((((Keeps.refl NoB w).alloc (.cells #[.int .u8 1, .bool ng, .slice A n c, .string ⟨#[]⟩, .int .i64 0, .slice ia 0 ic, .slice ta 0 tc] 26)).alloc (.cells #[.int .u8 1, .bool ng', .slice A' n' c', .string ⟨#[]⟩, .int .i64 0, .slice ia' 0 ic', .slice ta' 0 tc'] 26)).alloc (.cells #[.int .u8 0, .bool false, .slice none 0 0, .string ⟨#[]⟩, .int .i64 0, .slice none 0 0, .slice none 0 0, .int .u8 0, .bool false, .slice none 0 0, .string ⟨#[]⟩, .int .i64 0, .slice none 0 0, .slice none 0 0] 48))
  have HA0 := hide (three_tblks w 26 26 48 #[.int .u8 1, .bool ng, .slice A n c, .string ⟨#[]⟩, .int .i64 0, .slice ia 0 ic, .slice ta 0 tc] #[.int .u8 1, .bool ng', .slice A' n' c', .string ⟨#[]⟩, .int .i64 0, .slice ia' 0 ic', .slice ta' 0 tc'] #[.int .u8 0, .bool false, .slice none 0 0, .string ⟨#[]⟩, .int .i64 0, .slice none 0 0, .slice none 0 0, .int .u8 0, .bool false, .slice none 0 0, .string ⟨#[]⟩, .int .i64 0, .slice none 0 0, .slice none 0 0]).1; have HB0 := hide (three_tblks w 26 26 48 #[.int .u8 1, .bool ng, .slice A n c, .string ⟨#[]⟩, .int .i64 0, .slice ia 0 ic, .slice ta 0 tc] #[.int .u8 1, .bool ng', .slice A' n' c', .string ⟨#[]⟩, .int .i64 0, .slice ia' 0 ic', .slice ta' 0 tc'] #[.int .u8 0, .bool false, .slice none 0 0, .string ⟨#[]⟩, .int .i64 0, .slice none 0 0, .slice none 0 0, .int .u8 0, .bool false, .slice none 0 0, .string ⟨#[]⟩, .int .i64 0, .slice none 0 0, .slice none 0 0]).2.1; have HR0 := hide (three_tblks w 26 26 48 #[.int .u8 1, .bool ng, .slice A n c, .string ⟨#[]⟩, .int .i64 0, .slice ia 0 ic, .slice ta 0 tc] #[.int .u8 1, .bool ng', .slice A' n' c', .string ⟨#[]⟩, .int .i64 0, .slice ia' 0 ic', .slice ta' 0 tc'] #[.int .u8 0, .bool false, .slice none 0 0, .string ⟨#[]⟩, .int .i64 0, .slice none 0 0, .slice none 0 0, .int .u8 0, .bool false, .slice none 0 0, .string ⟨#[]⟩, .int .i64 0, .slice none 0 0, .slice none 0 0]).2.2
  have HHA := hide (TermIn.more (B' := fun _ => True) (fun _ _ _ => trivial) _ _ ha); have HHB := hide (TermIn.more (B' := fun _ => True) (fun _ _ _ => trivial) _ _ hb); have HI := hide h; have HI' := hide h'
  have HAR := hide (show ([a, b].all (ofK 1)) = true from by simp [ofK, hka, hkb])
  clear ha hb h h' hka hkb
  subst hn0
  go_enter Tryz.func47, Tryz.ntmps47
  go_upto_region 1 with fail
  generalize ((w.alloc (.cells #[.int .u8 1, .bool ng, .slice A n c, .string ⟨#[]⟩, .int .i64 0, .slice ia 0 ic, .slice ta 0 tc] 26)).alloc (.cells #[.int .u8 1, .bool ng', .slice A' 0 c', .string ⟨#[]⟩, .int .i64 0, .slice ia' 0 ic', .slice ta' 0 tc'] 26)).alloc (.cells #[.int .u8 0, .bool false, .slice none 0 0, .string ⟨#[]⟩, .int .i64 0, .slice none 0 0, .slice none 0 0, .int .u8 0, .bool false, .slice none 0 0, .string ⟨#[]⟩, .int .i64 0, .slice none 0 0, .slice none 0 0] 48) = w0 at *
  obtain ⟨x0, x1, x2, x3, x4, x5, x6⟩ := Blk.c7 (show Blk w0 (w.heap.size) _ #[.int .u8 1, .bool ng, .slice A n c, .string ⟨#[]⟩, .int .i64 0, .slice ia 0 ic, .slice ta 0 tc] from HA0.out)
  obtain ⟨y0, y1, y2, y3, y4, y5, y6⟩ := Blk.c7 (show Blk w0 (w.heap.size + 1) _ #[.int .u8 1, .bool ng', .slice A' 0 c', .string ⟨#[]⟩, .int .i64 0, .slice ia' 0 ic', .slice ta' 0 tc'] from HB0.out)
  go_upto_region 3 with
    first
    | (go_at_call 74
       refine (are_any 1 [a, b] [[.int .u8 1, .bool ng, .slice A n c, .string ⟨#[]⟩, .int .i64 0, .slice ia 0 ic, .slice ta 0 tc], [.int .u8 1, .bool ng', .slice A' 0 c', .string ⟨#[]⟩, .int .i64 0, .slice ia' 0 ic', .slice ta' 0 tc']] (some ⟨w0.heap.size, 0, none⟩) 2 2 (w0.alloc (.cells #[.int .u8 1, .bool ng, .slice A n c, .string ⟨#[]⟩, .int .i64 0, .slice ia 0 ic, .slice ta 0 tc, .int .u8 1, .bool ng', .slice A' 0 c', .string ⟨#[]⟩, .int .i64 0, .slice ia' 0 ic', .slice ta' 0 tc'] 26)) (fun _ => True) false (two_reads (Blk.new w0 26 #[.int .u8 1, .bool ng, .slice A n c, .string ⟨#[]⟩, .int .i64 0, .slice ia 0 ic, .slice ta 0 tc, .int .u8 1, .bool ng', .slice A' 0 c', .string ⟨#[]⟩, .int .i64 0, .slice ia' 0 ic', .slice ta' 0 tc'])) (two_terms (TermIn.keep (HK0.out.alloc _) (fun _ _ => id) _ _ HHA.out) (TermIn.keep (HK0.out.alloc _) (fun _ _ => id) _ _ HHB.out)) (by omega)).mono ?_
       rintro e w1 ⟨rfl, hk1⟩
       rw [HAR.out]
       have hk1' : Keeps NoB w0 w1 := ((Keeps.refl NoB w0).alloc (.cells #[.int .u8 1, .bool ng, .slice A n c, .string ⟨#[]⟩, .int .i64 0, .slice ia 0 ic, .slice ta 0 tc, .int .u8 1, .bool ng', .slice A' 0 c', .string ⟨#[]⟩, .int .i64 0, .slice ia' 0 ic', .slice ta' 0 tc'] 26)).trans' hk1 (fun _ _ => id) (fun _ _ => id)
       have HK1 := hide (HK0.out.trans' hk1' (fun _ _ => id) (fun _ _ => id) : Keeps NoB w w1)
       have HA1 := hide (HA0.out.keep hk1' id); have HB1 := hide (HB0.out.keep hk1' id); have HR1 := hide (HR0.out.keep hk1' id)
       clear hk1 hk1')
    | fail
  clear x0 x1 x2 x3 x4 x5 x6 y0 y1 y2 y3 y4 y5 y6 HK0 HA0 HB0 HR0 HHA HHB HAR
  have HK2 := hide (HK1.out.alloc (.cells #[.int .u8 0, .bool false, .slice none 0 0, .string ⟨#[]⟩, .int .i64 0, .slice none 0 0, .slice none 0 0] 26))
  have HA2 := hide (HA1.out.alloc (.cells #[.int .u8 0, .bool false, .slice none 0 0, .string ⟨#[]⟩, .int .i64 0, .slice none 0 0, .slice none 0 0] 26)); have HB2 := hide (HB1.out.alloc (.cells #[.int .u8 0, .bool false, .slice none 0 0, .string ⟨#[]⟩, .int .i64 0, .slice none 0 0, .slice none 0 0] 26)); have HR2 := hide (HR1.out.alloc (.cells #[.int .u8 0, .bool false, .slice none 0 0, .string ⟨#[]⟩, .int .i64 0, .slice none 0 0, .slice none 0 0] 26)); have HZ2 := hide (Blk.new w1 26 #[.int .u8 0, .bool false, .slice none 0 0, .string ⟨#[]⟩, .int .i64 0, .slice none 0 0, .slice none 0 0])
  have HG := hide (show w.heap.size + 1 + 1 < w1.heap.size from HR1.out.lt)
  go_upto_region 4 with fail
  generalize w1.alloc (.cells #[.int .u8 0, .bool false, .slice none 0 0, .string ⟨#[]⟩, .int .i64 0, .slice none 0 0, .slice none 0 0] 26) = w2 at *
  generalize w1.heap.size = g7 at *
  obtain ⟨x0, x1, x2, x3, x4, x5, x6⟩ := Blk.c7 (show Blk w2 (w.heap.size) _ #[.int .u8 1, .bool ng, .slice A n c, .string ⟨#[]⟩, .int .i64 0, .slice ia 0 ic, .slice ta 0 tc] from HA2.out)
  obtain ⟨y0, y1, y2, y3, y4, y5, y6⟩ := Blk.c7 (show Blk w2 (w.heap.size + 1) _ #[.int .u8 1, .bool ng', .slice A' 0 c', .string ⟨#[]⟩, .int .i64 0, .slice ia' 0 ic', .slice ta' 0 tc'] from HB2.out)
  go_upto_region 7 with
    first
    | (go_at_call 78
       refine (div_zero ((HI.out.keep HK2.out).term ia ta ic tc) (HI'.out.keep HK2.out)).mono ?_
       rintro e w3 ⟨rfl, hk3⟩
       have HK3 := hide (HK2.out.trans' hk3 (fun _ _ => id) (fun _ _ => id) : Keeps NoB w w3); have HR3 := hide (HR2.out.keep hk3 id)
       have HS3 := hide hk3.size
       have HL2 := hide HZ2.out.lt
       clear hk3)
    | fail
  have HG3 := hide (show g7 < w3.heap.size ∧ w.heap.size + 1 + 1 < w3.heap.size from by have := HG.out; have := HS3.out; have := HL2.out; omega)
  have HN3 := hide (show Keeps NoB w3 ((w3.alloc (.cells #[.int .u8 0, .bool false, .slice none 0 0, .string ⟨#[]⟩, .int .i64 0, .slice none 0 0, .slice none 0 0] 26)).alloc (.cells #[.int .u8 0, .bool false, .slice none 0 0, .string ⟨#[]⟩, .int .i64 0, .slice none 0 0, .slice none 0 0] 26)) from ((Keeps.refl NoB w3).alloc _).alloc _)
  have HR5 := hide (HR3.out.keep HN3.out id)
  have HK5 := hide (HK3.out.trans' HN3.out (fun _ _ => id) (fun _ _ => id) : Keeps NoB w _)
  clear HR3 HK3 HN3
  generalize (w3.alloc (.cells #[.int .u8 0, .bool false, .slice none 0 0, .string ⟨#[]⟩, .int .i64 0, .slice none 0 0, .slice none 0 0] 26)).alloc (.cells #[.int .u8 0, .bool false, .slice none 0 0, .string ⟨#[]⟩, .int .i64 0, .slice none 0 0, .slice none 0 0] 26) = w5 at *
  go_wp2_with
    first
    | (go_at_call 27
       refine (bad_any ⟨#[98, 97, 100, 97, 114, 105, 116, 104]⟩ w5).mono ?_
       rintro e w6 ⟨g, rfl, hg6, hb6, hk6⟩
       have HK6 := hide (HK5.out.trans' hk6 (fun _ _ => id) (fun _ _ => id) : Keeps NoB w w6)
       have HR6 := hide (HR5.out.keep hk6 id)
       have HN6 := hide hb6
       have HG6 := hide (show w.heap.size + 1 + 1 < g from Nat.lt_of_lt_of_le HR5.out.lt hg6)
       obtain ⟨z0, z1, z2, z3, z4, z5, z6, z7, z8, z9, z10, z11, z12, z13⟩ := Blk.f14 (w := w6) (g := w.heap.size + 1 + 1) HR6.out
       obtain ⟨v0, v1, v2, v3, v4, v5, v6, v7, v8, v9, v10, v11, v12, v13⟩ := Blk.c14 (show Blk w6 (w.heap.size + 1 + 1) _ #[.int .u8 0, .bool false, .slice none 0 0, .string ⟨#[]⟩, .int .i64 0, .slice none 0 0, .slice none 0 0, .int .u8 0, .bool false, .slice none 0 0, .string ⟨#[]⟩, .int .i64 0, .slice none 0 0, .slice none 0 0] from HR6.out)
       clear hk6 hb6 hg6)
    | fail
  refine bodyPost_ret (results14 Tryz.f47 6 (by kernel_rfl) _ _ _ _ _ _ _ _ _ _ _ _ _ _ _ _ _ rfl (HR6.out.tput14 _ _ _ _ _ _ _ _ _ _ _ _ _ _)) rfl ?_
  have hkt := keeps_tput14 w6 (w.heap.size + 1 + 1) (.int .u8 0) (.bool false) (.slice none 0 0) (.string ⟨#[]⟩) (.int .i64 0) (.slice none 0 0) (.slice none 0 0) (.int .u8 6) (.bool false) (.slice none 0 0) (.string ⟨#[]⟩) (.int .i64 0) (.slice (some ⟨g, 0, none⟩) 2 2) (.slice none 0 0)
  exact ⟨0, false, none, 0, 0, ⟨#[]⟩, 0, none, 0, 0, none, 0, 0, 6, false, none, 0, 0, ⟨#[]⟩, 0, some ⟨g, 0, none⟩, 2, 2, none, 0, 0, rfl, flat_in _ _ _ 0 ByteArray.empty 0, TermIn.more (fun k _ (hk : k = g) => Or.inr (by have := HG6.out; omega)) _ _ (err_in (HN6.out.keep hkt (fun e => by have := HG6.out; omega))), HK6.out.trans' hkt (fun _ _ => id) (fun i hi e => by omega)⟩
end Go.Proofs.YthbbalkhmofndaaGreatDoor
