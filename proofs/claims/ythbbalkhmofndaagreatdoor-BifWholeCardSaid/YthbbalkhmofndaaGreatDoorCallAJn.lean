/- bif.number: its contracts. Printed by mknum.py. bif.two at + * div rem and ++: its contracts. Printed by mktwon.py. bif.Call at + * div rem. Printed by mkcalln.py. -/
import Derived.Test.YthbbalkhmofndaaGreatDoorNumBJn
import Derived.Test.YthbbalkhmofndaaGreatDoorTwoJn
import Derived.Test.YthbbalkhmofndaaGreatDoorAddJn
import Derived.Test.YthbbalkhmofndaaGreatDoorCallR1Jn
namespace Go.Proofs.YthbbalkhmofndaaGreatDoor
open Go.RowKit

set_option maxRecDepth 100000 in
set_option maxHeartbeats 2000000 in
theorem number_add (x y : Int) (hz : (x + y).natAbs < Big) (a b : Tm) (hka : a.kind = 1) (hkb : b.kind = 1) (ng ng' : Bool) (A A' ia ta ia' ta' : Option Addr) (n c n' c' ic tc ic' tc' : Nat) (w : World) (B B' : Nat → Prop) (ha : TermIn w B false [.int .u8 1, .bool ng, .slice A n c, .string ⟨#[]⟩, .int .i64 0, .slice ia 0 ic, .slice ta 0 tc] a) (hb : TermIn w B' false [.int .u8 1, .bool ng', .slice A' n' c', .string ⟨#[]⟩, .int .i64 0, .slice ia' 0 ic', .slice ta' 0 tc'] b) (h : IA w B ng A n c x) (h' : IA w B' ng' A' n' c' y) :
    Calls Tryz.prog 47 #[.string ⟨#[43]⟩, .agg #[.int .u8 1, .bool ng, .slice A n c, .string ⟨#[]⟩, .int .i64 0, .slice ia 0 ic, .slice ta 0 tc], .agg #[.int .u8 1, .bool ng', .slice A' n' c', .string ⟨#[]⟩, .int .i64 0, .slice ia' 0 ic', .slice ta' 0 tc']] w (ResP 0 w (intTm (x + y)) zeroT) := by
  have HK0 := hide ((((Keeps.refl NoB w).alloc (.cells #[.int .u8 1, .bool ng, .slice A n c, .string ⟨#[]⟩, .int .i64 0, .slice ia 0 ic, .slice ta 0 tc] 26)).alloc (.cells #[.int .u8 1, .bool ng', .slice A' n' c', .string ⟨#[]⟩, .int .i64 0, .slice ia' 0 ic', .slice ta' 0 tc'] 26)).alloc (.cells #[.int .u8 0, .bool false, .slice none 0 0, .string ⟨#[]⟩, .int .i64 0, .slice none 0 0, .slice none 0 0, .int .u8 0, .bool false, .slice none 0 0, .string ⟨#[]⟩, .int .i64 0, .slice none 0 0, .slice none 0 0] 48))
  have HA0 := hide (three_tblks w 26 26 48 #[.int .u8 1, .bool ng, .slice A n c, .string ⟨#[]⟩, .int .i64 0, .slice ia 0 ic, .slice ta 0 tc] #[.int .u8 1, .bool ng', .slice A' n' c', .string ⟨#[]⟩, .int .i64 0, .slice ia' 0 ic', .slice ta' 0 tc'] #[.int .u8 0, .bool false, .slice none 0 0, .string ⟨#[]⟩, .int .i64 0, .slice none 0 0, .slice none 0 0, .int .u8 0, .bool false, .slice none 0 0, .string ⟨#[]⟩, .int .i64 0, .slice none 0 0, .slice none 0 0]).1; have HB0 := hide (three_tblks w 26 26 48 #[.int .u8 1, .bool ng, .slice A n c, .string ⟨#[]⟩, .int .i64 0, .slice ia 0 ic, .slice ta 0 tc] #[.int .u8 1, .bool ng', .slice A' n' c', .string ⟨#[]⟩, .int .i64 0, .slice ia' 0 ic', .slice ta' 0 tc'] #[.int .u8 0, .bool false, .slice none 0 0, .string ⟨#[]⟩, .int .i64 0, .slice none 0 0, .slice none 0 0, .int .u8 0, .bool false, .slice none 0 0, .string ⟨#[]⟩, .int .i64 0, .slice none 0 0, .slice none 0 0]).2.1; have HR0 := hide (three_tblks w 26 26 48 #[.int .u8 1, .bool ng, .slice A n c, .string ⟨#[]⟩, .int .i64 0, .slice ia 0 ic, .slice ta 0 tc] #[.int .u8 1, .bool ng', .slice A' n' c', .string ⟨#[]⟩, .int .i64 0, .slice ia' 0 ic', .slice ta' 0 tc'] #[.int .u8 0, .bool false, .slice none 0 0, .string ⟨#[]⟩, .int .i64 0, .slice none 0 0, .slice none 0 0, .int .u8 0, .bool false, .slice none 0 0, .string ⟨#[]⟩, .int .i64 0, .slice none 0 0, .slice none 0 0]).2.2
  have HHA := hide (TermIn.more (B' := fun _ => True) (fun _ _ _ => trivial) _ _ ha); have HHB := hide (TermIn.more (B' := fun _ => True) (fun _ _ _ => trivial) _ _ hb); have HI := hide h; have HI' := hide h'
  have HAR := hide (show ([a, b].all (ofK 1)) = true from by simp [ofK, hka, hkb])
  clear ha hb h h' hka hkb
  go_enter Tryz.func47, Tryz.ntmps47
  go_upto_region 1 with fail
  generalize ((w.alloc (.cells #[.int .u8 1, .bool ng, .slice A n c, .string ⟨#[]⟩, .int .i64 0, .slice ia 0 ic, .slice ta 0 tc] 26)).alloc (.cells #[.int .u8 1, .bool ng', .slice A' n' c', .string ⟨#[]⟩, .int .i64 0, .slice ia' 0 ic', .slice ta' 0 tc'] 26)).alloc (.cells #[.int .u8 0, .bool false, .slice none 0 0, .string ⟨#[]⟩, .int .i64 0, .slice none 0 0, .slice none 0 0, .int .u8 0, .bool false, .slice none 0 0, .string ⟨#[]⟩, .int .i64 0, .slice none 0 0, .slice none 0 0] 48) = w0 at *
  obtain ⟨x0, x1, x2, x3, x4, x5, x6⟩ := Blk.c7 (show Blk w0 (w.heap.size) _ #[.int .u8 1, .bool ng, .slice A n c, .string ⟨#[]⟩, .int .i64 0, .slice ia 0 ic, .slice ta 0 tc] from HA0.out)
  obtain ⟨y0, y1, y2, y3, y4, y5, y6⟩ := Blk.c7 (show Blk w0 (w.heap.size + 1) _ #[.int .u8 1, .bool ng', .slice A' n' c', .string ⟨#[]⟩, .int .i64 0, .slice ia' 0 ic', .slice ta' 0 tc'] from HB0.out)
  go_upto_region 3 with
    first
    | (go_at_call 74
       refine (are_any 1 [a, b] [[.int .u8 1, .bool ng, .slice A n c, .string ⟨#[]⟩, .int .i64 0, .slice ia 0 ic, .slice ta 0 tc], [.int .u8 1, .bool ng', .slice A' n' c', .string ⟨#[]⟩, .int .i64 0, .slice ia' 0 ic', .slice ta' 0 tc']] (some ⟨w0.heap.size, 0, none⟩) 2 2 (w0.alloc (.cells #[.int .u8 1, .bool ng, .slice A n c, .string ⟨#[]⟩, .int .i64 0, .slice ia 0 ic, .slice ta 0 tc, .int .u8 1, .bool ng', .slice A' n' c', .string ⟨#[]⟩, .int .i64 0, .slice ia' 0 ic', .slice ta' 0 tc'] 26)) (fun _ => True) false (two_reads (Blk.new w0 26 #[.int .u8 1, .bool ng, .slice A n c, .string ⟨#[]⟩, .int .i64 0, .slice ia 0 ic, .slice ta 0 tc, .int .u8 1, .bool ng', .slice A' n' c', .string ⟨#[]⟩, .int .i64 0, .slice ia' 0 ic', .slice ta' 0 tc'])) (two_terms (TermIn.keep (HK0.out.alloc _) (fun _ _ => id) _ _ HHA.out) (TermIn.keep (HK0.out.alloc _) (fun _ _ => id) _ _ HHB.out)) (by omega)).mono ?_
       rintro e w1 ⟨rfl, hk1⟩
       rw [HAR.out]
       have hk1' : Keeps NoB w0 w1 := ((Keeps.refl NoB w0).alloc (.cells #[.int .u8 1, .bool ng, .slice A n c, .string ⟨#[]⟩, .int .i64 0, .slice ia 0 ic, .slice ta 0 tc, .int .u8 1, .bool ng', .slice A' n' c', .string ⟨#[]⟩, .int .i64 0, .slice ia' 0 ic', .slice ta' 0 tc'] 26)).trans' hk1 (fun _ _ => id) (fun _ _ => id)
       have HK1 := hide (HK0.out.trans' hk1' (fun _ _ => id) (fun _ _ => id) : Keeps NoB w w1)
       have HA1 := hide (HA0.out.keep hk1' id); have HB1 := hide (HB0.out.keep hk1' id); have HR1 := hide (HR0.out.keep hk1' id)
       clear hk1 hk1')
    | fail
  clear x0 x1 x2 x3 x4 x5 x6 y0 y1 y2 y3 y4 y5 y6 HK0 HA0 HB0 HR0 HHA HHB HAR
  have HK2 := hide (HK1.out.alloc (.cells #[.int .u8 0, .bool false, .slice none 0 0, .string ⟨#[]⟩, .int .i64 0, .slice none 0 0, .slice none 0 0] 26))
  have HA2 := hide (HA1.out.alloc (.cells #[.int .u8 0, .bool false, .slice none 0 0, .string ⟨#[]⟩, .int .i64 0, .slice none 0 0, .slice none 0 0] 26)); have HB2 := hide (HB1.out.alloc (.cells #[.int .u8 0, .bool false, .slice none 0 0, .string ⟨#[]⟩, .int .i64 0, .slice none 0 0, .slice none 0 0] 26)); have HR2 := hide (HR1.out.alloc (.cells #[.int .u8 0, .bool false, .slice none 0 0, .string ⟨#[]⟩, .int .i64 0, .slice none 0 0, .slice none 0 0] 26)); have HZ2 := hide (Blk.new w1 26 #[.int .u8 0, .bool false, .slice none 0 0, .string ⟨#[]⟩, .int .i64 0, .slice none 0 0, .slice none 0 0])
  have HG := hide (show w.heap.size + 1 + 1 < w1.heap.size from HR1.out.lt)
  go_upto_region 4 with fail
  generalize w1.alloc (.cells #[.int .u8 0, .bool false, .slice none 0 0, .string ⟨#[]⟩, .int .i64 0, .slice none 0 0, .slice none 0 0] 26) = w2 at *
  generalize w1.heap.size = g7 at *
  obtain ⟨x0, x1, x2, x3, x4, x5, x6⟩ := Blk.c7 (show Blk w2 (w.heap.size) _ #[.int .u8 1, .bool ng, .slice A n c, .string ⟨#[]⟩, .int .i64 0, .slice ia 0 ic, .slice ta 0 tc] from HA2.out)
  obtain ⟨y0, y1, y2, y3, y4, y5, y6⟩ := Blk.c7 (show Blk w2 (w.heap.size + 1) _ #[.int .u8 1, .bool ng', .slice A' n' c', .string ⟨#[]⟩, .int .i64 0, .slice ia' 0 ic', .slice ta' 0 tc'] from HB2.out)
  go_upto_region 18 with
    first
    | (go_at_call 75
       refine (add_any ng ng' A A' ia ta ia' ta' n c n' c' ic tc ic' tc' x y w2 B B' (HI.out.keep HK2.out) (HI'.out.keep HK2.out)).mono ?_
       rintro e w3 ⟨kd, ng2, A2, n2, c2, ok, rfl, hak, hk3⟩
       obtain ⟨rfl, rfl, hia⟩ := any_yes hak hz
       have HIA := hide hia
       have HK3 := hide (HK2.out.trans' hk3 (fun _ _ => id) (fun _ _ => id) : Keeps NoB w w3)
       have HZ3 := hide (HZ2.out.keep hk3 id); have HR3 := hide (HR2.out.keep hk3 id)
       have HS3 := hide hk3.size
       have HL2 := hide HZ2.out.lt
       obtain ⟨z0, z1, z2, z3, z4, z5, z6⟩ := Blk.f7 (w := w3) (g := g7) HZ3.out
       obtain ⟨q0, q1, q2, q3, q4, q5, q6⟩ := Blk.c7 (show Blk w3 (g7) _ #[.int .u8 0, .bool false, .slice none 0 0, .string ⟨#[]⟩, .int .i64 0, .slice none 0 0, .slice none 0 0] from HZ3.out)
       clear hak hia hk3)
    | fail
  have HKA := hide (keeps_tput7 w3 g7 (.int .u8 1) (.bool ng2) (.slice A2 n2 c2) (.string ⟨#[]⟩) (.int .i64 0) (.slice none 0 0) (.slice none 0 0))
  have HZ4 := hide (HZ3.out.tput7 (.int .u8 1) (.bool ng2) (.slice A2 n2 c2) (.string ⟨#[]⟩) (.int .i64 0) (.slice none 0 0) (.slice none 0 0)); have HR4 := hide (HR3.out.keep HKA.out (fun e => by have := HG.out; omega))
  have HIA4 := hide (HIA.out.far HKA.out (fun k hk e => by have := HL2.out; omega))
  have HK4 := hide (HK3.out.trans' HKA.out (fun _ _ => id) (fun i hi e => by have := HG.out; omega) : Keeps NoB w _)
  clear z0 z1 z2 z3 z4 z5 z6 q0 q1 q2 q3 q4 q5 q6 HZ3 HR3 HIA HKA HK3
  generalize (((((((w3.setCell ⟨g7, 0, none⟩ (.int .u8 1)).setCell ⟨g7, 1, none⟩ (.bool ng2)).setCell ⟨g7, 2, none⟩ (.slice A2 n2 c2)).setCell ⟨g7, 3, none⟩ (.string ⟨#[]⟩)).setCell ⟨g7, 4, none⟩ (.int .i64 0)).setCell ⟨g7, 5, none⟩ (.slice none 0 0)).setCell ⟨g7, 6, none⟩ (.slice none 0 0)) = w4 at *
  obtain ⟨u0, u1, u2, u3, u4, u5, u6⟩ := Blk.c7 (show Blk w4 (g7) _ #[.int .u8 1, .bool ng2, .slice A2 n2 c2, .string ⟨#[]⟩, .int .i64 0, .slice none 0 0, .slice none 0 0] from HZ4.out)
  go_wp2_with
    first
    | (go_at_call 49
       refine (of_term _ _ _ _ _ _ _ _ _ _ _ _ _ _).mono ?_
       rintro e w5 ⟨rfl, hk5⟩
       have HK5 := hide (HK4.out.trans' hk5 (fun _ _ => id) (fun _ _ => id) : Keeps NoB w w5)
       have HR5 := hide (HR4.out.keep hk5 id)
       have HIA5 := hide (HIA4.out.keep hk5)
       obtain ⟨z0, z1, z2, z3, z4, z5, z6, z7, z8, z9, z10, z11, z12, z13⟩ := Blk.f14 (w := w5) (g := w.heap.size + 1 + 1) HR5.out
       obtain ⟨v0, v1, v2, v3, v4, v5, v6, v7, v8, v9, v10, v11, v12, v13⟩ := Blk.c14 (show Blk w5 (w.heap.size + 1 + 1) _ #[.int .u8 0, .bool false, .slice none 0 0, .string ⟨#[]⟩, .int .i64 0, .slice none 0 0, .slice none 0 0, .int .u8 0, .bool false, .slice none 0 0, .string ⟨#[]⟩, .int .i64 0, .slice none 0 0, .slice none 0 0] from HR5.out)
       clear hk5)
    | fail
  refine bodyPost_ret (results14 Tryz.f47 6 (by kernel_rfl) _ _ _ _ _ _ _ _ _ _ _ _ _ _ _ _ _ rfl (HR5.out.tput14 _ _ _ _ _ _ _ _ _ _ _ _ _ _)) rfl ?_
  have hkt := keeps_tput14 w5 (w.heap.size + 1 + 1) (.int .u8 1) (.bool ng2) (.slice A2 n2 c2) (.string ⟨#[]⟩) (.int .i64 0) (.slice none 0 0) (.slice none 0 0) (.int .u8 0) (.bool false) (.slice none 0 0) (.string ⟨#[]⟩) (.int .i64 0) (.slice none 0 0) (.slice none 0 0)
  exact ⟨1, ng2, A2, n2, c2, ⟨#[]⟩, 0, none, 0, 0, none, 0, 0, 0, false, none, 0, 0, ⟨#[]⟩, 0, none, 0, 0, none, 0, 0, rfl, IA.tm ((HIA5.out.far hkt (fun k (hk : w2.heap.size ≤ k) e => by have := HG.out; have := HL2.out; omega)).more (fun k _ (hk : w2.heap.size ≤ k) => Or.inr (by have := HG.out; have := HL2.out; omega))), flat_in _ _ _ 0 ByteArray.empty 0, HK5.out.trans' hkt (fun _ _ => id) (fun i hi e => by omega)⟩
end Go.Proofs.YthbbalkhmofndaaGreatDoor
namespace Go.Proofs.YthbbalkhmofndaaGreatDoor
open Go.RowKit

set_option maxRecDepth 100000 in
theorem two_add (N : Nat) (v r a b : Tm) (hoa : okT a) (hob : okT b) (w : World) (hN : N ≤ w.heap.size) (B B' : Nat → Prop) (F F' : Bool) (kd : Int) (ng : Bool) (la : Option Addr) (ln lc : Nat) (tx : ByteArray) (nm : Int) (ia : Option Addr) (im ic : Nat) (ta : Option Addr) (tn tc : Nat) (kd' : Int) (ng' : Bool) (la' : Option Addr) (ln' lc' : Nat) (tx' : ByteArray) (nm' : Int) (ia' : Option Addr) (im' ic' : Nat) (ta' : Option Addr) (tn' tc' : Nat) (ha : TermIn w B F [.int .u8 kd, .bool ng, .slice la ln lc, .string tx, .int .i64 nm, .slice ia im ic, .slice ta tn tc] a) (hb : TermIn w B' F' [.int .u8 kd', .bool ng', .slice la' ln' lc', .string tx', .int .i64 nm', .slice ia' im' ic', .slice ta' tn' tc'] b)
    (hn : ∀ w', Keeps NoB w w' → Calls Tryz.prog 47 #[.string ⟨#[43]⟩, .agg #[.int .u8 kd, .bool ng, .slice la ln lc, .string tx, .int .i64 nm, .slice ia im ic, .slice ta tn tc], .agg #[.int .u8 kd', .bool ng', .slice la' ln' lc', .string tx', .int .i64 nm', .slice ia' im' ic', .slice ta' tn' tc']] w' (ResP N w' v r)) :
    Calls Tryz.prog 25 #[.string ⟨#[43]⟩, .agg #[.int .u8 kd, .bool ng, .slice la ln lc, .string tx, .int .i64 nm, .slice ia im ic, .slice ta tn tc], .agg #[.int .u8 kd', .bool ng', .slice la' ln' lc', .string tx', .int .i64 nm', .slice ia' im' ic', .slice ta' tn' tc']] w (ResP N w v r) := by
  have HK0 := hide ((((Keeps.refl NoB w).alloc (.cells #[.int .u8 kd, .bool ng, .slice la ln lc, .string tx, .int .i64 nm, .slice ia im ic, .slice ta tn tc] 26)).alloc (.cells #[.int .u8 kd', .bool ng', .slice la' ln' lc', .string tx', .int .i64 nm', .slice ia' im' ic', .slice ta' tn' tc'] 26)).alloc (.cells #[.int .u8 0, .bool false, .slice none 0 0, .string ⟨#[]⟩, .int .i64 0, .slice none 0 0, .slice none 0 0, .int .u8 0, .bool false, .slice none 0 0, .string ⟨#[]⟩, .int .i64 0, .slice none 0 0, .slice none 0 0] 48))
  have HA0 := hide (three_tblks w 26 26 48 #[.int .u8 kd, .bool ng, .slice la ln lc, .string tx, .int .i64 nm, .slice ia im ic, .slice ta tn tc] #[.int .u8 kd', .bool ng', .slice la' ln' lc', .string tx', .int .i64 nm', .slice ia' im' ic', .slice ta' tn' tc'] #[.int .u8 0, .bool false, .slice none 0 0, .string ⟨#[]⟩, .int .i64 0, .slice none 0 0, .slice none 0 0, .int .u8 0, .bool false, .slice none 0 0, .string ⟨#[]⟩, .int .i64 0, .slice none 0 0, .slice none 0 0]).1; have HB0 := hide (three_tblks w 26 26 48 #[.int .u8 kd, .bool ng, .slice la ln lc, .string tx, .int .i64 nm, .slice ia im ic, .slice ta tn tc] #[.int .u8 kd', .bool ng', .slice la' ln' lc', .string tx', .int .i64 nm', .slice ia' im' ic', .slice ta' tn' tc'] #[.int .u8 0, .bool false, .slice none 0 0, .string ⟨#[]⟩, .int .i64 0, .slice none 0 0, .slice none 0 0, .int .u8 0, .bool false, .slice none 0 0, .string ⟨#[]⟩, .int .i64 0, .slice none 0 0, .slice none 0 0]).2.1; have HR0 := hide (three_tblks w 26 26 48 #[.int .u8 kd, .bool ng, .slice la ln lc, .string tx, .int .i64 nm, .slice ia im ic, .slice ta tn tc] #[.int .u8 kd', .bool ng', .slice la' ln' lc', .string tx', .int .i64 nm', .slice ia' im' ic', .slice ta' tn' tc'] #[.int .u8 0, .bool false, .slice none 0 0, .string ⟨#[]⟩, .int .i64 0, .slice none 0 0, .slice none 0 0, .int .u8 0, .bool false, .slice none 0 0, .string ⟨#[]⟩, .int .i64 0, .slice none 0 0, .slice none 0 0]).2.2
  have HHA := hide ha; have HHB := hide hb; have HOA := hide hoa; have HOB := hide hob
  clear ha hb hoa hob
  have HN := hide hn; have HNN := hide hN
  clear hn hN
  obtain ⟨c, hcc⟩ : ∃ c, compT a b = c := ⟨_, rfl⟩
  have HC := hide hcc
  clear hcc
  go_enter Tryz.func25, Tryz.ntmps25
  go_wp2_with
    first
    | (go_at_call 55
       refine (comp_any a b HOA.out HOB.out _ B B' F F' _ _ _ _ _ _ _ _ _ _ _ _ _ _ _ _ _ _ _ _ _ _ _ _ _ _ (TermIn.keep HK0.out (fun _ _ => id) _ _ HHA.out) (TermIn.keep HK0.out (fun _ _ => id) _ _ HHB.out)).mono ?_
       rintro e w1 ⟨rfl, hk1⟩
       rw [HC.out]
       have HK1 := hide (HK0.out.trans' hk1 (fun _ _ => id) (fun _ _ => id) : Keeps NoB w w1)
       have HA1 := hide (HA0.out.keep hk1 id); have HB1 := hide (HB0.out.keep hk1 id); have HR1 := hide (HR0.out.keep hk1 id)
       clear hk1)
    | (go_at_call 56
       refine (held_no ⟨#[43]⟩ (by rw [Lib.toList_data]; decide) (by rw [Lib.toList_data]; decide) (by rw [Lib.toList_data]; decide) (by rw [Lib.toList_data]; decide) (by rw [Lib.toList_data]; decide) (by rw [Lib.toList_data]; decide) (by rw [Lib.toList_data]; decide) (by rw [Lib.toList_data]; decide) c _).mono ?_
       rintro e w2 ⟨rfl, rfl⟩
       obtain ⟨x0, x1, x2, x3, x4, x5, x6⟩ := Blk.c7 (show Blk w2 (w.heap.size) _ #[.int .u8 kd, .bool ng, .slice la ln lc, .string tx, .int .i64 nm, .slice ia im ic, .slice ta tn tc] from HA1.out)
       obtain ⟨y0, y1, y2, y3, y4, y5, y6⟩ := Blk.c7 (show Blk w2 (w.heap.size + 1) _ #[.int .u8 kd', .bool ng', .slice la' ln' lc', .string tx', .int .i64 nm', .slice ia' im' ic', .slice ta' tn' tc'] from HB1.out))
    | (go_at_call 47
       refine (HN.out _ HK1.out).mono ?_
       rintro e w3 ⟨kv, gv, lv, lvn, lvc, sv, mv, iv, ivn, ivc, tv, tvn, tvc, kr, gr, lr, lrn, lrc, sr, mr, ir, irn, irc, tr, trn, trc, rfl, hv3, hr3, hk3⟩
       have HV3 := hide hv3; have HE3 := hide hr3
       have HR3 := hide (HR1.out.keep hk3 id)
       have HL1 := hide HR1.out.lt
       have HK3 := hide (HK1.out.trans' hk3 (fun _ _ => id) (fun _ _ => id) : Keeps NoB w w3)
       obtain ⟨z0, z1, z2, z3, z4, z5, z6, z7, z8, z9, z10, z11, z12, z13⟩ := Blk.f14 (w := w3) (g := w.heap.size + 1 + 1) HR3.out
       obtain ⟨v0, v1, v2, v3, v4, v5, v6, v7, v8, v9, v10, v11, v12, v13⟩ := Blk.c14 (show Blk w3 (w.heap.size + 1 + 1) _ #[.int .u8 0, .bool false, .slice none 0 0, .string ⟨#[]⟩, .int .i64 0, .slice none 0 0, .slice none 0 0, .int .u8 0, .bool false, .slice none 0 0, .string ⟨#[]⟩, .int .i64 0, .slice none 0 0, .slice none 0 0] from HR3.out)
       clear hk3 hv3 hr3)
    | fail
  refine bodyPost_ret (results14 Tryz.f25 6 (by kernel_rfl) _ _ _ _ _ _ _ _ _ _ _ _ _ _ _ _ _ rfl (HR3.out.tput14 _ _ _ _ _ _ _ _ _ _ _ _ _ _)) rfl ?_
  have hkt := keeps_tput14 w3 (w.heap.size + 1 + 1) (.int .u8 kv) (.bool gv) (.slice lv lvn lvc) (.string sv) (.int .i64 mv) (.slice iv ivn ivc) (.slice tv tvn tvc) (.int .u8 kr) (.bool gr) (.slice lr lrn lrc) (.string sr) (.int .i64 mr) (.slice ir irn irc) (.slice tr trn trc)
  have HB := hide (fun k (hk : ResB N w2 k) (e : k = w.heap.size + 1 + 1) => show False from by
    have h1 := HNN.out; have h2 := HL1.out
    rcases hk with hk | hk <;> omega)
  have hup : ∀ (W : World) k, k < W.heap.size → ResB N w2 k → ResB N w k := fun _ k _ hk => by
    rcases hk with hk | hk
    · exact Or.inl hk
    · exact Or.inr (Nat.le_trans (Nat.le_trans (by omega) (Nat.le_of_lt HL1.out)) hk)
  exact ⟨kv, gv, lv, lvn, lvc, sv, mv, iv, ivn, ivc, tv, tvn, tvc, kr, gr, lr, lrn, lrc, sr, mr, ir, irn, irc, tr, trn, trc, rfl, TermIn.more (hup _) _ _ (TermIn.keep hkt HB.out _ _ HV3.out), TermIn.more (hup _) _ _ (TermIn.keep hkt HB.out _ _ HE3.out), HK3.out.trans' hkt (fun _ _ => id) (fun i hi e => by omega)⟩
set_option maxRecDepth 100000 in
theorem two_plus (N : Nat) (v r a b : Tm) (hoa : okT a) (hob : okT b) (w : World) (hN : N ≤ w.heap.size) (B B' : Nat → Prop) (F F' : Bool) (kd : Int) (ng : Bool) (la : Option Addr) (ln lc : Nat) (tx : ByteArray) (nm : Int) (ia : Option Addr) (im ic : Nat) (ta : Option Addr) (tn tc : Nat) (kd' : Int) (ng' : Bool) (la' : Option Addr) (ln' lc' : Nat) (tx' : ByteArray) (nm' : Int) (ia' : Option Addr) (im' ic' : Nat) (ta' : Option Addr) (tn' tc' : Nat) (ha : TermIn w B F [.int .u8 kd, .bool ng, .slice la ln lc, .string tx, .int .i64 nm, .slice ia im ic, .slice ta tn tc] a) (hb : TermIn w B' F' [.int .u8 kd', .bool ng', .slice la' ln' lc', .string tx', .int .i64 nm', .slice ia' im' ic', .slice ta' tn' tc'] b)
    (hn : ∀ w', Keeps NoB w w' → Calls Tryz.prog 57 #[.agg #[.int .u8 kd, .bool ng, .slice la ln lc, .string tx, .int .i64 nm, .slice ia im ic, .slice ta tn tc], .agg #[.int .u8 kd', .bool ng', .slice la' ln' lc', .string tx', .int .i64 nm', .slice ia' im' ic', .slice ta' tn' tc']] w' (ResP N w' v r)) :
    Calls Tryz.prog 25 #[.string ⟨#[43, 43]⟩, .agg #[.int .u8 kd, .bool ng, .slice la ln lc, .string tx, .int .i64 nm, .slice ia im ic, .slice ta tn tc], .agg #[.int .u8 kd', .bool ng', .slice la' ln' lc', .string tx', .int .i64 nm', .slice ia' im' ic', .slice ta' tn' tc']] w (ResP N w v r) := by
  have HK0 := hide ((((Keeps.refl NoB w).alloc (.cells #[.int .u8 kd, .bool ng, .slice la ln lc, .string tx, .int .i64 nm, .slice ia im ic, .slice ta tn tc] 26)).alloc (.cells #[.int .u8 kd', .bool ng', .slice la' ln' lc', .string tx', .int .i64 nm', .slice ia' im' ic', .slice ta' tn' tc'] 26)).alloc (.cells #[.int .u8 0, .bool false, .slice none 0 0, .string ⟨#[]⟩, .int .i64 0, .slice none 0 0, .slice none 0 0, .int .u8 0, .bool false, .slice none 0 0, .string ⟨#[]⟩, .int .i64 0, .slice none 0 0, .slice none 0 0] 48))
  have HA0 := hide (three_tblks w 26 26 48 #[.int .u8 kd, .bool ng, .slice la ln lc, .string tx, .int .i64 nm, .slice ia im ic, .slice ta tn tc] #[.int .u8 kd', .bool ng', .slice la' ln' lc', .string tx', .int .i64 nm', .slice ia' im' ic', .slice ta' tn' tc'] #[.int .u8 0, .bool false, .slice none 0 0, .string ⟨#[]⟩, .int .i64 0, .slice none 0 0, .slice none 0 0, .int .u8 0, .bool false, .slice none 0 0, .string ⟨#[]⟩, .int .i64 0, .slice none 0 0, .slice none 0 0]).1; have HB0 := hide (three_tblks w 26 26 48 #[.int .u8 kd, .bool ng, .slice la ln lc, .string tx, .int .i64 nm, .slice ia im ic, .slice ta tn tc] #[.int .u8 kd', .bool ng', .slice la' ln' lc', .string tx', .int .i64 nm', .slice ia' im' ic', .slice ta' tn' tc'] #[.int .u8 0, .bool false, .slice none 0 0, .string ⟨#[]⟩, .int .i64 0, .slice none 0 0, .slice none 0 0, .int .u8 0, .bool false, .slice none 0 0, .string ⟨#[]⟩, .int .i64 0, .slice none 0 0, .slice none 0 0]).2.1; have HR0 := hide (three_tblks w 26 26 48 #[.int .u8 kd, .bool ng, .slice la ln lc, .string tx, .int .i64 nm, .slice ia im ic, .slice ta tn tc] #[.int .u8 kd', .bool ng', .slice la' ln' lc', .string tx', .int .i64 nm', .slice ia' im' ic', .slice ta' tn' tc'] #[.int .u8 0, .bool false, .slice none 0 0, .string ⟨#[]⟩, .int .i64 0, .slice none 0 0, .slice none 0 0, .int .u8 0, .bool false, .slice none 0 0, .string ⟨#[]⟩, .int .i64 0, .slice none 0 0, .slice none 0 0]).2.2
  have HHA := hide ha; have HHB := hide hb; have HOA := hide hoa; have HOB := hide hob
  clear ha hb hoa hob
  have HN := hide hn; have HNN := hide hN
  clear hn hN
  obtain ⟨c, hcc⟩ : ∃ c, compT a b = c := ⟨_, rfl⟩
  have HC := hide hcc
  clear hcc
  go_enter Tryz.func25, Tryz.ntmps25
  go_wp2_with
    first
    | (go_at_call 55
       refine (comp_any a b HOA.out HOB.out _ B B' F F' _ _ _ _ _ _ _ _ _ _ _ _ _ _ _ _ _ _ _ _ _ _ _ _ _ _ (TermIn.keep HK0.out (fun _ _ => id) _ _ HHA.out) (TermIn.keep HK0.out (fun _ _ => id) _ _ HHB.out)).mono ?_
       rintro e w1 ⟨rfl, hk1⟩
       rw [HC.out]
       have HK1 := hide (HK0.out.trans' hk1 (fun _ _ => id) (fun _ _ => id) : Keeps NoB w w1)
       have HA1 := hide (HA0.out.keep hk1 id); have HB1 := hide (HB0.out.keep hk1 id); have HR1 := hide (HR0.out.keep hk1 id)
       clear hk1)
    | (go_at_call 56
       refine (held_no ⟨#[43, 43]⟩ (by rw [Lib.toList_data]; decide) (by rw [Lib.toList_data]; decide) (by rw [Lib.toList_data]; decide) (by rw [Lib.toList_data]; decide) (by rw [Lib.toList_data]; decide) (by rw [Lib.toList_data]; decide) (by rw [Lib.toList_data]; decide) (by rw [Lib.toList_data]; decide) c _).mono ?_
       rintro e w2 ⟨rfl, rfl⟩
       obtain ⟨x0, x1, x2, x3, x4, x5, x6⟩ := Blk.c7 (show Blk w2 (w.heap.size) _ #[.int .u8 kd, .bool ng, .slice la ln lc, .string tx, .int .i64 nm, .slice ia im ic, .slice ta tn tc] from HA1.out)
       obtain ⟨y0, y1, y2, y3, y4, y5, y6⟩ := Blk.c7 (show Blk w2 (w.heap.size + 1) _ #[.int .u8 kd', .bool ng', .slice la' ln' lc', .string tx', .int .i64 nm', .slice ia' im' ic', .slice ta' tn' tc'] from HB1.out))
    | (go_at_call 57
       refine (HN.out _ HK1.out).mono ?_
       rintro e w3 ⟨kv, gv, lv, lvn, lvc, sv, mv, iv, ivn, ivc, tv, tvn, tvc, kr, gr, lr, lrn, lrc, sr, mr, ir, irn, irc, tr, trn, trc, rfl, hv3, hr3, hk3⟩
       have HV3 := hide hv3; have HE3 := hide hr3
       have HR3 := hide (HR1.out.keep hk3 id)
       have HL1 := hide HR1.out.lt
       have HK3 := hide (HK1.out.trans' hk3 (fun _ _ => id) (fun _ _ => id) : Keeps NoB w w3)
       obtain ⟨z0, z1, z2, z3, z4, z5, z6, z7, z8, z9, z10, z11, z12, z13⟩ := Blk.f14 (w := w3) (g := w.heap.size + 1 + 1) HR3.out
       obtain ⟨v0, v1, v2, v3, v4, v5, v6, v7, v8, v9, v10, v11, v12, v13⟩ := Blk.c14 (show Blk w3 (w.heap.size + 1 + 1) _ #[.int .u8 0, .bool false, .slice none 0 0, .string ⟨#[]⟩, .int .i64 0, .slice none 0 0, .slice none 0 0, .int .u8 0, .bool false, .slice none 0 0, .string ⟨#[]⟩, .int .i64 0, .slice none 0 0, .slice none 0 0] from HR3.out)
       clear hk3 hv3 hr3)
    | fail
  refine bodyPost_ret (results14 Tryz.f25 6 (by kernel_rfl) _ _ _ _ _ _ _ _ _ _ _ _ _ _ _ _ _ rfl (HR3.out.tput14 _ _ _ _ _ _ _ _ _ _ _ _ _ _)) rfl ?_
  have hkt := keeps_tput14 w3 (w.heap.size + 1 + 1) (.int .u8 kv) (.bool gv) (.slice lv lvn lvc) (.string sv) (.int .i64 mv) (.slice iv ivn ivc) (.slice tv tvn tvc) (.int .u8 kr) (.bool gr) (.slice lr lrn lrc) (.string sr) (.int .i64 mr) (.slice ir irn irc) (.slice tr trn trc)
  have HB := hide (fun k (hk : ResB N w2 k) (e : k = w.heap.size + 1 + 1) => show False from by
    have h1 := HNN.out; have h2 := HL1.out
    rcases hk with hk | hk <;> omega)
  have hup : ∀ (W : World) k, k < W.heap.size → ResB N w2 k → ResB N w k := fun _ k _ hk => by
    rcases hk with hk | hk
    · exact Or.inl hk
    · exact Or.inr (Nat.le_trans (Nat.le_trans (by omega) (Nat.le_of_lt HL1.out)) hk)
  exact ⟨kv, gv, lv, lvn, lvc, sv, mv, iv, ivn, ivc, tv, tvn, tvc, kr, gr, lr, lrn, lrc, sr, mr, ir, irn, irc, tr, trn, trc, rfl, TermIn.more (hup _) _ _ (TermIn.keep hkt HB.out _ _ HV3.out), TermIn.more (hup _) _ _ (TermIn.keep hkt HB.out _ _ HE3.out), HK3.out.trans' hkt (fun _ _ => id) (fun i hi e => by omega)⟩
end Go.Proofs.YthbbalkhmofndaaGreatDoor
namespace Go.Proofs.YthbbalkhmofndaaGreatDoor
open Go.RowKit

theorem call_add (a b : Tm) (hga : goodT a) (hgb : goodT b) (hka : a.kind = 1) (hkb : b.kind = 1) (hz : (intV a + intV b).natAbs < Big) (w : World) (hL : LaidK w) (ga c : Nat) (kd : Int) (ng : Bool) (la : Option Addr) (ln lc : Nat) (tx : ByteArray) (nm : Int) (ia : Option Addr) (im ic : Nat) (ta : Option Addr) (tn tc : Nat) (kd' : Int) (ng' : Bool) (la' : Option Addr) (ln' lc' : Nat) (tx' : ByteArray) (nm' : Int) (ia' : Option Addr) (im' ic' : Nat) (ta' : Option Addr) (tn' tc' : Nat)
    (hA : Blk w ga 26 #[.int .u8 kd, .bool ng, .slice la ln lc, .string tx, .int .i64 nm, .slice ia im ic, .slice ta tn tc, .int .u8 kd', .bool ng', .slice la' ln' lc', .string tx', .int .i64 nm', .slice ia' im' ic', .slice ta' tn' tc']) (ha : TermIn w (fun _ => True) false [.int .u8 kd, .bool ng, .slice la ln lc, .string tx, .int .i64 nm, .slice ia im ic, .slice ta tn tc] a) (hb : TermIn w (fun _ => True) false [.int .u8 kd', .bool ng', .slice la' ln' lc', .string tx', .int .i64 nm', .slice ia' im' ic', .slice ta' tn' tc'] b) :
    Calls Tryz.prog 12 #[.string ⟨#[43]⟩, .slice (some ⟨ga, 0, none⟩) 2 c] w (CallR w (intTm (intV a + intV b)) zeroT) := by
  obtain rfl : kd = 1 := (kind_cells ha).trans hka
  obtain rfl : kd' = 1 := (kind_cells hb).trans hkb
  obtain ⟨rfl, rfl, rfl, rfl, hia⟩ := int_IA _ _ _ _ _ _ _ _ _ _ _ _ _ ha hga rfl
  obtain ⟨rfl, rfl, rfl, rfl, hib⟩ := int_IA _ _ _ _ _ _ _ _ _ _ _ _ _ hb hgb rfl
  skip
  exact call_two_value ⟨#[43]⟩ (by decide) 2 (Or.inr rfl) (by kernel_rfl) a b _ _ hga.1 hgb.1 (by rfl) (intTm_right (by first | exact hz | exact hzq)) w hL ga c _ _ _ _ _ _ _ _ _ _ _ _ _ _ _ _ _ _ _ _ _ _ _ _ _ _ hA ha hb
    (fun w' hk => two_add w.heap.size _ _ a b hga.2 hgb.2 w' hk.size _ _ false false _ _ _ _ _ _ _ _ _ _ _ _ _ _ _ _ _ _ _ _ _ _ _ _ _ _ (TermIn.keep hk (fun _ _ => id) _ _ ha) (TermIn.keep hk (fun _ _ => id) _ _ hb)
      (fun w'' hk2 => (number_add (intV a) (intV b) hz a b hka hkb ng ng' la la' ia ta ia' ta' ln lc ln' lc' ic tc ic' tc' w'' (fun _ => True) (fun _ => True) (TermIn.keep (hk.trans' hk2 (fun _ _ => id) (fun _ _ => id) : Keeps NoB w w'') (fun _ _ => id) _ _ ha) (TermIn.keep (hk.trans' hk2 (fun _ _ => id) (fun _ _ => id) : Keeps NoB w w'') (fun _ _ => id) _ _ hb) (hia.keep (hk.trans' hk2 (fun _ _ => id) (fun _ _ => id))) (hib.keep (hk.trans' hk2 (fun _ _ => id) (fun _ _ => id)))).mono fun _ _ h => h.more))
end Go.Proofs.YthbbalkhmofndaaGreatDoor
