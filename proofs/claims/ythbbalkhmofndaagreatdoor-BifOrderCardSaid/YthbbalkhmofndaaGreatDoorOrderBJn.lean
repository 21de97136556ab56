/- BifOrder's walk. Printed by mkorder.py. -/
import Derived.Test.YthbbalkhmofndaaGreatDoorAwakeJn
import Derived.Test.YthbbalkhmofndaaGreatDoorSeq5Jn
namespace Go.Proofs.YthbbalkhmofndaaGreatDoor
open Go.RowKit

def PairAt (cells : Array Value) (x : Value) (w : World) : Prop := ∃ g, x = .slice (some ⟨g, 0, none⟩) 2 2 ∧ Blk w g 26 cells
theorem olit_eq : (⟨#[61, 61]⟩ : ByteArray).size ≤ 140737488355328 := by decide
theorem okn_eq : kindN (⟨#[61, 61]⟩ : ByteArray).data.toList 2 = 2 := by kernel_rfl
theorem olit_ex : (⟨#[61, 58, 61]⟩ : ByteArray).size ≤ 140737488355328 := by decide
theorem okn_ex : kindN (⟨#[61, 58, 61]⟩ : ByteArray).data.toList 2 = 2 := by kernel_rfl
theorem olit_ne : (⟨#[47, 61]⟩ : ByteArray).size ≤ 140737488355328 := by decide
theorem okn_ne : kindN (⟨#[47, 61]⟩ : ByteArray).data.toList 2 = 2 := by kernel_rfl
theorem olit_lt : (⟨#[60]⟩ : ByteArray).size ≤ 140737488355328 := by decide
theorem okn_lt : kindN (⟨#[60]⟩ : ByteArray).data.toList 2 = 2 := by kernel_rfl
theorem olit_le : (⟨#[61, 60]⟩ : ByteArray).size ≤ 140737488355328 := by decide
theorem okn_le : kindN (⟨#[61, 60]⟩ : ByteArray).data.toList 2 = 2 := by kernel_rfl
theorem olit_gt : (⟨#[62]⟩ : ByteArray).size ≤ 140737488355328 := by decide
theorem okn_gt : kindN (⟨#[62]⟩ : ByteArray).data.toList 2 = 2 := by kernel_rfl
set_option maxRecDepth 100000 in
set_option maxHeartbeats 8000000 in
theorem order_bad_a (a b : Tm) (hoa : okT a) (hob : okT b) (hra : rightT a = false) (w : World) (hL : LaidK w) (hK : KindsAt w) (kd : Int) (ng : Bool) (la : Option Addr) (ln lc : Nat) (tx : ByteArray) (nm : Int) (ia : Option Addr) (im ic : Nat) (ta : Option Addr) (tn tc : Nat) (kd' : Int) (ng' : Bool) (la' : Option Addr) (ln' lc' : Nat) (tx' : ByteArray) (nm' : Int) (ia' : Option Addr) (im' ic' : Nat) (ta' : Option Addr) (tn' tc' : Nat) (ha : TermIn w (fun _ => True) false [.int .u8 kd, .bool ng, .slice la ln lc, .string tx, .int .i64 nm, .slice ia im ic, .slice ta tn tc] a) (hb : TermIn w (fun _ => True) false [.int .u8 kd', .bool ng', .slice la' ln' lc', .string tx', .int .i64 nm', .slice ia' im' ic', .slice ta' tn' tc'] b) :
    Calls Tryz.prog 3 #[.agg #[.int .u8 kd, .bool ng, .slice la ln lc, .string tx, .int .i64 nm, .slice ia im ic, .slice ta tn tc], .agg #[.int .u8 kd', .bool ng', .slice la' ln' lc', .string tx', .int .i64 nm', .slice ia' im' ic', .slice ta' tn' tc']] w fun e w' => e = .returned (.bool true) ∧ Keeps NoB w w' := by
  have HRA := hide hra
  clear hra
  have HK0 := hide (((Keeps.refl NoB w).alloc (.cells #[.int .u8 kd, .bool ng, .slice la ln lc, .string tx, .int .i64 nm, .slice ia im ic, .slice ta tn tc] 26)).alloc (.cells #[.int .u8 kd', .bool ng', .slice la' ln' lc', .string tx', .int .i64 nm', .slice ia' im' ic', .slice ta' tn' tc'] 26))
  have HA0 := hide (two_tblks w 26 26 #[.int .u8 kd, .bool ng, .slice la ln lc, .string tx, .int .i64 nm, .slice ia im ic, .slice ta tn tc] #[.int .u8 kd', .bool ng', .slice la' ln' lc', .string tx', .int .i64 nm', .slice ia' im' ic', .slice ta' tn' tc']).1; have HB0 := hide (two_tblks w 26 26 #[.int .u8 kd, .bool ng, .slice la ln lc, .string tx, .int .i64 nm, .slice ia im ic, .slice ta tn tc] #[.int .u8 kd', .bool ng', .slice la' ln' lc', .string tx', .int .i64 nm', .slice ia' im' ic', .slice ta' tn' tc']).2
  have HTA := hide ha; have HTB := hide hb; have HOA := hide hoa; have HOB := hide hob; have HL := hide hL; have HKA := hide hK
  clear ha hb hL hK
  go_enter Tryz.func3, Tryz.ntmps3
  go_upto_region 1 with fail
  generalize (w.alloc (.cells #[.int .u8 kd, .bool ng, .slice la ln lc, .string tx, .int .i64 nm, .slice ia im ic, .slice ta tn tc] 26)).alloc (.cells #[.int .u8 kd', .bool ng', .slice la' ln' lc', .string tx', .int .i64 nm', .slice ia' im' ic', .slice ta' tn' tc'] 26) = w0 at *
  go_upto_region 3 with
    first
    | (go_at_call 5
       refine (awake_any w0 (HL.out.keep HK0.out) (HKA.out.keep HK0.out)).mono ?_
       rintro e w1 ⟨rfl, hk1⟩
       have HK1 := hide (HK0.out.trans' hk1 (fun _ _ => id) (fun _ _ => id) : Keeps NoB w w1)
       have HA1 := hide (HA0.out.keep hk1 id); have HB1 := hide (HB0.out.keep hk1 id)
       obtain ⟨x0, x1, x2, x3, x4, x5, x6⟩ := Blk.c7 (show Blk w1 (w.heap.size) _ #[.int .u8 kd, .bool ng, .slice la ln lc, .string tx, .int .i64 nm, .slice ia im ic, .slice ta tn tc] from HA1.out)
       obtain ⟨y0, y1, y2, y3, y4, y5, y6⟩ := Blk.c7 (show Blk w1 (w.heap.size + 1) _ #[.int .u8 kd', .bool ng', .slice la' ln' lc', .string tx', .int .i64 nm', .slice ia' im' ic', .slice ta' tn' tc'] from HB1.out)
       clear hk1)
    | fail
  clear HK0 HA0 HB0
  go_upto_region 5 with
    first
    | (go_at_call 6
       refine (small_any [a, b] [[.int .u8 kd, .bool ng, .slice la ln lc, .string tx, .int .i64 nm, .slice ia im ic, .slice ta tn tc], [.int .u8 kd', .bool ng', .slice la' ln' lc', .string tx', .int .i64 nm', .slice ia' im' ic', .slice ta' tn' tc']] (some ⟨w1.heap.size, 0, none⟩) 2 2 (w1.alloc (.cells #[.int .u8 kd, .bool ng, .slice la ln lc, .string tx, .int .i64 nm, .slice ia im ic, .slice ta tn tc, .int .u8 kd', .bool ng', .slice la' ln' lc', .string tx', .int .i64 nm', .slice ia' im' ic', .slice ta' tn' tc'] 26)) (fun _ => True) false (two_reads (Blk.new w1 26 #[.int .u8 kd, .bool ng, .slice la ln lc, .string tx, .int .i64 nm, .slice ia im ic, .slice ta tn tc, .int .u8 kd', .bool ng', .slice la' ln' lc', .string tx', .int .i64 nm', .slice ia' im' ic', .slice ta' tn' tc'])) (two_terms (TermIn.keep (HK1.out.alloc _) (fun _ _ => id) _ _ HTA.out) (TermIn.keep (HK1.out.alloc _) (fun _ _ => id) _ _ HTB.out)) (by intro t ht; simp at ht; rcases ht with rfl | rfl; exact HOA.out; exact HOB.out) (by omega)).mono ?_
       rintro e w2 ⟨⟨sm, rfl⟩, hk2⟩
       have hk2' : Keeps NoB w1 w2 := ((Keeps.refl NoB w1).alloc (.cells #[.int .u8 kd, .bool ng, .slice la ln lc, .string tx, .int .i64 nm, .slice ia im ic, .slice ta tn tc, .int .u8 kd', .bool ng', .slice la' ln' lc', .string tx', .int .i64 nm', .slice ia' im' ic', .slice ta' tn' tc'] 26)).trans' hk2 (fun _ _ => id) (fun _ _ => id)
       have HK2 := hide (HK1.out.trans' hk2' (fun _ _ => id) (fun _ _ => id) : Keeps NoB w w2)
       have HA2 := hide (HA1.out.keep hk2' id); have HB2 := hide (HB1.out.keep hk2' id)
       clear x0 x1 x2 x3 x4 x5 x6 y0 y1 y2 y3 y4 y5 y6
       obtain ⟨x0, x1, x2, x3, x4, x5, x6⟩ := Blk.c7 (show Blk w2 (w.heap.size) _ #[.int .u8 kd, .bool ng, .slice la ln lc, .string tx, .int .i64 nm, .slice ia im ic, .slice ta tn tc] from HA2.out)
       obtain ⟨y0, y1, y2, y3, y4, y5, y6⟩ := Blk.c7 (show Blk w2 (w.heap.size + 1) _ #[.int .u8 kd', .bool ng', .slice la' ln' lc', .string tx', .int .i64 nm', .slice ia' im' ic', .slice ta' tn' tc'] from HB2.out)
       clear hk2 hk2')
    | (go_at_call 7
       refine (tm_right a w2 (fun _ => True) false _ _ _ _ _ _ _ _ _ _ _ _ _ (TermIn.keep HK2.out (fun _ _ => id) _ _ HTA.out)).mono ?_
       rintro e w3 ⟨rfl, hk3⟩
       rw [HRA.out]
       have HK3 := hide (HK2.out.trans' hk3 (fun _ _ => id) (fun _ _ => id) : Keeps NoB w w3)
       have HA3 := hide (HA2.out.keep hk3 id); have HB3 := hide (HB2.out.keep hk3 id)
       clear x0 x1 x2 x3 x4 x5 x6 y0 y1 y2 y3 y4 y5 y6
       obtain ⟨x0, x1, x2, x3, x4, x5, x6⟩ := Blk.c7 (show Blk w3 (w.heap.size) _ #[.int .u8 kd, .bool ng, .slice la ln lc, .string tx, .int .i64 nm, .slice ia im ic, .slice ta tn tc] from HA3.out)
       obtain ⟨y0, y1, y2, y3, y4, y5, y6⟩ := Blk.c7 (show Blk w3 (w.heap.size + 1) _ #[.int .u8 kd', .bool ng', .slice la' ln' lc', .string tx', .int .i64 nm', .slice ia' im' ic', .slice ta' tn' tc'] from HB3.out)
       clear hk3)
    | fail
  · go_ret
    exact ⟨rfl, HK3.out⟩
  · go_ret
    exact ⟨rfl, HK2.out⟩
set_option maxRecDepth 100000 in
set_option maxHeartbeats 8000000 in
theorem order_bad_b (a b : Tm) (hoa : okT a) (hob : okT b) (hra : rightT a = true) (hrb : rightT b = false) (w : World) (hL : LaidK w) (hK : KindsAt w) (kd : Int) (ng : Bool) (la : Option Addr) (ln lc : Nat) (tx : ByteArray) (nm : Int) (ia : Option Addr) (im ic : Nat) (ta : Option Addr) (tn tc : Nat) (kd' : Int) (ng' : Bool) (la' : Option Addr) (ln' lc' : Nat) (tx' : ByteArray) (nm' : Int) (ia' : Option Addr) (im' ic' : Nat) (ta' : Option Addr) (tn' tc' : Nat) (ha : TermIn w (fun _ => True) false [.int .u8 kd, .bool ng, .slice la ln lc, .string tx, .int .i64 nm, .slice ia im ic, .slice ta tn tc] a) (hb : TermIn w (fun _ => True) false [.int .u8 kd', .bool ng', .slice la' ln' lc', .string tx', .int .i64 nm', .slice ia' im' ic', .slice ta' tn' tc'] b) :
    Calls Tryz.prog 3 #[.agg #[.int .u8 kd, .bool ng, .slice la ln lc, .string tx, .int .i64 nm, .slice ia im ic, .slice ta tn tc], .agg #[.int .u8 kd', .bool ng', .slice la' ln' lc', .string tx', .int .i64 nm', .slice ia' im' ic', .slice ta' tn' tc']] w fun e w' => e = .returned (.bool true) ∧ Keeps NoB w w' := by
  have HRA := hide hra; have HRB := hide hrb
  clear hra hrb
  have HK0 := hide (((Keeps.refl NoB w).alloc (.cells #[.int .u8 kd, .bool ng, .slice la ln lc, .string tx, .int .i64 nm, .slice ia im ic, .slice ta tn tc] 26)).alloc (.cells #[.int .u8 kd', .bool ng', .slice la' ln' lc', .string tx', .int .i64 nm', .slice ia' im' ic', .slice ta' tn' tc'] 26))
  have HA0 := hide (two_tblks w 26 26 #[.int .u8 kd, .bool ng, .slice la ln lc, .string tx, .int .i64 nm, .slice ia im ic, .slice ta tn tc] #[.int .u8 kd', .bool ng', .slice la' ln' lc', .string tx', .int .i64 nm', .slice ia' im' ic', .slice ta' tn' tc']).1; have HB0 := hide (two_tblks w 26 26 #[.int .u8 kd, .bool ng, .slice la ln lc, .string tx, .int .i64 nm, .slice ia im ic, .slice ta tn tc] #[.int .u8 kd', .bool ng', .slice la' ln' lc', .string tx', .int .i64 nm', .slice ia' im' ic', .slice ta' tn' tc']).2
  have HTA := hide ha; have HTB := hide hb; have HOA := hide hoa; have HOB := hide hob; have HL := hide hL; have HKA := hide hK
  clear ha hb hL hK
  go_enter Tryz.func3, Tryz.ntmps3
  go_upto_region 1 with fail
  generalize (w.alloc (.cells #[.int .u8 kd, .bool ng, .slice la ln lc, .string tx, .int .i64 nm, .slice ia im ic, .slice ta tn tc] 26)).alloc (.cells #[.int .u8 kd', .bool ng', .slice la' ln' lc', .string tx', .int .i64 nm', .slice ia' im' ic', .slice ta' tn' tc'] 26) = w0 at *
  go_upto_region 3 with
    first
    | (go_at_call 5
       refine (awake_any w0 (HL.out.keep HK0.out) (HKA.out.keep HK0.out)).mono ?_
       rintro e w1 ⟨rfl, hk1⟩
       have HK1 := hide (HK0.out.trans' hk1 (fun _ _ => id) (fun _ _ => id) : Keeps NoB w w1)
       have HA1 := hide (HA0.out.keep hk1 id); have HB1 := hide (HB0.out.keep hk1 id)
       obtain ⟨x0, x1, x2, x3, x4, x5, x6⟩ := Blk.c7 (show Blk w1 (w.heap.size) _ #[.int .u8 kd, .bool ng, .slice la ln lc, .string tx, .int .i64 nm, .slice ia im ic, .slice ta tn tc] from HA1.out)
       obtain ⟨y0, y1, y2, y3, y4, y5, y6⟩ := Blk.c7 (show Blk w1 (w.heap.size + 1) _ #[.int .u8 kd', .bool ng', .slice la' ln' lc', .string tx', .int .i64 nm', .slice ia' im' ic', .slice ta' tn' tc'] from HB1.out)
       clear hk1)
    | fail
  clear HK0 HA0 HB0
  go_upto_region 5 with
    first
    | (go_at_call 6
       refine (small_any [a, b] [[.int .u8 kd, .bool ng, .slice la ln lc, .string tx, .int .i64 nm, .slice ia im ic, .slice ta tn tc], [.int .u8 kd', .bool ng', .slice la' ln' lc', .string tx', .int .i64 nm', .slice ia' im' ic', .slice ta' tn' tc']] (some ⟨w1.heap.size, 0, none⟩) 2 2 (w1.alloc (.cells #[.int .u8 kd, .bool ng, .slice la ln lc, .string tx, .int .i64 nm, .slice ia im ic, .slice ta tn tc, .int .u8 kd', .bool ng', .slice la' ln' lc', .string tx', .int .i64 nm', .slice ia' im' ic', .slice ta' tn' tc'] 26)) (fun _ => True) false (two_reads (Blk.new w1 26 #[.int .u8 kd, .bool ng, .slice la ln lc, .string tx, .int .i64 nm, .slice ia im ic, .slice ta tn tc, .int .u8 kd', .bool ng', .slice la' ln' lc', .string tx', .int .i64 nm', .slice ia' im' ic', .slice ta' tn' tc'])) (two_terms (TermIn.keep (HK1.out.alloc _) (fun _ _ => id) _ _ HTA.out) (TermIn.keep (HK1.out.alloc _) (fun _ _ => id) _ _ HTB.out)) (by intro t ht; simp at ht; rcases ht with rfl | rfl; exact HOA.out; exact HOB.out) (by omega)).mono ?_
       rintro e w2 ⟨⟨sm, rfl⟩, hk2⟩
       have hk2' : Keeps NoB w1 w2 := ((Keeps.refl NoB w1).alloc (.cells #[.int .u8 kd, .bool ng, .slice la ln lc, .string tx, .int .i64 nm, .slice ia im ic, .slice ta tn tc, .int .u8 kd', .bool ng', .slice la' ln' lc', .string tx', .int .i64 nm', .slice ia' im' ic', .slice ta' tn' tc'] 26)).trans' hk2 (fun _ _ => id) (fun _ _ => id)
       have HK2 := hide (HK1.out.trans' hk2' (fun _ _ => id) (fun _ _ => id) : Keeps NoB w w2)
       have HA2 := hide (HA1.out.keep hk2' id); have HB2 := hide (HB1.out.keep hk2' id)
       clear x0 x1 x2 x3 x4 x5 x6 y0 y1 y2 y3 y4 y5 y6
       obtain ⟨x0, x1, x2, x3, x4, x5, x6⟩ := Blk.c7 (show Blk w2 (w.heap.size) _ #[.int .u8 kd, .bool ng, .slice la ln lc, .string tx, .int .i64 nm, .slice ia im ic, .slice ta tn tc] from HA2.out)
       obtain ⟨y0, y1, y2, y3, y4, y5, y6⟩ := Blk.c7 (show Blk w2 (w.heap.size + 1) _ #[.int .u8 kd', .bool ng', .slice la' ln' lc', .string tx', .int .i64 nm', .slice ia' im' ic', .slice ta' tn' tc'] from HB2.out)
       clear hk2 hk2')
    | (go_at_call 7
       refine (tm_right a w2 (fun _ => True) false _ _ _ _ _ _ _ _ _ _ _ _ _ (TermIn.keep HK2.out (fun _ _ => id) _ _ HTA.out)).mono ?_
       rintro e w3 ⟨rfl, hk3⟩
       rw [HRA.out]
       have HK3 := hide (HK2.out.trans' hk3 (fun _ _ => id) (fun _ _ => id) : Keeps NoB w w3)
       have HA3 := hide (HA2.out.keep hk3 id); have HB3 := hide (HB2.out.keep hk3 id)
       clear x0 x1 x2 x3 x4 x5 x6 y0 y1 y2 y3 y4 y5 y6
       obtain ⟨x0, x1, x2, x3, x4, x5, x6⟩ := Blk.c7 (show Blk w3 (w.heap.size) _ #[.int .u8 kd, .bool ng, .slice la ln lc, .string tx, .int .i64 nm, .slice ia im ic, .slice ta tn tc] from HA3.out)
       obtain ⟨y0, y1, y2, y3, y4, y5, y6⟩ := Blk.c7 (show Blk w3 (w.heap.size + 1) _ #[.int .u8 kd', .bool ng', .slice la' ln' lc', .string tx', .int .i64 nm', .slice ia' im' ic', .slice ta' tn' tc'] from HB3.out)
       clear hk3)
    | (go_at_call 7
       refine (tm_right b w3 (fun _ => True) false _ _ _ _ _ _ _ _ _ _ _ _ _ (TermIn.keep HK3.out (fun _ _ => id) _ _ HTB.out)).mono ?_
       rintro e w4 ⟨rfl, hk4⟩
       rw [HRB.out]
       have HK4 := hide (HK3.out.trans' hk4 (fun _ _ => id) (fun _ _ => id) : Keeps NoB w w4)
       have HA4 := hide (HA3.out.keep hk4 id); have HB4 := hide (HB3.out.keep hk4 id)
       clear x0 x1 x2 x3 x4 x5 x6 y0 y1 y2 y3 y4 y5 y6
       obtain ⟨x0, x1, x2, x3, x4, x5, x6⟩ := Blk.c7 (show Blk w4 (w.heap.size) _ #[.int .u8 kd, .bool ng, .slice la ln lc, .string tx, .int .i64 nm, .slice ia im ic, .slice ta tn tc] from HA4.out)
       obtain ⟨y0, y1, y2, y3, y4, y5, y6⟩ := Blk.c7 (show Blk w4 (w.heap.size + 1) _ #[.int .u8 kd', .bool ng', .slice la' ln' lc', .string tx', .int .i64 nm', .slice ia' im' ic', .slice ta' tn' tc'] from HB4.out)
       clear hk4)
    | fail
  · go_ret
    exact ⟨rfl, HK4.out⟩
  · go_ret
    exact ⟨rfl, HK2.out⟩
end Go.Proofs.YthbbalkhmofndaaGreatDoor
