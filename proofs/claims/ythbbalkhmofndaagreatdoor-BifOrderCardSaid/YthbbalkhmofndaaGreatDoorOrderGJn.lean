/- BifOrder's walk. Printed by mkorder.py. -/
import Derived.Test.YthbbalkhmofndaaGreatDoorAwakeJn
import Derived.Test.YthbbalkhmofndaaGreatDoorOrderBJn
import Derived.Test.YthbbalkhmofndaaGreatDoorSeq5Jn
namespace Go.Proofs.YthbbalkhmofndaaGreatDoor
open Go.RowKit

set_option maxRecDepth 100000 in
set_option maxHeartbeats 8000000 in
theorem order_gt (a b : Tm) (hoa : okT a) (hob : okT b) (hga : goodT a) (hgb : goodT b) (hc : 0 < compT a b) (w : World) (hL : LaidK w) (hK : KindsAt w) (kd : Int) (ng : Bool) (la : Option Addr) (ln lc : Nat) (tx : ByteArray) (nm : Int) (ia : Option Addr) (im ic : Nat) (ta : Option Addr) (tn tc : Nat) (kd' : Int) (ng' : Bool) (la' : Option Addr) (ln' lc' : Nat) (tx' : ByteArray) (nm' : Int) (ia' : Option Addr) (im' ic' : Nat) (ta' : Option Addr) (tn' tc' : Nat) (ha : TermIn w (fun _ => True) false [.int .u8 kd, .bool ng, .slice la ln lc, .string tx, .int .i64 nm, .slice ia im ic, .slice ta tn tc] a) (hb : TermIn w (fun _ => True) false [.int .u8 kd', .bool ng', .slice la' ln' lc', .string tx', .int .i64 nm', .slice ia' im' ic', .slice ta' tn' tc'] b) :
    Calls Tryz.prog 3 #[.agg #[.int .u8 kd, .bool ng, .slice la ln lc, .string tx, .int .i64 nm, .slice ia im ic, .slice ta tn tc], .agg #[.int .u8 kd', .bool ng', .slice la' ln' lc', .string tx', .int .i64 nm', .slice ia' im' ic', .slice ta' tn' tc']] w fun e w' => e = .returned (.bool true) ∧ Keeps NoB w w' := by
  have hself : ∀ t : Tm, goodT t → compT t t = 0 ∧ sameT t t = true := fun t h => by
    have h0 := order_self t
    exact ⟨by unfold compT; rw [if_pos ⟨h.1, h.1⟩]; exact h0, by unfold sameT; rw [h.1, h0]; rfl⟩
  have hor : compT a b = orderT a b := by unfold compT; rw [if_pos ⟨hga.1, hgb.1⟩]
  have hba : compT b a = - compT a b := by rw [hor]; unfold compT; rw [if_pos ⟨hgb.1, hga.1⟩]; exact order_anti a b
  have hc0 : ¬ compT a b < 0 := by omega
  have hc1 : ¬ compT a b = 0 := by omega
  have HLT := hide (show ∀ w, Calls Tryz.prog 56 #[.string ⟨#[60]⟩, .int .i64 (compT a b)] w (HeldP w false true) from fun w => by have h := held_4 (compT a b) w; simp only [if_neg hc0, if_neg hc1] at h; exact h)
  have HEQ := hide (show ∀ w, Calls Tryz.prog 56 #[.string ⟨#[61, 61]⟩, .int .i64 (compT a b)] w (HeldP w false true) from fun w => by have h := held_0 (compT a b) w; simp only [if_neg hc0, if_neg hc1] at h; exact h)
  have HGT := hide (show ∀ w, Calls Tryz.prog 56 #[.string ⟨#[62]⟩, .int .i64 (compT a b)] w (HeldP w true true) from fun w => by have h := held_6 (compT a b) w; simp only [if_neg hc0, if_neg hc1] at h; exact h)
  have HLE := hide (show ∀ w, Calls Tryz.prog 56 #[.string ⟨#[61, 60]⟩, .int .i64 (compT a b)] w (HeldP w false true) from fun w => by have h := held_5 (compT a b) w; simp only [if_neg hc0, if_neg hc1] at h; exact h)
  have HEX := hide (show ∀ w, Calls Tryz.prog 56 #[.string ⟨#[61, 58, 61]⟩, .int .i64 (compT a b)] w (HeldP w false true) from fun w => by have h := held_1 (compT a b) w; simp only [if_neg hc0, if_neg hc1] at h; exact h)
  have HNE := hide (show ∀ w, Calls Tryz.prog 56 #[.string ⟨#[47, 61]⟩, .int .i64 (compT a b)] w (HeldP w true true) from fun w => by have h := held_2 (compT a b) w; simp only [if_neg hc0, if_neg hc1] at h; exact h)
  have HYX := hide (show ∀ w, Calls Tryz.prog 56 #[.string ⟨#[61, 60]⟩, .int .i64 (compT b a)] w (HeldP w true true) from fun w => by have h := held_5 (compT b a) w; simp only [if_pos (show compT b a < 0 by omega)] at h; exact h)
  have HS1 := hide (hself a hga).2; have HS2 := hide (hself b hgb).2
  have HMX := hide hc0; have HMN := hide hc
  have HGA := hide hga; have HGB := hide hgb; have HRA := hide hga.1; have HRB := hide hgb.1
  have HGX := HGA; have HGY := HGB
  clear hself hor hba hc hga hgb hc0 hc1
  have HK0 := hide (((Keeps.refl NoB w).alloc (.cells #[.int .u8 kd, .bool ng, .slice la ln lc, .string tx, .int .i64 nm, .slice ia im ic, .slice ta tn tc] 26)).alloc (.cells #[.int .u8 kd', .bool ng', .slice la' ln' lc', .string tx', .int .i64 nm', .slice ia' im' ic', .slice ta' tn' tc'] 26))
  have HA0 := hide (two_tblks w 26 26 #[.int .u8 kd, .bool ng, .slice la ln lc, .string tx, .int .i64 nm, .slice ia im ic, .slice ta tn tc] #[.int .u8 kd', .bool ng', .slice la' ln' lc', .string tx', .int .i64 nm', .slice ia' im' ic', .slice ta' tn' tc']).1; have HB0 := hide (two_tblks w 26 26 #[.int .u8 kd, .bool ng, .slice la ln lc, .string tx, .int .i64 nm, .slice ia im ic, .slice ta tn tc] #[.int .u8 kd', .bool ng', .slice la' ln' lc', .string tx', .int .i64 nm', .slice ia' im' ic', .slice ta' tn' tc']).2
  have HTA := hide ha; have HTB := hide hb; have HOA := hide hoa; have HOB := hide hob; have HL := hide hL; have HKA := hide hK
  clear ha hb hL hK
  go_enter Tryz.func3, Tryz.ntmps3
  go_upto_region 1 with fail
  generalize (w.alloc (.cells #[.int .u8 kd, .bool ng, .slice la ln lc, .string tx, .int .i64 nm, .slice ia im ic, .slice ta tn tc] 26)).alloc (.cells #[.int .u8 kd', .bool ng', .slice la' ln' lc', .string tx', .int .i64 nm', .slice ia' im' ic', .slice ta' tn' tc'] 26) = w0 at *
  go_upto_region 3 with
    first
    | (go_at_call 5
       refine (awake_any w0 (HL.out.keep HK0.out) (HKA.out.keep HK0.out)).mono ?_
       rintro e w1 ⟨rfl, hk1⟩
       have HK1 := hide (HK0.out.trans' hk1 (fun _ _ => id) (fun _ _ => id) : Keeps NoB w w1)
       have HA1 := hide (HA0.out.keep hk1 id); have HB1 := hide (HB0.out.keep hk1 id)
       obtain ⟨x0, x1, x2, x3, x4, x5, x6⟩ := Blk.c7 (show Blk w1 (w.heap.size) _ #[.int .u8 kd, .bool ng, .slice la ln lc, .string tx, .int .i64 nm, .slice ia im ic, .slice ta tn tc] from HA1.out)
       obtain ⟨y0, y1, y2, y3, y4, y5, y6⟩ := Blk.c7 (show Blk w1 (w.heap.size + 1) _ #[.int .u8 kd', .bool ng', .slice la' ln' lc', .string tx', .int .i64 nm', .slice ia' im' ic', .slice ta' tn' tc'] from HB1.out)
       clear hk1)
    | fail
  clear HK0 HA0 HB0
  go_upto_region 5 with
    first
    | (go_at_call 6
       refine (small_any [a, b] [[.int .u8 kd, .bool ng, .slice la ln lc, .string tx, .int .i64 nm, .slice ia im ic, .slice ta tn tc], [.int .u8 kd', .bool ng', .slice la' ln' lc', .string tx', .int .i64 nm', .slice ia' im' ic', .slice ta' tn' tc']] (some ⟨w1.heap.size, 0, none⟩) 2 2 (w1.alloc (.cells #[.int .u8 kd, .bool ng, .slice la ln lc, .string tx, .int .i64 nm, .slice ia im ic, .slice ta tn tc, .int .u8 kd', .bool ng', .slice la' ln' lc', .string tx', .int .i64 nm', .slice ia' im' ic', .slice ta' tn' tc'] 26)) (fun _ => True) false (two_reads (Blk.new w1 26 #[.int .u8 kd, .bool ng, .slice la ln lc, .string tx, .int .i64 nm, .slice ia im ic, .slice ta tn tc, .int .u8 kd', .bool ng', .slice la' ln' lc', .string tx', .int .i64 nm', .slice ia' im' ic', .slice ta' tn' tc'])) (two_terms (TermIn.keep (HK1.out.alloc _) (fun _ _ => id) _ _ HTA.out) (TermIn.keep (HK1.out.alloc _) (fun _ _ => id) _ _ HTB.out)) (by intro t ht; simp at ht; rcases ht with rfl | rfl; exact HOA.out; exact HOB.out) (by omega)).mono ?_
       rintro e w2 ⟨⟨sm, rfl⟩, hk2⟩
       have hk2' : Keeps NoB w1 w2 := ((Keeps.refl NoB w1).alloc (.cells #[.int .u8 kd, .bool ng, .slice la ln lc, .string tx, .int .i64 nm, .slice ia im ic, .slice ta tn tc, .int .u8 kd', .bool ng', .slice la' ln' lc', .string tx', .int .i64 nm', .slice ia' im' ic', .slice ta' tn' tc'] 26)).trans' hk2 (fun _ _ => id) (fun _ _ => id)
       have HK2 := hide (HK1.out.trans' hk2' (fun _ _ => id) (fun _ _ => id) : Keeps NoB w w2)
       have HA2 := hide (HA1.out.keep hk2' id); have HB2 := hide (HB1.out.keep hk2' id)
       clear x0 x1 x2 x3 x4 x5 x6 y0 y1 y2 y3 y4 y5 y6
       obtain ⟨x0, x1, x2, x3, x4, x5, x6⟩ := Blk.c7 (show Blk w2 (w.heap.size) _ #[.int .u8 kd, .bool ng, .slice la ln lc, .string tx, .int .i64 nm, .slice ia im ic, .slice ta tn tc] from HA2.out)
       obtain ⟨y0, y1, y2, y3, y4, y5, y6⟩ := Blk.c7 (show Blk w2 (w.heap.size + 1) _ #[.int .u8 kd', .bool ng', .slice la' ln' lc', .string tx', .int .i64 nm', .slice ia' im' ic', .slice ta' tn' tc'] from HB2.out)
       clear hk2 hk2')
    | (go_at_call 7
       refine (tm_right a w2 (fun _ => True) false _ _ _ _ _ _ _ _ _ _ _ _ _ (TermIn.keep HK2.out (fun _ _ => id) _ _ HTA.out)).mono ?_
       rintro e w3 ⟨rfl, hk3⟩
       rw [HRA.out]
       have HK3 := hide (HK2.out.trans' hk3 (fun _ _ => id) (fun _ _ => id) : Keeps NoB w w3)
       have HA3 := hide (HA2.out.keep hk3 id); have HB3 := hide (HB2.out.keep hk3 id)
       clear x0 x1 x2 x3 x4 x5 x6 y0 y1 y2 y3 y4 y5 y6
       obtain ⟨x0, x1, x2, x3, x4, x5, x6⟩ := Blk.c7 (show Blk w3 (w.heap.size) _ #[.int .u8 kd, .bool ng, .slice la ln lc, .string tx, .int .i64 nm, .slice ia im ic, .slice ta tn tc] from HA3.out)
       obtain ⟨y0, y1, y2, y3, y4, y5, y6⟩ := Blk.c7 (show Blk w3 (w.heap.size + 1) _ #[.int .u8 kd', .bool ng', .slice la' ln' lc', .string tx', .int .i64 nm', .slice ia' im' ic', .slice ta' tn' tc'] from HB3.out)
       clear hk3)
    | (go_at_call 7
       refine (tm_right b w3 (fun _ => True) false _ _ _ _ _ _ _ _ _ _ _ _ _ (TermIn.keep HK3.out (fun _ _ => id) _ _ HTB.out)).mono ?_
       rintro e w4 ⟨rfl, hk4⟩
       rw [HRB.out]
       have HK4 := hide (HK3.out.trans' hk4 (fun _ _ => id) (fun _ _ => id) : Keeps NoB w w4)
       have HA4 := hide (HA3.out.keep hk4 id); have HB4 := hide (HB3.out.keep hk4 id)
       clear x0 x1 x2 x3 x4 x5 x6 y0 y1 y2 y3 y4 y5 y6
       obtain ⟨x0, x1, x2, x3, x4, x5, x6⟩ := Blk.c7 (show Blk w4 (w.heap.size) _ #[.int .u8 kd, .bool ng, .slice la ln lc, .string tx, .int .i64 nm, .slice ia im ic, .slice ta tn tc] from HA4.out)
       obtain ⟨y0, y1, y2, y3, y4, y5, y6⟩ := Blk.c7 (show Blk w4 (w.heap.size + 1) _ #[.int .u8 kd', .bool ng', .slice la' ln' lc', .string tx', .int .i64 nm', .slice ia' im' ic', .slice ta' tn' tc'] from HB4.out)
       clear hk4)
    | fail
  · have HKb := HK4; have HAb := HA4; have HBb := HB4
    have HTAb := hide (TermIn.keep HK4.out (fun _ _ => id) _ _ HTA.out); have HTBb := hide (TermIn.keep HK4.out (fun _ _ => id) _ _ HTB.out)
    have HLb := hide (HL.out.keep HK4.out)
    have HKc := hide (Keeps.refl NoB w4); have M1 := hide True.intro
    clear HK1 HK2 HK3 HK4 HA1 HA2 HA3 HA4 HB1 HB2 HB3 HB4 HTA HTB HL HKA HOA HOB
    go_upto_region 12 with
      first
      | (go_at_call 8
         have hm := M1
         clear hm M1
         refine (yes_two ⟨#[60]⟩ olit_lt okn_lt false _ _ HGA.out HGB.out _ (HLb.out.keep (HKc.out.alloc (.cells #[.int .u8 kd, .bool ng, .slice la ln lc, .string tx, .int .i64 nm, .slice ia im ic, .slice ta tn tc, .int .u8 kd', .bool ng', .slice la' ln' lc', .string tx', .int .i64 nm', .slice ia' im' ic', .slice ta' tn' tc'] 26))) _ _ _ _ _ _ _ _ _ _ _ _ _ _ _ _ _ _ _ _ _ _ _ _ _ _ _ _ (Blk.new _ 26 #[.int .u8 kd, .bool ng, .slice la ln lc, .string tx, .int .i64 nm, .slice ia im ic, .slice ta tn tc, .int .u8 kd', .bool ng', .slice la' ln' lc', .string tx', .int .i64 nm', .slice ia' im' ic', .slice ta' tn' tc']) (TermIn.keep (HKc.out.alloc (.cells #[.int .u8 kd, .bool ng, .slice la ln lc, .string tx, .int .i64 nm, .slice ia im ic, .slice ta tn tc, .int .u8 kd', .bool ng', .slice la' ln' lc', .string tx', .int .i64 nm', .slice ia' im' ic', .slice ta' tn' tc'] 26)) (fun _ _ => id) _ _ HTAb.out) (TermIn.keep (HKc.out.alloc (.cells #[.int .u8 kd, .bool ng, .slice la ln lc, .string tx, .int .i64 nm, .slice ia im ic, .slice ta tn tc, .int .u8 kd', .bool ng', .slice la' ln' lc', .string tx', .int .i64 nm', .slice ia' im' ic', .slice ta' tn' tc'] 26)) (fun _ _ => id) _ _ HTBb.out) HLT.out).mono ?_
         rintro e wn ⟨rfl, hkn⟩
         have M2 := hide True.intro
         have hkm := (HKc.out.alloc (.cells #[.int .u8 kd, .bool ng, .slice la ln lc, .string tx, .int .i64 nm, .slice ia im ic, .slice ta tn tc, .int .u8 kd', .bool ng', .slice la' ln' lc', .string tx', .int .i64 nm', .slice ia' im' ic', .slice ta' tn' tc'] 26)).trans' hkn (fun _ _ => id) (fun _ _ => id)
         clear HKc
         have HKc := hide hkm
         clear hkm hkn
         clear x0 x1 x2 x3 x4 x5 x6 y0 y1 y2 y3 y4 y5 y6
         have HAn := hide (HAb.out.keep HKc.out id); have HBn := hide (HBb.out.keep HKc.out id)
         obtain ⟨x0, x1, x2, x3, x4, x5, x6⟩ := Blk.c7 (show Blk wn (w.heap.size) _ #[.int .u8 kd, .bool ng, .slice la ln lc, .string tx, .int .i64 nm, .slice ia im ic, .slice ta tn tc] from HAn.out)
         obtain ⟨y0, y1, y2, y3, y4, y5, y6⟩ := Blk.c7 (show Blk wn (w.heap.size + 1) _ #[.int .u8 kd', .bool ng', .slice la' ln' lc', .string tx', .int .i64 nm', .slice ia' im' ic', .slice ta' tn' tc'] from HBn.out)
         clear HAn HBn)
      | (go_at_call 8
         have hm := M2
         clear hm M2
         refine (yes_two ⟨#[61, 61]⟩ olit_eq okn_eq false _ _ HGA.out HGB.out _ (HLb.out.keep (HKc.out.alloc (.cells #[.int .u8 kd, .bool ng, .slice la ln lc, .string tx, .int .i64 nm, .slice ia im ic, .slice ta tn tc, .int .u8 kd', .bool ng', .slice la' ln' lc', .string tx', .int .i64 nm', .slice ia' im' ic', .slice ta' tn' tc'] 26))) _ _ _ _ _ _ _ _ _ _ _ _ _ _ _ _ _ _ _ _ _ _ _ _ _ _ _ _ (Blk.new _ 26 #[.int .u8 kd, .bool ng, .slice la ln lc, .string tx, .int .i64 nm, .slice ia im ic, .slice ta tn tc, .int .u8 kd', .bool ng', .slice la' ln' lc', .string tx', .int .i64 nm', .slice ia' im' ic', .slice ta' tn' tc']) (TermIn.keep (HKc.out.alloc (.cells #[.int .u8 kd, .bool ng, .slice la ln lc, .string tx, .int .i64 nm, .slice ia im ic, .slice ta tn tc, .int .u8 kd', .bool ng', .slice la' ln' lc', .string tx', .int .i64 nm', .slice ia' im' ic', .slice ta' tn' tc'] 26)) (fun _ _ => id) _ _ HTAb.out) (TermIn.keep (HKc.out.alloc (.cells #[.int .u8 kd, .bool ng, .slice la ln lc, .string tx, .int .i64 nm, .slice ia im ic, .slice ta tn tc, .int .u8 kd', .bool ng', .slice la' ln' lc', .string tx', .int .i64 nm', .slice ia' im' ic', .slice ta' tn' tc'] 26)) (fun _ _ => id) _ _ HTBb.out) HEQ.out).mono ?_
         rintro e wn ⟨rfl, hkn⟩
         have M3 := hide True.intro
         have hkm := (HKc.out.alloc (.cells #[.int .u8 kd, .bool ng, .slice la ln lc, .string tx, .int .i64 nm, .slice ia im ic, .slice ta tn tc, .int .u8 kd', .bool ng', .slice la' ln' lc', .string tx', .int .i64 nm', .slice ia' im' ic', .slice ta' tn' tc'] 26)).trans' hkn (fun _ _ => id) (fun _ _ => id)
         clear HKc
         have HKc := hide hkm
         clear hkm hkn
         clear x0 x1 x2 x3 x4 x5 x6 y0 y1 y2 y3 y4 y5 y6
         have HAn := hide (HAb.out.keep HKc.out id); have HBn := hide (HBb.out.keep HKc.out id)
         obtain ⟨x0, x1, x2, x3, x4, x5, x6⟩ := Blk.c7 (show Blk wn (w.heap.size) _ #[.int .u8 kd, .bool ng, .slice la ln lc, .string tx, .int .i64 nm, .slice ia im ic, .slice ta tn tc] from HAn.out)
         obtain ⟨y0, y1, y2, y3, y4, y5, y6⟩ := Blk.c7 (show Blk wn (w.heap.size + 1) _ #[.int .u8 kd', .bool ng', .slice la' ln' lc', .string tx', .int .i64 nm', .slice ia' im' ic', .slice ta' tn' tc'] from HBn.out)
         clear HAn HBn)
      | (go_at_call 8
         have hm := M3
         clear hm M3
         refine (yes_two ⟨#[62]⟩ olit_gt okn_gt true _ _ HGA.out HGB.out _ (HLb.out.keep (HKc.out.alloc (.cells #[.int .u8 kd, .bool ng, .slice la ln lc, .string tx, .int .i64 nm, .slice ia im ic, .slice ta tn tc, .int .u8 kd', .bool ng', .slice la' ln' lc', .string tx', .int .i64 nm', .slice ia' im' ic', .slice ta' tn' tc'] 26))) _ _ _ _ _ _ _ _ _ _ _ _ _ _ _ _ _ _ _ _ _ _ _ _ _ _ _ _ (Blk.new _ 26 #[.int .u8 kd, .bool ng, .slice la ln lc, .string tx, .int .i64 nm, .slice ia im ic, .slice ta tn tc, .int .u8 kd', .bool ng', .slice la' ln' lc', .string tx', .int .i64 nm', .slice ia' im' ic', .slice ta' tn' tc']) (TermIn.keep (HKc.out.alloc (.cells #[.int .u8 kd, .bool ng, .slice la ln lc, .string tx, .int .i64 nm, .slice ia im ic, .slice ta tn tc, .int .u8 kd', .bool ng', .slice la' ln' lc', .string tx', .int .i64 nm', .slice ia' im' ic', .slice ta' tn' tc'] 26)) (fun _ _ => id) _ _ HTAb.out) (TermIn.keep (HKc.out.alloc (.cells #[.int .u8 kd, .bool ng, .slice la ln lc, .string tx, .int .i64 nm, .slice ia im ic, .slice ta tn tc, .int .u8 kd', .bool ng', .slice la' ln' lc', .string tx', .int .i64 nm', .slice ia' im' ic', .slice ta' tn' tc'] 26)) (fun _ _ => id) _ _ HTBb.out) HGT.out).mono ?_
         rintro e wn ⟨rfl, hkn⟩
         have M4 := hide True.intro
         have hkm := (HKc.out.alloc (.cells #[.int .u8 kd, .bool ng, .slice la ln lc, .string tx, .int .i64 nm, .slice ia im ic, .slice ta tn tc, .int .u8 kd', .bool ng', .slice la' ln' lc', .string tx', .int .i64 nm', .slice ia' im' ic', .slice ta' tn' tc'] 26)).trans' hkn (fun _ _ => id) (fun _ _ => id)
         clear HKc
         have HKc := hide hkm
         clear hkm hkn
         clear x0 x1 x2 x3 x4 x5 x6 y0 y1 y2 y3 y4 y5 y6
         have HAn := hide (HAb.out.keep HKc.out id); have HBn := hide (HBb.out.keep HKc.out id)
         obtain ⟨x0, x1, x2, x3, x4, x5, x6⟩ := Blk.c7 (show Blk wn (w.heap.size) _ #[.int .u8 kd, .bool ng, .slice la ln lc, .string tx, .int .i64 nm, .slice ia im ic, .slice ta tn tc] from HAn.out)
         obtain ⟨y0, y1, y2, y3, y4, y5, y6⟩ := Blk.c7 (show Blk wn (w.heap.size + 1) _ #[.int .u8 kd', .bool ng', .slice la' ln' lc', .string tx', .int .i64 nm', .slice ia' im' ic', .slice ta' tn' tc'] from HBn.out)
         clear HAn HBn)
      | fail
    have hA := HAb.out.keep HKc.out id; have hB := HBb.out.keep HKc.out id; have hTA := TermIn.keep HKc.out (fun _ _ => id) _ _ HTAb.out; have hTB := TermIn.keep HKc.out (fun _ _ => id) _ _ HTBb.out; have hLL := HLb.out.keep HKc.out; have hKK := HKb.out.trans' HKc.out (fun _ _ => id) (fun _ _ => id)
    clear HAb HBb HTAb HTBb HLb HKb HKc
    have HAb := hide hA; have HBb := hide hB; have HTAb := hide hTA; have HTBb := hide hTB; have HLb := hide hLL; have HKb := hide hKK
    clear hA hB hTA hTB hLL hKK
    have HKc := hide (Keeps.refl NoB wn)
    go_upto_region 13 with
      first
      | (go_at_call 9
         refine (law_max_a a b HGA.out HGB.out _ (HLb.out.keep (HKc.out.alloc (.cells #[.int .u8 kd, .bool ng, .slice la ln lc, .string tx, .int .i64 nm, .slice ia im ic, .slice ta tn tc, .int .u8 kd', .bool ng', .slice la' ln' lc', .string tx', .int .i64 nm', .slice ia' im' ic', .slice ta' tn' tc'] 26))) _ _ _ _ _ _ _ _ _ _ _ _ _ _ _ _ _ _ _ _ _ _ _ _ _ _ _ _ (Blk.new _ 26 #[.int .u8 kd, .bool ng, .slice la ln lc, .string tx, .int .i64 nm, .slice ia im ic, .slice ta tn tc, .int .u8 kd', .bool ng', .slice la' ln' lc', .string tx', .int .i64 nm', .slice ia' im' ic', .slice ta' tn' tc']) (TermIn.keep (HKc.out.alloc (.cells #[.int .u8 kd, .bool ng, .slice la ln lc, .string tx, .int .i64 nm, .slice ia im ic, .slice ta tn tc, .int .u8 kd', .bool ng', .slice la' ln' lc', .string tx', .int .i64 nm', .slice ia' im' ic', .slice ta' tn' tc'] 26)) (fun _ _ => id) _ _ HTAb.out) (TermIn.keep (HKc.out.alloc (.cells #[.int .u8 kd, .bool ng, .slice la ln lc, .string tx, .int .i64 nm, .slice ia im ic, .slice ta tn tc, .int .u8 kd', .bool ng', .slice la' ln' lc', .string tx', .int .i64 nm', .slice ia' im' ic', .slice ta' tn' tc'] 26)) (fun _ _ => id) _ _ HTBb.out) (by have h := HMX.out; omega)).mono ?_
         rintro e wn ⟨kvx, gvx, lvx, lvnx, lvcx, svx, mvx, ivx, ivnx, ivcx, tvx, tvnx, tvcx, rfl, htn, hkn⟩
         have HTN := hide htn
         have hkm := (HKc.out.alloc (.cells #[.int .u8 kd, .bool ng, .slice la ln lc, .string tx, .int .i64 nm, .slice ia im ic, .slice ta tn tc, .int .u8 kd', .bool ng', .slice la' ln' lc', .string tx', .int .i64 nm', .slice ia' im' ic', .slice ta' tn' tc'] 26)).trans' hkn (fun _ _ => id) (fun _ _ => id)
         clear HKc
         have HKc := hide hkm
         clear hkm hkn htn
         clear x0 x1 x2 x3 x4 x5 x6 y0 y1 y2 y3 y4 y5 y6)
      | fail
    have hkm := HKc.out.alloc (.cells #[.int .u8 kvx, .bool gvx, .slice lvx lvnx lvcx, .string svx, .int .i64 mvx, .slice ivx ivnx ivcx, .slice tvx tvnx tvcx] 26)
    have HPb := hide (Blk.new wn 26 #[.int .u8 kvx, .bool gvx, .slice lvx lvnx lvcx, .string svx, .int .i64 mvx, .slice ivx ivnx ivcx, .slice tvx tvnx tvcx])
    have HTXb := hide (TermIn.more (B' := fun _ => True) (fun _ _ _ => trivial) _ _ (TermIn.keep ((Keeps.refl NoB wn).alloc (.cells #[.int .u8 kvx, .bool gvx, .slice lvx lvnx lvcx, .string svx, .int .i64 mvx, .slice ivx ivnx ivcx, .slice tvx tvnx tvcx] 26)) (fun _ _ => id) _ _ HTN.out))
    clear HKc HTN
    have HKc := hide hkm
    clear hkm
    generalize wn.alloc (.cells #[.int .u8 kvx, .bool gvx, .slice lvx lvnx lvcx, .string svx, .int .i64 mvx, .slice ivx ivnx ivcx, .slice tvx tvnx tvcx] 26) = wqx at *
    generalize wn.heap.size = gx at *
    have hA := HAb.out.keep HKc.out id; have hB := HBb.out.keep HKc.out id; have hTA := TermIn.keep HKc.out (fun _ _ => id) _ _ HTAb.out; have hTB := TermIn.keep HKc.out (fun _ _ => id) _ _ HTBb.out; have hLL := HLb.out.keep HKc.out; have hKK := HKb.out.trans' HKc.out (fun _ _ => id) (fun _ _ => id)
    clear HAb HBb HTAb HTBb HLb HKb HKc
    have HAb := hide hA; have HBb := hide hB; have HTAb := hide hTA; have HTBb := hide hTB; have HLb := hide hLL; have HKb := hide hKK
    clear hA hB hTA hTB hLL hKK
    have HKc := hide (Keeps.refl NoB wqx)
    obtain ⟨x0, x1, x2, x3, x4, x5, x6⟩ := Blk.c7 (show Blk wqx (w.heap.size) _ #[.int .u8 kd, .bool ng, .slice la ln lc, .string tx, .int .i64 nm, .slice ia im ic, .slice ta tn tc] from HAb.out)
    obtain ⟨y0, y1, y2, y3, y4, y5, y6⟩ := Blk.c7 (show Blk wqx (w.heap.size + 1) _ #[.int .u8 kd', .bool ng', .slice la' ln' lc', .string tx', .int .i64 nm', .slice ia' im' ic', .slice ta' tn' tc'] from HBb.out)
    go_upto_region 14 with
      first
      | (go_at_call 9
         refine (law_min_b a b HGA.out HGB.out _ (HLb.out.keep (HKc.out.alloc (.cells #[.int .u8 kd, .bool ng, .slice la ln lc, .string tx, .int .i64 nm, .slice ia im ic, .slice ta tn tc, .int .u8 kd', .bool ng', .slice la' ln' lc', .string tx', .int .i64 nm', .slice ia' im' ic', .slice ta' tn' tc'] 26))) _ _ _ _ _ _ _ _ _ _ _ _ _ _ _ _ _ _ _ _ _ _ _ _ _ _ _ _ (Blk.new _ 26 #[.int .u8 kd, .bool ng, .slice la ln lc, .string tx, .int .i64 nm, .slice ia im ic, .slice ta tn tc, .int .u8 kd', .bool ng', .slice la' ln' lc', .string tx', .int .i64 nm', .slice ia' im' ic', .slice ta' tn' tc']) (TermIn.keep (HKc.out.alloc (.cells #[.int .u8 kd, .bool ng, .slice la ln lc, .string tx, .int .i64 nm, .slice ia im ic, .slice ta tn tc, .int .u8 kd', .bool ng', .slice la' ln' lc', .string tx', .int .i64 nm', .slice ia' im' ic', .slice ta' tn' tc'] 26)) (fun _ _ => id) _ _ HTAb.out) (TermIn.keep (HKc.out.alloc (.cells #[.int .u8 kd, .bool ng, .slice la ln lc, .string tx, .int .i64 nm, .slice ia im ic, .slice ta tn tc, .int .u8 kd', .bool ng', .slice la' ln' lc', .string tx', .int .i64 nm', .slice ia' im' ic', .slice ta' tn' tc'] 26)) (fun _ _ => id) _ _ HTBb.out) (by have h := HMN.out; omega)).mono ?_
         rintro e wn ⟨kvy, gvy, lvy, lvny, lvcy, svy, mvy, ivy, ivny, ivcy, tvy, tvny, tvcy, rfl, htn, hkn⟩
         have HTN := hide htn
         have hkm := (HKc.out.alloc (.cells #[.int .u8 kd, .bool ng, .slice la ln lc, .string tx, .int .i64 nm, .slice ia im ic, .slice ta tn tc, .int .u8 kd', .bool ng', .slice la' ln' lc', .string tx', .int .i64 nm', .slice ia' im' ic', .slice ta' tn' tc'] 26)).trans' hkn (fun _ _ => id) (fun _ _ => id)
         clear HKc
         have HKc := hide hkm
         clear hkm hkn htn
         clear x0 x1 x2 x3 x4 x5 x6 y0 y1 y2 y3 y4 y5 y6)
      | fail
    have hkm := HKc.out.alloc (.cells #[.int .u8 kvy, .bool gvy, .slice lvy lvny lvcy, .string svy, .int .i64 mvy, .slice ivy ivny ivcy, .slice tvy tvny tvcy] 26)
    have HQb := hide (Blk.new wn 26 #[.int .u8 kvy, .bool gvy, .slice lvy lvny lvcy, .string svy, .int .i64 mvy, .slice ivy ivny ivcy, .slice tvy tvny tvcy])
    have HTYb := hide (TermIn.more (B' := fun _ => True) (fun _ _ _ => trivial) _ _ (TermIn.keep ((Keeps.refl NoB wn).alloc (.cells #[.int .u8 kvy, .bool gvy, .slice lvy lvny lvcy, .string svy, .int .i64 mvy, .slice ivy ivny ivcy, .slice tvy tvny tvcy] 26)) (fun _ _ => id) _ _ HTN.out))
    clear HKc HTN
    have HKc := hide hkm
    clear hkm
    generalize wn.alloc (.cells #[.int .u8 kvy, .bool gvy, .slice lvy lvny lvcy, .string svy, .int .i64 mvy, .slice ivy ivny ivcy, .slice tvy tvny tvcy] 26) = wqy at *
    generalize wn.heap.size = gy at *
    have hA := HAb.out.keep HKc.out id; have hB := HBb.out.keep HKc.out id; have hTA := TermIn.keep HKc.out (fun _ _ => id) _ _ HTAb.out; have hTB := TermIn.keep HKc.out (fun _ _ => id) _ _ HTBb.out; have hLL := HLb.out.keep HKc.out; have hKK := HKb.out.trans' HKc.out (fun _ _ => id) (fun _ _ => id)
    have hP := HPb.out.keep HKc.out id
    have hTX := TermIn.keep HKc.out (fun _ _ => id) _ _ HTXb.out
    clear HAb HBb HTAb HTBb HLb HKb HKc HPb HTXb
    have HAb := hide hA; have HBb := hide hB; have HTAb := hide hTA; have HTBb := hide hTB; have HLb := hide hLL; have HKb := hide hKK
    have HPb := hide hP
    have HTXb := hide hTX
    clear hA hB hTA hTB hLL hKK hP hTX
    have HKc := hide (Keeps.refl NoB wqy)
    obtain ⟨x0, x1, x2, x3, x4, x5, x6⟩ := Blk.c7 (show Blk wqy (w.heap.size) _ #[.int .u8 kd, .bool ng, .slice la ln lc, .string tx, .int .i64 nm, .slice ia im ic, .slice ta tn tc] from HAb.out)
    obtain ⟨y0, y1, y2, y3, y4, y5, y6⟩ := Blk.c7 (show Blk wqy (w.heap.size + 1) _ #[.int .u8 kd', .bool ng', .slice la' ln' lc', .string tx', .int .i64 nm', .slice ia' im' ic', .slice ta' tn' tc'] from HBb.out)
    obtain ⟨p0, p1, p2, p3, p4, p5, p6⟩ := Blk.c7 (show Blk wqy (gx) _ #[.int .u8 kvx, .bool gvx, .slice lvx lvnx lvcx, .string svx, .int .i64 mvx, .slice ivx ivnx ivcx, .slice tvx tvnx tvcx] from HPb.out)
    obtain ⟨q0, q1, q2, q3, q4, q5, q6⟩ := Blk.c7 (show Blk wqy (gy) _ #[.int .u8 kvy, .bool gvy, .slice lvy lvny lvcy, .string svy, .int .i64 mvy, .slice ivy ivny ivcy, .slice tvy tvny tvcy] from HQb.out)
    clear x0 x1 x2 x3 x4 x5 x6 y0 y1 y2 y3 y4 y5 y6 p0 p1 p2 p3 p4 p5 p6 q0 q1 q2 q3 q4 q5 q6 HKc
    refine order_begin (fun W => Keeps NoB wqy W) (fun _ => true) (by kernel_rfl) 69 rfl ?_
    have HS : Keeps NoB wqy wqy.drew := (Keeps.refl _ _).drew
    refine order_pure (i := 0) rfl (by kernel_rfl) (fun _ _ _ h => h) (.inl ⟨rfl, fun _ => by go_simp; rfl⟩) ?_
    try simp only [Act.put, List.setIfInBounds_toArray, List.set_cons_succ, List.set_cons_zero]
    refine order_pure (i := 1) rfl (by kernel_rfl) (fun _ _ _ h => h) (.inl ⟨rfl, fun _ => by go_simp; rfl⟩) ?_
    try simp only [Act.put, List.setIfInBounds_toArray, List.set_cons_succ, List.set_cons_zero]
    refine order_pure (i := 2) rfl (by kernel_rfl) (fun _ _ _ h => h) (.inl ⟨rfl, fun _ => by go_simp; rfl⟩) ?_
    try simp only [Act.put, List.setIfInBounds_toArray, List.set_cons_succ, List.set_cons_zero]
    refine order_pure (i := 3) rfl (by kernel_rfl) (fun _ _ _ h => h) (.inl ⟨rfl, fun _ => by go_simp; rfl⟩) ?_
    try simp only [Act.put, List.setIfInBounds_toArray, List.set_cons_succ, List.set_cons_zero]
    refine order_pure (i := 4) rfl (by kernel_rfl) (fun _ _ _ h => h) (.inl ⟨rfl, fun _ => by go_simp; rfl⟩) ?_
    try simp only [Act.put, List.setIfInBounds_toArray, List.set_cons_succ, List.set_cons_zero]
    refine order_pure (i := 5) rfl (by kernel_rfl) (fun _ _ _ h => h) (.inl ⟨rfl, fun _ => by go_simp; rfl⟩) ?_
    try simp only [Act.put, List.setIfInBounds_toArray, List.set_cons_succ, List.set_cons_zero]
    refine order_pure (i := 6) rfl (by kernel_rfl) (fun _ _ _ h => h) (.inl ⟨rfl, fun _ => by go_simp; rfl⟩) ?_
    try simp only [Act.put, List.setIfInBounds_toArray, List.set_cons_succ, List.set_cons_zero]
    refine order_pure (i := 7) rfl (by kernel_rfl) (fun _ _ _ h => h) (.inl ⟨rfl, fun _ => by go_simp; rfl⟩) ?_
    try simp only [Act.put, List.setIfInBounds_toArray, List.set_cons_succ, List.set_cons_zero]
    refine order_pure (i := 8) rfl (by kernel_rfl) (fun _ _ _ h => h) (.inl ⟨rfl, fun _ => by go_simp; rfl⟩) ?_
    try simp only [Act.put, List.setIfInBounds_toArray, List.set_cons_succ, List.set_cons_zero]
    refine order_held (i := 9) rfl (by kernel_rfl) (fun _ _ _ h => h) (.inl ⟨rfl, fun W hW => by
      have q0 : W.cell? ⟨gy, 0, none⟩ = some (.int .u8 kvy) := hW.cell id (HQb.out.cell 0)
      have q1 : W.cell? ⟨gy, 1, none⟩ = some (.bool gvy) := hW.cell id (HQb.out.cell 1)
      have q2 : W.cell? ⟨gy, 2, none⟩ = some (.slice lvy lvny lvcy) := hW.cell id (HQb.out.cell 2)
      have q3 : W.cell? ⟨gy, 3, none⟩ = some (.string svy) := hW.cell id (HQb.out.cell 3)
      have q4 : W.cell? ⟨gy, 4, none⟩ = some (.int .i64 mvy) := hW.cell id (HQb.out.cell 4)
      have q5 : W.cell? ⟨gy, 5, none⟩ = some (.slice ivy ivny ivcy) := hW.cell id (HQb.out.cell 5)
      have q6 : W.cell? ⟨gy, 6, none⟩ = some (.slice tvy tvny tvcy) := hW.cell id (HQb.out.cell 6)
      go_simp; rfl⟩) HS ?_
    try simp only [Act.put, List.setIfInBounds_toArray, List.set_cons_succ, List.set_cons_zero]
    refine order_held (i := 10) rfl (by kernel_rfl) (fun _ _ _ h => h) (.inl ⟨rfl, fun W hW => by
      have q0 : W.cell? ⟨gx, 0, none⟩ = some (.int .u8 kvx) := hW.cell id (HPb.out.cell 0)
      have q1 : W.cell? ⟨gx, 1, none⟩ = some (.bool gvx) := hW.cell id (HPb.out.cell 1)
      have q2 : W.cell? ⟨gx, 2, none⟩ = some (.slice lvx lvnx lvcx) := hW.cell id (HPb.out.cell 2)
      have q3 : W.cell? ⟨gx, 3, none⟩ = some (.string svx) := hW.cell id (HPb.out.cell 3)
      have q4 : W.cell? ⟨gx, 4, none⟩ = some (.int .i64 mvx) := hW.cell id (HPb.out.cell 4)
      have q5 : W.cell? ⟨gx, 5, none⟩ = some (.slice ivx ivnx ivcx) := hW.cell id (HPb.out.cell 5)
      have q6 : W.cell? ⟨gx, 6, none⟩ = some (.slice tvx tvnx tvcx) := hW.cell id (HPb.out.cell 6)
      go_simp; rfl⟩) HS ?_
    try simp only [Act.put, List.setIfInBounds_toArray, List.set_cons_succ, List.set_cons_zero]
    generalize wqy.drew = wd at *
    refine order_one (i := 11) rfl (by kernel_rfl) (fun K hK => ?_)
    go_simp
    refine hK _ _ (fun _ h => h.alloc _) ?_
    clear hK
    try simp only [Act.put, List.setIfInBounds_toArray, List.set_cons_succ, List.set_cons_zero]
    have HV := hide (Blk.new wd 26 #[.int .u8 kvy, .bool gvy, .slice lvy lvny lvcy, .string svy, .int .i64 mvy, .slice ivy ivny ivcy, .slice tvy tvny tvcy, .int .u8 kvx, .bool gvx, .slice lvx lvnx lvcx, .string svx, .int .i64 mvx, .slice ivx ivnx ivcx, .slice tvx tvnx tvcx])
    have hs := HS.alloc (.cells #[.int .u8 kvy, .bool gvy, .slice lvy lvny lvcy, .string svy, .int .i64 mvy, .slice ivy ivny ivcy, .slice tvy tvny tvcy, .int .u8 kvx, .bool gvx, .slice lvx lvnx lvcx, .string svx, .int .i64 mvx, .slice ivx ivnx ivcx, .slice tvx tvnx tvcx] 26)
    clear HS
    generalize wd.alloc (.cells #[.int .u8 kvy, .bool gvy, .slice lvy lvny lvcy, .string svy, .int .i64 mvy, .slice ivy ivny ivcy, .slice tvy tvny tvcy, .int .u8 kvx, .bool gvx, .slice lvx lvnx lvcx, .string svx, .int .i64 mvx, .slice ivx ivnx ivcx, .slice tvx tvnx tvcx] 26) = w11 at *
    generalize wd.heap.size = g11 at *
    have HS := hs
    clear hs
    refine order_one (i := 12) rfl (by kernel_rfl) (fun K hK => ?_)
    go_simp
    refine (yes_two ⟨#[61, 60]⟩ olit_le okn_le true _ _ HGY.out HGX.out w11 (HLb.out.keep HS) g11 _ _ _ _ _ _ _ _ _ _ _ _ _ _ _ _ _ _ _ _ _ _ _ _ _ _ _ HV.out (TermIn.keep HS (fun _ _ => id) _ _ HTYb.out) (TermIn.keep HS (fun _ _ => id) _ _ HTXb.out) HYX.out).mono ?_
    rintro e w12 ⟨rfl, hk⟩
    have hs := HS.trans' hk (fun _ _ => id) (fun _ _ => id)
    refine hK _ _ (fun _ _ => hs) ?_
    clear hK hk HS HV
    have HS := hs
    clear hs
    try simp only [Act.put, List.setIfInBounds_toArray, List.set_cons_succ, List.set_cons_zero]
    refine order_pure (i := 13) rfl (by kernel_rfl) (fun _ _ _ h => h) (.inl ⟨rfl, fun _ => by go_simp; rfl⟩) ?_
    try simp only [Act.put, List.setIfInBounds_toArray, List.set_cons_succ, List.set_cons_zero]
    refine order_pure (i := 14) rfl (by kernel_rfl) (fun _ _ _ h => h) (.inl ⟨rfl, fun _ => by go_simp; rfl⟩) ?_
    try simp only [Act.put, List.setIfInBounds_toArray, List.set_cons_succ, List.set_cons_zero]
    refine order_held (i := 15) rfl (by kernel_rfl) (fun _ _ _ h => h) (.inl ⟨rfl, fun W hW => by
      have q0 : W.cell? ⟨w.heap.size, 0, none⟩ = some (.int .u8 kd) := hW.cell id (HAb.out.cell 0)
      have q1 : W.cell? ⟨w.heap.size, 1, none⟩ = some (.bool ng) := hW.cell id (HAb.out.cell 1)
      have q2 : W.cell? ⟨w.heap.size, 2, none⟩ = some (.slice la ln lc) := hW.cell id (HAb.out.cell 2)
      have q3 : W.cell? ⟨w.heap.size, 3, none⟩ = some (.string tx) := hW.cell id (HAb.out.cell 3)
      have q4 : W.cell? ⟨w.heap.size, 4, none⟩ = some (.int .i64 nm) := hW.cell id (HAb.out.cell 4)
      have q5 : W.cell? ⟨w.heap.size, 5, none⟩ = some (.slice ia im ic) := hW.cell id (HAb.out.cell 5)
      have q6 : W.cell? ⟨w.heap.size, 6, none⟩ = some (.slice ta tn tc) := hW.cell id (HAb.out.cell 6)
      go_simp; rfl⟩) HS ?_
    try simp only [Act.put, List.setIfInBounds_toArray, List.set_cons_succ, List.set_cons_zero]
    refine order_held (i := 16) rfl (by kernel_rfl) (fun _ _ _ h => h) (.inl ⟨rfl, fun W hW => by
      have q0 : W.cell? ⟨w.heap.size + 1, 0, none⟩ = some (.int .u8 kd') := hW.cell id (HBb.out.cell 0)
      have q1 : W.cell? ⟨w.heap.size + 1, 1, none⟩ = some (.bool ng') := hW.cell id (HBb.out.cell 1)
      have q2 : W.cell? ⟨w.heap.size + 1, 2, none⟩ = some (.slice la' ln' lc') := hW.cell id (HBb.out.cell 2)
      have q3 : W.cell? ⟨w.heap.size + 1, 3, none⟩ = some (.string tx') := hW.cell id (HBb.out.cell 3)
      have q4 : W.cell? ⟨w.heap.size + 1, 4, none⟩ = some (.int .i64 nm') := hW.cell id (HBb.out.cell 4)
      have q5 : W.cell? ⟨w.heap.size + 1, 5, none⟩ = some (.slice ia' im' ic') := hW.cell id (HBb.out.cell 5)
      have q6 : W.cell? ⟨w.heap.size + 1, 6, none⟩ = some (.slice ta' tn' tc') := hW.cell id (HBb.out.cell 6)
      go_simp; rfl⟩) HS ?_
    try simp only [Act.put, List.setIfInBounds_toArray, List.set_cons_succ, List.set_cons_zero]
    refine order_held (i := 19) rfl (by kernel_rfl) (fun _ _ _ h => h) (.inl ⟨rfl, fun W hW => by
      have q0 : W.cell? ⟨w.heap.size, 0, none⟩ = some (.int .u8 kd) := hW.cell id (HAb.out.cell 0)
      have q1 : W.cell? ⟨w.heap.size, 1, none⟩ = some (.bool ng) := hW.cell id (HAb.out.cell 1)
      have q2 : W.cell? ⟨w.heap.size, 2, none⟩ = some (.slice la ln lc) := hW.cell id (HAb.out.cell 2)
      have q3 : W.cell? ⟨w.heap.size, 3, none⟩ = some (.string tx) := hW.cell id (HAb.out.cell 3)
      have q4 : W.cell? ⟨w.heap.size, 4, none⟩ = some (.int .i64 nm) := hW.cell id (HAb.out.cell 4)
      have q5 : W.cell? ⟨w.heap.size, 5, none⟩ = some (.slice ia im ic) := hW.cell id (HAb.out.cell 5)
      have q6 : W.cell? ⟨w.heap.size, 6, none⟩ = some (.slice ta tn tc) := hW.cell id (HAb.out.cell 6)
      go_simp; rfl⟩) HS ?_
    try simp only [Act.put, List.setIfInBounds_toArray, List.set_cons_succ, List.set_cons_zero]
    refine order_held (i := 20) rfl (by kernel_rfl) (fun _ _ _ h => h) (.inl ⟨rfl, fun W hW => by
      have q0 : W.cell? ⟨w.heap.size + 1, 0, none⟩ = some (.int .u8 kd') := hW.cell id (HBb.out.cell 0)
      have q1 : W.cell? ⟨w.heap.size + 1, 1, none⟩ = some (.bool ng') := hW.cell id (HBb.out.cell 1)
      have q2 : W.cell? ⟨w.heap.size + 1, 2, none⟩ = some (.slice la' ln' lc') := hW.cell id (HBb.out.cell 2)
      have q3 : W.cell? ⟨w.heap.size + 1, 3, none⟩ = some (.string tx') := hW.cell id (HBb.out.cell 3)
      have q4 : W.cell? ⟨w.heap.size + 1, 4, none⟩ = some (.int .i64 nm') := hW.cell id (HBb.out.cell 4)
      have q5 : W.cell? ⟨w.heap.size + 1, 5, none⟩ = some (.slice ia' im' ic') := hW.cell id (HBb.out.cell 5)
      have q6 : W.cell? ⟨w.heap.size + 1, 6, none⟩ = some (.slice ta' tn' tc') := hW.cell id (HBb.out.cell 6)
      go_simp; rfl⟩) HS ?_
    try simp only [Act.put, List.setIfInBounds_toArray, List.set_cons_succ, List.set_cons_zero]
    refine order_group (b1 := 17) (c1 := 18) (b2 := 21) (c2 := 22) rfl rfl rfl rfl (by kernel_rfl) (PairAt #[.int .u8 kd, .bool ng, .slice la ln lc, .string tx, .int .i64 nm, .slice ia im ic, .slice ta tn tc, .int .u8 kd', .bool ng', .slice la' ln' lc', .string tx', .int .i64 nm', .slice ia' im' ic', .slice ta' tn' tc']) (PairAt #[.int .u8 kd, .bool ng, .slice la ln lc, .string tx, .int .i64 nm, .slice ia im ic, .slice ta tn tc, .int .u8 kd', .bool ng', .slice la' ln' lc', .string tx', .int .i64 nm', .slice ia' im' ic', .slice ta' tn' tc']) (.bool false) (.bool false) HS ?_ ?_ ?_ ?_ ?_ ?_ ?_ ?_ ?_
    · intro W K hs hK
      unfold Step
      try simp only [Act.put, List.setIfInBounds_toArray, List.set_cons_succ, List.set_cons_zero]
      go_simp
      refine hK (.slice (some ⟨W.heap.size, 0, none⟩) 2 2) _ _ ?_ (hs.alloc _) ⟨W.heap.size, rfl, Blk.new W _ _⟩
      · try simp only [Act.put, List.setIfInBounds_toArray, List.set_cons_succ, List.set_cons_zero]
        try rfl
    · intro y W K hs hv hK
      obtain ⟨gv, rfl, hv⟩ := hv
      unfold Step
      try simp only [Act.put, List.setIfInBounds_toArray, List.set_cons_succ, List.set_cons_zero]
      go_simp
      refine hK (.slice (some ⟨W.heap.size, 0, none⟩) 2 2) _ _ ?_ (hs.alloc _) ⟨W.heap.size, rfl, Blk.new W _ _⟩ ⟨gv, rfl, hv.alloc _⟩
      · try simp only [Act.put, List.setIfInBounds_toArray, List.set_cons_succ, List.set_cons_zero]
        try rfl
    · intro W K hs hK
      unfold Step
      try simp only [Act.put, List.setIfInBounds_toArray, List.set_cons_succ, List.set_cons_zero]
      go_simp
      refine hK (.slice (some ⟨W.heap.size, 0, none⟩) 2 2) _ _ ?_ (hs.alloc _) ⟨W.heap.size, rfl, Blk.new W _ _⟩
      · try simp only [Act.put, List.setIfInBounds_toArray, List.set_cons_succ, List.set_cons_zero]
        try rfl
    · intro x W K hs hv hK
      obtain ⟨gv, rfl, hv⟩ := hv
      unfold Step
      try simp only [Act.put, List.setIfInBounds_toArray, List.set_cons_succ, List.set_cons_zero]
      go_simp
      refine hK (.slice (some ⟨W.heap.size, 0, none⟩) 2 2) _ _ ?_ (hs.alloc _) ⟨gv, rfl, hv.alloc _⟩ ⟨W.heap.size, rfl, Blk.new W _ _⟩
      · try simp only [Act.put, List.setIfInBounds_toArray, List.set_cons_succ, List.set_cons_zero]
        try rfl
    · intro x W K hs hK
      unfold Step
      try simp only [Act.put, List.setIfInBounds_toArray, List.set_cons_succ, List.set_cons_zero]
      go_simp
      refine hK (.slice (some ⟨W.heap.size, 0, none⟩) 2 2) _ _ ?_ (hs.alloc _) ⟨W.heap.size, rfl, Blk.new W _ _⟩
      · try simp only [Act.put, List.setIfInBounds_toArray, List.set_cons_succ, List.set_cons_zero]
        try rfl
    · intro x W K hs hv hK
      obtain ⟨gv, rfl, hv⟩ := hv
      unfold Step
      try simp only [Act.put, List.setIfInBounds_toArray, List.set_cons_succ, List.set_cons_zero]
      go_simp
      refine (yes_two ⟨#[61, 61]⟩ olit_eq okn_eq false _ _ HGA.out HGB.out W (HLb.out.keep hs) gv _ _ _ _ _ _ _ _ _ _ _ _ _ _ _ _ _ _ _ _ _ _ _ _ _ _ _ hv (TermIn.keep hs (fun _ _ => id) _ _ HTAb.out) (TermIn.keep hs (fun _ _ => id) _ _ HTBb.out) HEQ.out).mono ?_
      rintro e W' ⟨rfl, hk⟩
      refine hK _ _ ?_ (hs.trans' hk (fun _ _ => id) (fun _ _ => id))
      · try simp only [Act.put, List.setIfInBounds_toArray, List.set_cons_succ, List.set_cons_zero]
        try rfl
    · intro x y W K hs hv hv2 hK
      obtain ⟨gv, rfl, hv⟩ := hv
      obtain ⟨gv2, rfl, hv2⟩ := hv2
      unfold Step
      try simp only [Act.put, List.setIfInBounds_toArray, List.set_cons_succ, List.set_cons_zero]
      go_simp
      refine (yes_two ⟨#[61, 61]⟩ olit_eq okn_eq false _ _ HGA.out HGB.out W (HLb.out.keep hs) gv _ _ _ _ _ _ _ _ _ _ _ _ _ _ _ _ _ _ _ _ _ _ _ _ _ _ _ hv (TermIn.keep hs (fun _ _ => id) _ _ HTAb.out) (TermIn.keep hs (fun _ _ => id) _ _ HTBb.out) HEQ.out).mono ?_
      rintro e W' ⟨rfl, hk⟩
      refine hK _ _ ?_ (hs.trans' hk (fun _ _ => id) (fun _ _ => id)) ⟨gv2, rfl, hv2.keep hk id⟩
      · try simp only [Act.put, List.setIfInBounds_toArray, List.set_cons_succ, List.set_cons_zero]
        try rfl
    · intro x y W K hs hv hK
      obtain ⟨gv, rfl, hv⟩ := hv
      unfold Step
      try simp only [Act.put, List.setIfInBounds_toArray, List.set_cons_succ, List.set_cons_zero]
      go_simp
      refine (yes_two ⟨#[61, 58, 61]⟩ olit_ex okn_ex false _ _ HGA.out HGB.out W (HLb.out.keep hs) gv _ _ _ _ _ _ _ _ _ _ _ _ _ _ _ _ _ _ _ _ _ _ _ _ _ _ _ hv (TermIn.keep hs (fun _ _ => id) _ _ HTAb.out) (TermIn.keep hs (fun _ _ => id) _ _ HTBb.out) HEX.out).mono ?_
      rintro e W' ⟨rfl, hk⟩
      refine hK _ _ ?_ (hs.trans' hk (fun _ _ => id) (fun _ _ => id))
      · try simp only [Act.put, List.setIfInBounds_toArray, List.set_cons_succ, List.set_cons_zero]
        try rfl
    clear HS
    intro sl17 sl21 wg17 HS
    try simp only [Act.put, List.setIfInBounds_toArray, List.set_cons_succ, List.set_cons_zero]
    refine order_pure (i := 23) rfl (by kernel_rfl) (fun _ _ _ h => h) (.inl ⟨rfl, fun _ => by go_simp; rfl⟩) ?_
    try simp only [Act.put, List.setIfInBounds_toArray, List.set_cons_succ, List.set_cons_zero]
    refine order_pure (i := 24) rfl (by kernel_rfl) (fun _ _ _ h => h) (.inl ⟨rfl, fun _ => by go_simp; rfl⟩) ?_
    try simp only [Act.put, List.setIfInBounds_toArray, List.set_cons_succ, List.set_cons_zero]
    refine order_pure (i := 25) rfl (by kernel_rfl) (fun _ _ _ h => h) (.inl ⟨rfl, fun _ => by go_simp; rfl⟩) ?_
    try simp only [Act.put, List.setIfInBounds_toArray, List.set_cons_succ, List.set_cons_zero]
    refine order_held (i := 26) rfl (by kernel_rfl) (fun _ _ _ h => h) (.inl ⟨rfl, fun W hW => by
      have q0 : W.cell? ⟨w.heap.size, 0, none⟩ = some (.int .u8 kd) := hW.cell id (HAb.out.cell 0)
      have q1 : W.cell? ⟨w.heap.size, 1, none⟩ = some (.bool ng) := hW.cell id (HAb.out.cell 1)
      have q2 : W.cell? ⟨w.heap.size, 2, none⟩ = some (.slice la ln lc) := hW.cell id (HAb.out.cell 2)
      have q3 : W.cell? ⟨w.heap.size, 3, none⟩ = some (.string tx) := hW.cell id (HAb.out.cell 3)
      have q4 : W.cell? ⟨w.heap.size, 4, none⟩ = some (.int .i64 nm) := hW.cell id (HAb.out.cell 4)
      have q5 : W.cell? ⟨w.heap.size, 5, none⟩ = some (.slice ia im ic) := hW.cell id (HAb.out.cell 5)
      have q6 : W.cell? ⟨w.heap.size, 6, none⟩ = some (.slice ta tn tc) := hW.cell id (HAb.out.cell 6)
      go_simp; rfl⟩) HS ?_
    try simp only [Act.put, List.setIfInBounds_toArray, List.set_cons_succ, List.set_cons_zero]
    refine order_held (i := 27) rfl (by kernel_rfl) (fun _ _ _ h => h) (.inl ⟨rfl, fun W hW => by
      have q0 : W.cell? ⟨w.heap.size + 1, 0, none⟩ = some (.int .u8 kd') := hW.cell id (HBb.out.cell 0)
      have q1 : W.cell? ⟨w.heap.size + 1, 1, none⟩ = some (.bool ng') := hW.cell id (HBb.out.cell 1)
      have q2 : W.cell? ⟨w.heap.size + 1, 2, none⟩ = some (.slice la' ln' lc') := hW.cell id (HBb.out.cell 2)
      have q3 : W.cell? ⟨w.heap.size + 1, 3, none⟩ = some (.string tx') := hW.cell id (HBb.out.cell 3)
      have q4 : W.cell? ⟨w.heap.size + 1, 4, none⟩ = some (.int .i64 nm') := hW.cell id (HBb.out.cell 4)
      have q5 : W.cell? ⟨w.heap.size + 1, 5, none⟩ = some (.slice ia' im' ic') := hW.cell id (HBb.out.cell 5)
      have q6 : W.cell? ⟨w.heap.size + 1, 6, none⟩ = some (.slice ta' tn' tc') := hW.cell id (HBb.out.cell 6)
      go_simp; rfl⟩) HS ?_
    try simp only [Act.put, List.setIfInBounds_toArray, List.set_cons_succ, List.set_cons_zero]
    refine order_held (i := 30) rfl (by kernel_rfl) (fun _ _ _ h => h) (.inl ⟨rfl, fun W hW => by
      have q0 : W.cell? ⟨w.heap.size, 0, none⟩ = some (.int .u8 kd) := hW.cell id (HAb.out.cell 0)
      have q1 : W.cell? ⟨w.heap.size, 1, none⟩ = some (.bool ng) := hW.cell id (HAb.out.cell 1)
      have q2 : W.cell? ⟨w.heap.size, 2, none⟩ = some (.slice la ln lc) := hW.cell id (HAb.out.cell 2)
      have q3 : W.cell? ⟨w.heap.size, 3, none⟩ = some (.string tx) := hW.cell id (HAb.out.cell 3)
      have q4 : W.cell? ⟨w.heap.size, 4, none⟩ = some (.int .i64 nm) := hW.cell id (HAb.out.cell 4)
      have q5 : W.cell? ⟨w.heap.size, 5, none⟩ = some (.slice ia im ic) := hW.cell id (HAb.out.cell 5)
      have q6 : W.cell? ⟨w.heap.size, 6, none⟩ = some (.slice ta tn tc) := hW.cell id (HAb.out.cell 6)
      go_simp; rfl⟩) HS ?_
    try simp only [Act.put, List.setIfInBounds_toArray, List.set_cons_succ, List.set_cons_zero]
    refine order_held (i := 31) rfl (by kernel_rfl) (fun _ _ _ h => h) (.inl ⟨rfl, fun W hW => by
      have q0 : W.cell? ⟨w.heap.size + 1, 0, none⟩ = some (.int .u8 kd') := hW.cell id (HBb.out.cell 0)
      have q1 : W.cell? ⟨w.heap.size + 1, 1, none⟩ = some (.bool ng') := hW.cell id (HBb.out.cell 1)
      have q2 : W.cell? ⟨w.heap.size + 1, 2, none⟩ = some (.slice la' ln' lc') := hW.cell id (HBb.out.cell 2)
      have q3 : W.cell? ⟨w.heap.size + 1, 3, none⟩ = some (.string tx') := hW.cell id (HBb.out.cell 3)
      have q4 : W.cell? ⟨w.heap.size + 1, 4, none⟩ = some (.int .i64 nm') := hW.cell id (HBb.out.cell 4)
      have q5 : W.cell? ⟨w.heap.size + 1, 5, none⟩ = some (.slice ia' im' ic') := hW.cell id (HBb.out.cell 5)
      have q6 : W.cell? ⟨w.heap.size + 1, 6, none⟩ = some (.slice ta' tn' tc') := hW.cell id (HBb.out.cell 6)
      go_simp; rfl⟩) HS ?_
    try simp only [Act.put, List.setIfInBounds_toArray, List.set_cons_succ, List.set_cons_zero]
    refine order_group (b1 := 28) (c1 := 29) (b2 := 32) (c2 := 33) rfl rfl rfl rfl (by kernel_rfl) (PairAt #[.int .u8 kd, .bool ng, .slice la ln lc, .string tx, .int .i64 nm, .slice ia im ic, .slice ta tn tc, .int .u8 kd', .bool ng', .slice la' ln' lc', .string tx', .int .i64 nm', .slice ia' im' ic', .slice ta' tn' tc']) (PairAt #[.int .u8 kd, .bool ng, .slice la ln lc, .string tx, .int .i64 nm, .slice ia im ic, .slice ta tn tc, .int .u8 kd', .bool ng', .slice la' ln' lc', .string tx', .int .i64 nm', .slice ia' im' ic', .slice ta' tn' tc']) (.bool true) (.bool false) HS ?_ ?_ ?_ ?_ ?_ ?_ ?_ ?_ ?_
    · intro W K hs hK
      unfold Step
      try simp only [Act.put, List.setIfInBounds_toArray, List.set_cons_succ, List.set_cons_zero]
      go_simp
      refine hK (.slice (some ⟨W.heap.size, 0, none⟩) 2 2) _ _ ?_ (hs.alloc _) ⟨W.heap.size, rfl, Blk.new W _ _⟩
      · try simp only [Act.put, List.setIfInBounds_toArray, List.set_cons_succ, List.set_cons_zero]
        try rfl
    · intro y W K hs hv hK
      obtain ⟨gv, rfl, hv⟩ := hv
      unfold Step
      try simp only [Act.put, List.setIfInBounds_toArray, List.set_cons_succ, List.set_cons_zero]
      go_simp
      refine hK (.slice (some ⟨W.heap.size, 0, none⟩) 2 2) _ _ ?_ (hs.alloc _) ⟨W.heap.size, rfl, Blk.new W _ _⟩ ⟨gv, rfl, hv.alloc _⟩
      · try simp only [Act.put, List.setIfInBounds_toArray, List.set_cons_succ, List.set_cons_zero]
        try rfl
    · intro W K hs hK
      unfold Step
      try simp only [Act.put, List.setIfInBounds_toArray, List.set_cons_succ, List.set_cons_zero]
      go_simp
      refine hK (.slice (some ⟨W.heap.size, 0, none⟩) 2 2) _ _ ?_ (hs.alloc _) ⟨W.heap.size, rfl, Blk.new W _ _⟩
      · try simp only [Act.put, List.setIfInBounds_toArray, List.set_cons_succ, List.set_cons_zero]
        try rfl
    · intro x W K hs hv hK
      obtain ⟨gv, rfl, hv⟩ := hv
      unfold Step
      try simp only [Act.put, List.setIfInBounds_toArray, List.set_cons_succ, List.set_cons_zero]
      go_simp
      refine hK (.slice (some ⟨W.heap.size, 0, none⟩) 2 2) _ _ ?_ (hs.alloc _) ⟨gv, rfl, hv.alloc _⟩ ⟨W.heap.size, rfl, Blk.new W _ _⟩
      · try simp only [Act.put, List.setIfInBounds_toArray, List.set_cons_succ, List.set_cons_zero]
        try rfl
    · intro x W K hs hK
      unfold Step
      try simp only [Act.put, List.setIfInBounds_toArray, List.set_cons_succ, List.set_cons_zero]
      go_simp
      refine hK (.slice (some ⟨W.heap.size, 0, none⟩) 2 2) _ _ ?_ (hs.alloc _) ⟨W.heap.size, rfl, Blk.new W _ _⟩
      · try simp only [Act.put, List.setIfInBounds_toArray, List.set_cons_succ, List.set_cons_zero]
        try rfl
    · intro x W K hs hv hK
      obtain ⟨gv, rfl, hv⟩ := hv
      unfold Step
      try simp only [Act.put, List.setIfInBounds_toArray, List.set_cons_succ, List.set_cons_zero]
      go_simp
      refine (yes_two ⟨#[47, 61]⟩ olit_ne okn_ne true _ _ HGA.out HGB.out W (HLb.out.keep hs) gv _ _ _ _ _ _ _ _ _ _ _ _ _ _ _ _ _ _ _ _ _ _ _ _ _ _ _ hv (TermIn.keep hs (fun _ _ => id) _ _ HTAb.out) (TermIn.keep hs (fun _ _ => id) _ _ HTBb.out) HNE.out).mono ?_
      rintro e W' ⟨rfl, hk⟩
      refine hK _ _ ?_ (hs.trans' hk (fun _ _ => id) (fun _ _ => id))
      · try simp only [Act.put, List.setIfInBounds_toArray, List.set_cons_succ, List.set_cons_zero]
        try rfl
    · intro x y W K hs hv hv2 hK
      obtain ⟨gv, rfl, hv⟩ := hv
      obtain ⟨gv2, rfl, hv2⟩ := hv2
      unfold Step
      try simp only [Act.put, List.setIfInBounds_toArray, List.set_cons_succ, List.set_cons_zero]
      go_simp
      refine (yes_two ⟨#[47, 61]⟩ olit_ne okn_ne true _ _ HGA.out HGB.out W (HLb.out.keep hs) gv _ _ _ _ _ _ _ _ _ _ _ _ _ _ _ _ _ _ _ _ _ _ _ _ _ _ _ hv (TermIn.keep hs (fun _ _ => id) _ _ HTAb.out) (TermIn.keep hs (fun _ _ => id) _ _ HTBb.out) HNE.out).mono ?_
      rintro e W' ⟨rfl, hk⟩
      refine hK _ _ ?_ (hs.trans' hk (fun _ _ => id) (fun _ _ => id)) ⟨gv2, rfl, hv2.keep hk id⟩
      · try simp only [Act.put, List.setIfInBounds_toArray, List.set_cons_succ, List.set_cons_zero]
        try rfl
    · intro x y W K hs hv hK
      obtain ⟨gv, rfl, hv⟩ := hv
      unfold Step
      try simp only [Act.put, List.setIfInBounds_toArray, List.set_cons_succ, List.set_cons_zero]
      go_simp
      refine (yes_two ⟨#[61, 61]⟩ olit_eq okn_eq false _ _ HGA.out HGB.out W (HLb.out.keep hs) gv _ _ _ _ _ _ _ _ _ _ _ _ _ _ _ _ _ _ _ _ _ _ _ _ _ _ _ hv (TermIn.keep hs (fun _ _ => id) _ _ HTAb.out) (TermIn.keep hs (fun _ _ => id) _ _ HTBb.out) HEQ.out).mono ?_
      rintro e W' ⟨rfl, hk⟩
      refine hK _ _ ?_ (hs.trans' hk (fun _ _ => id) (fun _ _ => id))
      · try simp only [Act.put, List.setIfInBounds_toArray, List.set_cons_succ, List.set_cons_zero]
        try rfl
    clear HS
    intro sl28 sl32 wg28 HS
    try simp only [Act.put, List.setIfInBounds_toArray, List.set_cons_succ, List.set_cons_zero]
    refine order_pure (i := 34) rfl (by kernel_rfl) (fun _ _ _ h => h) (.inl ⟨rfl, fun _ => by go_simp; rfl⟩) ?_
    try simp only [Act.put, List.setIfInBounds_toArray, List.set_cons_succ, List.set_cons_zero]
    refine order_pure (i := 35) rfl (by kernel_rfl) (fun _ _ _ h => h) (.inl ⟨rfl, fun _ => by go_simp; rfl⟩) ?_
    try simp only [Act.put, List.setIfInBounds_toArray, List.set_cons_succ, List.set_cons_zero]
    refine order_pure (i := 36) rfl (by kernel_rfl) (fun _ _ _ h => h) (.inl ⟨rfl, fun _ => by go_simp; rfl⟩) ?_
    try simp only [Act.put, List.setIfInBounds_toArray, List.set_cons_succ, List.set_cons_zero]
    refine order_held (i := 37) rfl (by kernel_rfl) (fun _ _ _ h => h) (.inl ⟨rfl, fun W hW => by
      have q0 : W.cell? ⟨gx, 0, none⟩ = some (.int .u8 kvx) := hW.cell id (HPb.out.cell 0)
      have q1 : W.cell? ⟨gx, 1, none⟩ = some (.bool gvx) := hW.cell id (HPb.out.cell 1)
      have q2 : W.cell? ⟨gx, 2, none⟩ = some (.slice lvx lvnx lvcx) := hW.cell id (HPb.out.cell 2)
      have q3 : W.cell? ⟨gx, 3, none⟩ = some (.string svx) := hW.cell id (HPb.out.cell 3)
      have q4 : W.cell? ⟨gx, 4, none⟩ = some (.int .i64 mvx) := hW.cell id (HPb.out.cell 4)
      have q5 : W.cell? ⟨gx, 5, none⟩ = some (.slice ivx ivnx ivcx) := hW.cell id (HPb.out.cell 5)
      have q6 : W.cell? ⟨gx, 6, none⟩ = some (.slice tvx tvnx tvcx) := hW.cell id (HPb.out.cell 6)
      go_simp; rfl⟩) HS ?_
    try simp only [Act.put, List.setIfInBounds_toArray, List.set_cons_succ, List.set_cons_zero]
    refine order_held (i := 38) rfl (by kernel_rfl) (fun _ _ _ h => h) (.inl ⟨rfl, fun W hW => by
      have q0 : W.cell? ⟨w.heap.size, 0, none⟩ = some (.int .u8 kd) := hW.cell id (HAb.out.cell 0)
      have q1 : W.cell? ⟨w.heap.size, 1, none⟩ = some (.bool ng) := hW.cell id (HAb.out.cell 1)
      have q2 : W.cell? ⟨w.heap.size, 2, none⟩ = some (.slice la ln lc) := hW.cell id (HAb.out.cell 2)
      have q3 : W.cell? ⟨w.heap.size, 3, none⟩ = some (.string tx) := hW.cell id (HAb.out.cell 3)
      have q4 : W.cell? ⟨w.heap.size, 4, none⟩ = some (.int .i64 nm) := hW.cell id (HAb.out.cell 4)
      have q5 : W.cell? ⟨w.heap.size, 5, none⟩ = some (.slice ia im ic) := hW.cell id (HAb.out.cell 5)
      have q6 : W.cell? ⟨w.heap.size, 6, none⟩ = some (.slice ta tn tc) := hW.cell id (HAb.out.cell 6)
      go_simp; rfl⟩) HS ?_
    try simp only [Act.put, List.setIfInBounds_toArray, List.set_cons_succ, List.set_cons_zero]
    refine order_one (i := 39) rfl (by kernel_rfl) (fun K hK => ?_)
    go_simp
    refine (same_any _ _ HGX.out.2 HGA.out.2 _ (fun _ => True) (fun _ => True) false false _ _ _ _ _ _ _ _ _ _ _ _ _ _ _ _ _ _ _ _ _ _ _ _ _ _ (TermIn.keep HS (fun _ _ => id) _ _ HTXb.out) (TermIn.keep HS (fun _ _ => id) _ _ HTAb.out)).mono ?_
    rintro e ws39 ⟨rfl, hk⟩
    rw [HS1.out]
    have hs := HS.trans' hk (fun _ _ => id) (fun _ _ => id)
    refine hK _ _ (fun _ _ => hs) ?_
    clear hK hk HS
    have HS := hs
    clear hs
    try simp only [Act.put, List.setIfInBounds_toArray, List.set_cons_succ, List.set_cons_zero]
    refine order_pure (i := 40) rfl (by kernel_rfl) (fun _ _ _ h => h) (.inl ⟨rfl, fun _ => by go_simp; rfl⟩) ?_
    try simp only [Act.put, List.setIfInBounds_toArray, List.set_cons_succ, List.set_cons_zero]
    refine order_held (i := 41) rfl (by kernel_rfl) (fun _ _ _ h => h) (.inl ⟨rfl, fun W hW => by
      have q0 : W.cell? ⟨gy, 0, none⟩ = some (.int .u8 kvy) := hW.cell id (HQb.out.cell 0)
      have q1 : W.cell? ⟨gy, 1, none⟩ = some (.bool gvy) := hW.cell id (HQb.out.cell 1)
      have q2 : W.cell? ⟨gy, 2, none⟩ = some (.slice lvy lvny lvcy) := hW.cell id (HQb.out.cell 2)
      have q3 : W.cell? ⟨gy, 3, none⟩ = some (.string svy) := hW.cell id (HQb.out.cell 3)
      have q4 : W.cell? ⟨gy, 4, none⟩ = some (.int .i64 mvy) := hW.cell id (HQb.out.cell 4)
      have q5 : W.cell? ⟨gy, 5, none⟩ = some (.slice ivy ivny ivcy) := hW.cell id (HQb.out.cell 5)
      have q6 : W.cell? ⟨gy, 6, none⟩ = some (.slice tvy tvny tvcy) := hW.cell id (HQb.out.cell 6)
      go_simp; rfl⟩) HS ?_
    try simp only [Act.put, List.setIfInBounds_toArray, List.set_cons_succ, List.set_cons_zero]
    refine order_held (i := 42) rfl (by kernel_rfl) (fun _ _ _ h => h) (.inl ⟨rfl, fun W hW => by
      have q0 : W.cell? ⟨w.heap.size + 1, 0, none⟩ = some (.int .u8 kd') := hW.cell id (HBb.out.cell 0)
      have q1 : W.cell? ⟨w.heap.size + 1, 1, none⟩ = some (.bool ng') := hW.cell id (HBb.out.cell 1)
      have q2 : W.cell? ⟨w.heap.size + 1, 2, none⟩ = some (.slice la' ln' lc') := hW.cell id (HBb.out.cell 2)
      have q3 : W.cell? ⟨w.heap.size + 1, 3, none⟩ = some (.string tx') := hW.cell id (HBb.out.cell 3)
      have q4 : W.cell? ⟨w.heap.size + 1, 4, none⟩ = some (.int .i64 nm') := hW.cell id (HBb.out.cell 4)
      have q5 : W.cell? ⟨w.heap.size + 1, 5, none⟩ = some (.slice ia' im' ic') := hW.cell id (HBb.out.cell 5)
      have q6 : W.cell? ⟨w.heap.size + 1, 6, none⟩ = some (.slice ta' tn' tc') := hW.cell id (HBb.out.cell 6)
      go_simp; rfl⟩) HS ?_
    try simp only [Act.put, List.setIfInBounds_toArray, List.set_cons_succ, List.set_cons_zero]
    refine order_one (i := 43) rfl (by kernel_rfl) (fun K hK => ?_)
    go_simp
    refine (same_any _ _ HGY.out.2 HGB.out.2 _ (fun _ => True) (fun _ => True) false false _ _ _ _ _ _ _ _ _ _ _ _ _ _ _ _ _ _ _ _ _ _ _ _ _ _ (TermIn.keep HS (fun _ _ => id) _ _ HTYb.out) (TermIn.keep HS (fun _ _ => id) _ _ HTBb.out)).mono ?_
    rintro e ws43 ⟨rfl, hk⟩
    rw [HS2.out]
    have hs := HS.trans' hk (fun _ _ => id) (fun _ _ => id)
    refine hK _ _ (fun _ _ => hs) ?_
    clear hK hk HS
    have HS := hs
    clear hs
    try simp only [Act.put, List.setIfInBounds_toArray, List.set_cons_succ, List.set_cons_zero]
    refine order_pure (i := 44) rfl (by kernel_rfl) (fun _ _ _ h => h) (.inl ⟨rfl, fun _ => by go_simp; rfl⟩) ?_
    try simp only [Act.put, List.setIfInBounds_toArray, List.set_cons_succ, List.set_cons_zero]
    refine order_pure (i := 45) rfl (by kernel_rfl) (fun _ _ _ h => h) (.inl ⟨rfl, fun _ => by go_simp; rfl⟩) ?_
    try simp only [Act.put, List.setIfInBounds_toArray, List.set_cons_succ, List.set_cons_zero]
    refine order_skip (i := 46) rfl (by kernel_rfl) (fun _ _ _ h => h) (by kernel_rfl) ?_
    try simp only [Act.put, List.setIfInBounds_toArray, List.set_cons_succ, List.set_cons_zero]
    refine order_skip (i := 47) rfl (by kernel_rfl) (fun _ _ _ h => h) (by kernel_rfl) ?_
    try simp only [Act.put, List.setIfInBounds_toArray, List.set_cons_succ, List.set_cons_zero]
    refine order_skip (i := 48) rfl (by kernel_rfl) (fun _ _ _ h => h) (by kernel_rfl) ?_
    try simp only [Act.put, List.setIfInBounds_toArray, List.set_cons_succ, List.set_cons_zero]
    refine order_skip (i := 49) rfl (by kernel_rfl) (fun _ _ _ h => h) (by kernel_rfl) ?_
    try simp only [Act.put, List.setIfInBounds_toArray, List.set_cons_succ, List.set_cons_zero]
    refine order_skip (i := 50) rfl (by kernel_rfl) (fun _ _ _ h => h) (by kernel_rfl) ?_
    try simp only [Act.put, List.setIfInBounds_toArray, List.set_cons_succ, List.set_cons_zero]
    refine order_skip (i := 51) rfl (by kernel_rfl) (fun _ _ _ h => h) (by kernel_rfl) ?_
    try simp only [Act.put, List.setIfInBounds_toArray, List.set_cons_succ, List.set_cons_zero]
    refine order_skip (i := 52) rfl (by kernel_rfl) (fun _ _ _ h => h) (by kernel_rfl) ?_
    try simp only [Act.put, List.setIfInBounds_toArray, List.set_cons_succ, List.set_cons_zero]
    refine order_skip (i := 53) rfl (by kernel_rfl) (fun _ _ _ h => h) (by kernel_rfl) ?_
    try simp only [Act.put, List.setIfInBounds_toArray, List.set_cons_succ, List.set_cons_zero]
    refine order_pure (i := 54) rfl (by kernel_rfl) (fun _ _ _ h => h) (.inl ⟨rfl, fun _ => by go_simp; rfl⟩) ?_
    try simp only [Act.put, List.setIfInBounds_toArray, List.set_cons_succ, List.set_cons_zero]
    refine order_pure (i := 55) rfl (by kernel_rfl) (fun _ _ _ h => h) (.inl ⟨rfl, fun _ => by go_simp; rfl⟩) ?_
    try simp only [Act.put, List.setIfInBounds_toArray, List.set_cons_succ, List.set_cons_zero]
    refine order_pure (i := 56) rfl (by kernel_rfl) (fun _ _ _ h => h) (.inl ⟨rfl, fun _ => by go_simp; rfl⟩) ?_
    try simp only [Act.put, List.setIfInBounds_toArray, List.set_cons_succ, List.set_cons_zero]
    refine order_held (i := 57) rfl (by kernel_rfl) (fun _ _ _ h => h) (.inl ⟨rfl, fun W hW => by
      have q0 : W.cell? ⟨w.heap.size, 0, none⟩ = some (.int .u8 kd) := hW.cell id (HAb.out.cell 0)
      have q1 : W.cell? ⟨w.heap.size, 1, none⟩ = some (.bool ng) := hW.cell id (HAb.out.cell 1)
      have q2 : W.cell? ⟨w.heap.size, 2, none⟩ = some (.slice la ln lc) := hW.cell id (HAb.out.cell 2)
      have q3 : W.cell? ⟨w.heap.size, 3, none⟩ = some (.string tx) := hW.cell id (HAb.out.cell 3)
      have q4 : W.cell? ⟨w.heap.size, 4, none⟩ = some (.int .i64 nm) := hW.cell id (HAb.out.cell 4)
      have q5 : W.cell? ⟨w.heap.size, 5, none⟩ = some (.slice ia im ic) := hW.cell id (HAb.out.cell 5)
      have q6 : W.cell? ⟨w.heap.size, 6, none⟩ = some (.slice ta tn tc) := hW.cell id (HAb.out.cell 6)
      go_simp; rfl⟩) HS ?_
    try simp only [Act.put, List.setIfInBounds_toArray, List.set_cons_succ, List.set_cons_zero]
    refine order_held (i := 58) rfl (by kernel_rfl) (fun _ _ _ h => h) (.inl ⟨rfl, fun W hW => by
      have q0 : W.cell? ⟨w.heap.size + 1, 0, none⟩ = some (.int .u8 kd') := hW.cell id (HBb.out.cell 0)
      have q1 : W.cell? ⟨w.heap.size + 1, 1, none⟩ = some (.bool ng') := hW.cell id (HBb.out.cell 1)
      have q2 : W.cell? ⟨w.heap.size + 1, 2, none⟩ = some (.slice la' ln' lc') := hW.cell id (HBb.out.cell 2)
      have q3 : W.cell? ⟨w.heap.size + 1, 3, none⟩ = some (.string tx') := hW.cell id (HBb.out.cell 3)
      have q4 : W.cell? ⟨w.heap.size + 1, 4, none⟩ = some (.int .i64 nm') := hW.cell id (HBb.out.cell 4)
      have q5 : W.cell? ⟨w.heap.size + 1, 5, none⟩ = some (.slice ia' im' ic') := hW.cell id (HBb.out.cell 5)
      have q6 : W.cell? ⟨w.heap.size + 1, 6, none⟩ = some (.slice ta' tn' tc') := hW.cell id (HBb.out.cell 6)
      go_simp; rfl⟩) HS ?_
    try simp only [Act.put, List.setIfInBounds_toArray, List.set_cons_succ, List.set_cons_zero]
    refine order_held (i := 61) rfl (by kernel_rfl) (fun _ _ _ h => h) (.inl ⟨rfl, fun W hW => by
      have q0 : W.cell? ⟨w.heap.size, 0, none⟩ = some (.int .u8 kd) := hW.cell id (HAb.out.cell 0)
      have q1 : W.cell? ⟨w.heap.size, 1, none⟩ = some (.bool ng) := hW.cell id (HAb.out.cell 1)
      have q2 : W.cell? ⟨w.heap.size, 2, none⟩ = some (.slice la ln lc) := hW.cell id (HAb.out.cell 2)
      have q3 : W.cell? ⟨w.heap.size, 3, none⟩ = some (.string tx) := hW.cell id (HAb.out.cell 3)
      have q4 : W.cell? ⟨w.heap.size, 4, none⟩ = some (.int .i64 nm) := hW.cell id (HAb.out.cell 4)
      have q5 : W.cell? ⟨w.heap.size, 5, none⟩ = some (.slice ia im ic) := hW.cell id (HAb.out.cell 5)
      have q6 : W.cell? ⟨w.heap.size, 6, none⟩ = some (.slice ta tn tc) := hW.cell id (HAb.out.cell 6)
      go_simp; rfl⟩) HS ?_
    try simp only [Act.put, List.setIfInBounds_toArray, List.set_cons_succ, List.set_cons_zero]
    refine order_held (i := 62) rfl (by kernel_rfl) (fun _ _ _ h => h) (.inl ⟨rfl, fun W hW => by
      have q0 : W.cell? ⟨w.heap.size + 1, 0, none⟩ = some (.int .u8 kd') := hW.cell id (HBb.out.cell 0)
      have q1 : W.cell? ⟨w.heap.size + 1, 1, none⟩ = some (.bool ng') := hW.cell id (HBb.out.cell 1)
      have q2 : W.cell? ⟨w.heap.size + 1, 2, none⟩ = some (.slice la' ln' lc') := hW.cell id (HBb.out.cell 2)
      have q3 : W.cell? ⟨w.heap.size + 1, 3, none⟩ = some (.string tx') := hW.cell id (HBb.out.cell 3)
      have q4 : W.cell? ⟨w.heap.size + 1, 4, none⟩ = some (.int .i64 nm') := hW.cell id (HBb.out.cell 4)
      have q5 : W.cell? ⟨w.heap.size + 1, 5, none⟩ = some (.slice ia' im' ic') := hW.cell id (HBb.out.cell 5)
      have q6 : W.cell? ⟨w.heap.size + 1, 6, none⟩ = some (.slice ta' tn' tc') := hW.cell id (HBb.out.cell 6)
      go_simp; rfl⟩) HS ?_
    try simp only [Act.put, List.setIfInBounds_toArray, List.set_cons_succ, List.set_cons_zero]
    refine order_group (b1 := 59) (c1 := 60) (b2 := 63) (c2 := 64) rfl rfl rfl rfl (by kernel_rfl) (PairAt #[.int .u8 kd, .bool ng, .slice la ln lc, .string tx, .int .i64 nm, .slice ia im ic, .slice ta tn tc, .int .u8 kd', .bool ng', .slice la' ln' lc', .string tx', .int .i64 nm', .slice ia' im' ic', .slice ta' tn' tc']) (PairAt #[.int .u8 kd, .bool ng, .slice la ln lc, .string tx, .int .i64 nm, .slice ia im ic, .slice ta tn tc, .int .u8 kd', .bool ng', .slice la' ln' lc', .string tx', .int .i64 nm', .slice ia' im' ic', .slice ta' tn' tc']) (.bool false) (.bool true) HS ?_ ?_ ?_ ?_ ?_ ?_ ?_ ?_ ?_
    · intro W K hs hK
      unfold Step
      try simp only [Act.put, List.setIfInBounds_toArray, List.set_cons_succ, List.set_cons_zero]
      go_simp
      refine hK (.slice (some ⟨W.heap.size, 0, none⟩) 2 2) _ _ ?_ (hs.alloc _) ⟨W.heap.size, rfl, Blk.new W _ _⟩
      · try simp only [Act.put, List.setIfInBounds_toArray, List.set_cons_succ, List.set_cons_zero]
        try rfl
    · intro y W K hs hv hK
      obtain ⟨gv, rfl, hv⟩ := hv
      unfold Step
      try simp only [Act.put, List.setIfInBounds_toArray, List.set_cons_succ, List.set_cons_zero]
      go_simp
      refine hK (.slice (some ⟨W.heap.size, 0, none⟩) 2 2) _ _ ?_ (hs.alloc _) ⟨W.heap.size, rfl, Blk.new W _ _⟩ ⟨gv, rfl, hv.alloc _⟩
      · try simp only [Act.put, List.setIfInBounds_toArray, List.set_cons_succ, List.set_cons_zero]
        try rfl
    · intro W K hs hK
      unfold Step
      try simp only [Act.put, List.setIfInBounds_toArray, List.set_cons_succ, List.set_cons_zero]
      go_simp
      refine hK (.slice (some ⟨W.heap.size, 0, none⟩) 2 2) _ _ ?_ (hs.alloc _) ⟨W.heap.size, rfl, Blk.new W _ _⟩
      · try simp only [Act.put, List.setIfInBounds_toArray, List.set_cons_succ, List.set_cons_zero]
        try rfl
    · intro x W K hs hv hK
      obtain ⟨gv, rfl, hv⟩ := hv
      unfold Step
      try simp only [Act.put, List.setIfInBounds_toArray, List.set_cons_succ, List.set_cons_zero]
      go_simp
      refine hK (.slice (some ⟨W.heap.size, 0, none⟩) 2 2) _ _ ?_ (hs.alloc _) ⟨gv, rfl, hv.alloc _⟩ ⟨W.heap.size, rfl, Blk.new W _ _⟩
      · try simp only [Act.put, List.setIfInBounds_toArray, List.set_cons_succ, List.set_cons_zero]
        try rfl
    · intro x W K hs hK
      unfold Step
      try simp only [Act.put, List.setIfInBounds_toArray, List.set_cons_succ, List.set_cons_zero]
      go_simp
      refine hK (.slice (some ⟨W.heap.size, 0, none⟩) 2 2) _ _ ?_ (hs.alloc _) ⟨W.heap.size, rfl, Blk.new W _ _⟩
      · try simp only [Act.put, List.setIfInBounds_toArray, List.set_cons_succ, List.set_cons_zero]
        try rfl
    · intro x W K hs hv hK
      obtain ⟨gv, rfl, hv⟩ := hv
      unfold Step
      try simp only [Act.put, List.setIfInBounds_toArray, List.set_cons_succ, List.set_cons_zero]
      go_simp
      refine (yes_two ⟨#[61, 60]⟩ olit_le okn_le false _ _ HGA.out HGB.out W (HLb.out.keep hs) gv _ _ _ _ _ _ _ _ _ _ _ _ _ _ _ _ _ _ _ _ _ _ _ _ _ _ _ hv (TermIn.keep hs (fun _ _ => id) _ _ HTAb.out) (TermIn.keep hs (fun _ _ => id) _ _ HTBb.out) HLE.out).mono ?_
      rintro e W' ⟨rfl, hk⟩
      refine hK _ _ ?_ (hs.trans' hk (fun _ _ => id) (fun _ _ => id))
      · try simp only [Act.put, List.setIfInBounds_toArray, List.set_cons_succ, List.set_cons_zero]
        try rfl
    · intro x y W K hs hv hv2 hK
      obtain ⟨gv, rfl, hv⟩ := hv
      obtain ⟨gv2, rfl, hv2⟩ := hv2
      unfold Step
      try simp only [Act.put, List.setIfInBounds_toArray, List.set_cons_succ, List.set_cons_zero]
      go_simp
      refine (yes_two ⟨#[61, 60]⟩ olit_le okn_le false _ _ HGA.out HGB.out W (HLb.out.keep hs) gv _ _ _ _ _ _ _ _ _ _ _ _ _ _ _ _ _ _ _ _ _ _ _ _ _ _ _ hv (TermIn.keep hs (fun _ _ => id) _ _ HTAb.out) (TermIn.keep hs (fun _ _ => id) _ _ HTBb.out) HLE.out).mono ?_
      rintro e W' ⟨rfl, hk⟩
      refine hK _ _ ?_ (hs.trans' hk (fun _ _ => id) (fun _ _ => id)) ⟨gv2, rfl, hv2.keep hk id⟩
      · try simp only [Act.put, List.setIfInBounds_toArray, List.set_cons_succ, List.set_cons_zero]
        try rfl
    · intro x y W K hs hv hK
      obtain ⟨gv, rfl, hv⟩ := hv
      unfold Step
      try simp only [Act.put, List.setIfInBounds_toArray, List.set_cons_succ, List.set_cons_zero]
      go_simp
      refine (yes_two ⟨#[62]⟩ olit_gt okn_gt true _ _ HGA.out HGB.out W (HLb.out.keep hs) gv _ _ _ _ _ _ _ _ _ _ _ _ _ _ _ _ _ _ _ _ _ _ _ _ _ _ _ hv (TermIn.keep hs (fun _ _ => id) _ _ HTAb.out) (TermIn.keep hs (fun _ _ => id) _ _ HTBb.out) HGT.out).mono ?_
      rintro e W' ⟨rfl, hk⟩
      refine hK _ _ ?_ (hs.trans' hk (fun _ _ => id) (fun _ _ => id))
      · try simp only [Act.put, List.setIfInBounds_toArray, List.set_cons_succ, List.set_cons_zero]
        try rfl
    clear HS
    intro sl59 sl63 wg59 HS
    try simp only [Act.put, List.setIfInBounds_toArray, List.set_cons_succ, List.set_cons_zero]
    refine order_pure (i := 65) rfl (by kernel_rfl) (fun _ _ _ h => h) (.inl ⟨rfl, fun _ => by go_simp; rfl⟩) ?_
    try simp only [Act.put, List.setIfInBounds_toArray, List.set_cons_succ, List.set_cons_zero]
    refine order_pure (i := 66) rfl (by kernel_rfl) (fun _ _ _ h => h) (.inl ⟨rfl, fun _ => by go_simp; rfl⟩) ?_
    try simp only [Act.put, List.setIfInBounds_toArray, List.set_cons_succ, List.set_cons_zero]
    refine order_pure (i := 67) rfl (by kernel_rfl) (fun _ _ _ h => h) (.inl ⟨rfl, fun _ => by go_simp; rfl⟩) ?_
    try simp only [Act.put, List.setIfInBounds_toArray, List.set_cons_succ, List.set_cons_zero]
    refine order_pure (i := 68) rfl (by kernel_rfl) (fun _ _ _ h => h) (.inl ⟨rfl, fun _ => by go_simp; rfl⟩) ?_
    try simp only [Act.put, List.setIfInBounds_toArray, List.set_cons_succ, List.set_cons_zero]
    refine order_done (by kernel_rfl) ?_
    go_wp2_with fail
    go_ret
    exact ⟨rfl, HKb.out.trans' HS (fun _ _ => id) (fun _ _ => id)⟩
  · go_ret
    exact ⟨rfl, HK2.out⟩
end Go.Proofs.YthbbalkhmofndaaGreatDoor
