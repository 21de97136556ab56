/- law10.awake is true. Printed by mkawk10.py. -/
import Derived.Test.YthbbalkhmofndaaGreatDoorCallAJn
import Derived.Test.YthbbalkhmofndaaGreatDoorCallMJn
import Derived.Test.YthbbalkhmofndaaGreatDoorNumLJn
import Derived.Test.YthbbalkhmofndaaGreatDoorTextJn
namespace Go.Proofs.YthbbalkhmofndaaGreatDoor
open Go.RowKit

def listTm (l : List Tm) : Tm := .mk 7 false [] ByteArray.empty 0 l []
theorem dig_small (n : Nat) (h : n < B32) (h0 : n ≠ 0) : dig n = [n] := by
  rw [dig_pos h0, Nat.mod_eq_of_lt h, Nat.div_eq_of_lt h, dig_zero]
theorem size_small (n : Nat) (h : n < B32) (h0 : n ≠ 0) : sizeT (intTm n) = 2 := by
  have h1 : 0 < sizeT (intTm n) := of_decide_eq_true (intTm_right (z := n) (by have := big_pow; unfold B32 at h; simp; omega))
  unfold intTm at h1 ⊢
  unfold sizeT at h1 ⊢
  rw [if_pos rfl] at h1 ⊢
  split at h1
  · rename_i h2
    rw [if_pos h2, Int.natAbs_natCast, dig_small n h h0]
    rfl
  · omega
theorem list_one (n : Nat) (h : n < B32) (h0 : n ≠ 0) : rightT (listTm [intTm n]) = true := by
  refine decide_eq_true ?_
  unfold listTm sizeT
  rw [if_neg (by decide), if_pos (by simp [headT])]
  unfold addT
  rw [size_small n h h0]
  unfold addT
  simp [baseT, eachT]
theorem list_two (n m : Nat) (h : n < B32) (h0 : n ≠ 0) (h' : m < B32) (h0' : m ≠ 0) : rightT (listTm [intTm n, intTm m]) = true := by
  refine decide_eq_true ?_
  unfold listTm sizeT
  rw [if_neg (by decide), if_pos (by simp [headT])]
  unfold addT
  rw [size_small n h h0]
  unfold addT
  rw [size_small m h' h0']
  unfold addT
  simp [baseT, eachT]
theorem list_ok (l : List Tm) (h : okTs l) : okT (listTm l) := by
  unfold listTm okT
  exact ⟨by omega, fun x hx => (by cases hx), by show 0 ≤ _; omega, by omega, h, by unfold okTs; trivial⟩
theorem ok_one (t : Tm) (h : okT t) : okTs [t] := by unfold okTs okTs; exact ⟨h, trivial⟩
theorem txt_42 : txt 42 = ⟨#[52, 50]⟩ := by
  unfold txt txtL dd
  rw [show (42 : Int).natAbs = 42 from rfl, decs_pos (by decide), show 42 / 10 = 4 from rfl, decs_pos (by decide), show 4 / 10 = 0 from rfl, decs_zero]
  rfl
theorem int_cells {w : World} {B : Nat → Prop} {kd : Int} {ng : Bool} {la : Option Addr} {ln lc : Nat} {tx : ByteArray} {nm : Int} {ia : Option Addr} {im ic : Nat} {ta : Option Addr} {tn tc : Nat} {z : Int} (ht : TermIn w B false [.int .u8 kd, .bool ng, .slice la ln lc, .string tx, .int .i64 nm, .slice ia im ic, .slice ta tn tc] (intTm z)) (hz : z.natAbs < Big) : kd = 1 ∧ tx = ByteArray.empty ∧ nm = 0 ∧ im = 0 ∧ tn = 0 ∧ IA w B ng la ln lc z := by
  obtain rfl : kd = 1 := kind_cells ht
  obtain ⟨h1, h2, h3, h4, h5⟩ := int_IA _ _ _ _ _ _ _ _ _ _ _ _ _ ht (intTm_good hz) rfl
  rw [intTm_V] at h5
  exact ⟨rfl, h1, h2, h3, h4, h5⟩
theorem second_err {w : World} {s : ByteArray} {kd : Int} {ng : Bool} {la : Option Addr} {ln lc : Nat} {tx : ByteArray} {nm : Int} {ia : Option Addr} {im ic : Nat} {ta : Option Addr} {tn tc : Nat} (ht : TermIn w (fun _ => True) false [.int .u8 kd, .bool ng, .slice la ln lc, .string tx, .int .i64 nm, .slice ia im ic, .slice ta tn tc] (errT s)) :
    kd = 6 ∧ im = 2 ∧ ∃ b p ng' la' ln' lc' nm' ia' im' ic' ta' tn' tc', ia = some ⟨b, p, none⟩ ∧ w.cell? ⟨b, p + 7, none⟩ = some (.int .u8 2) ∧ w.cell? ⟨b, p + 7 + 1, none⟩ = some (.bool ng') ∧ w.cell? ⟨b, p + 7 + 2, none⟩ = some (.slice la' ln' lc') ∧ w.cell? ⟨b, p + 7 + 3, none⟩ = some (.string s) ∧ w.cell? ⟨b, p + 7 + 4, none⟩ = some (.int .i64 nm') ∧ w.cell? ⟨b, p + 7 + 5, none⟩ = some (.slice ia' im' ic') ∧ w.cell? ⟨b, p + 7 + 6, none⟩ = some (.slice ta' tn' tc') := by
  obtain ⟨limbs, items, tail, css, dss, e, _, _, hri, hti, _, _, _, him, _⟩ := ht.parts
  unfold errT at e
  injection e with e1 e2 e3 e4 e5 e6 e7
  subst e6
  obtain rfl : im = 2 := by simpa using him.symm
  obtain ⟨b, p, kd', ng', la', ln', lc', tx', nm', ia', im', ic', ta', tn', tc', t, h1, h2, h3, _, f0, f1, f2, f3, f4, f5, f6⟩ := cells_at hri hti 1 (by omega)
  obtain rfl : flatT 2 s 0 = t := by simpa using h2
  obtain ⟨_, _, _, _, _, _, _, _, _, _, _, _, _, he, ek, et, _⟩ := h3.cells
  simp only [List.cons.injEq, Value.int.injEq, Value.string.injEq, true_and] at he
  have hk2 : kd' = 2 := he.1.trans ek
  have ht2 : tx' = s := he.2.2.2.1.trans et
  subst hk2 ht2
  exact ⟨e1.symm, rfl, b, p, ng', la', ln', lc', nm', ia', im', ic', ta', tn', tc', h1, f0, f1, f2, f3, f4, f5, f6⟩
set_option maxRecDepth 100000 in
set_option maxHeartbeats 4000000 in
theorem awake_any (w : World) (hL : LaidK w) (hK : KindsAt w) : Calls Tryz.prog 5 #[] w fun e w' => e = .returned (.bool true) ∧ Keeps NoB w w' := by
  have HL := hide hL; have HKA := hide hK
  clear hL hK
  go_enter Tryz.func5, Tryz.ntmps5
  go_upto_region 2 with
    first
    | (go_at_call 13
       refine (law_number 40 (by omega) (by omega) _).mono ?_
       rintro e w1 ⟨ng1, A1, n1, c1, rfl, hi1, hk1⟩
       have HI1 := hide hi1; have HK1 := hide hk1
       clear hi1 hk1)
    | (go_at_call 13
       refine (law_number 2 (by omega) (by omega) _).mono ?_
       rintro e w2 ⟨ng2, A2, n2, c2, rfl, hi2, hk2⟩
       have HI2 := hide hi2; have HI12 := hide (HI1.out.keep hk2)
       have HK2 := hide (HK1.out.trans' hk2 (fun _ _ => id) (fun _ _ => id) : Keeps NoB w w2)
       clear hi2 hk2)
    | (go_at_call 12
       refine (call_add (intTm 40) (intTm 2) (intTm_good (small_big (by decide))) (intTm_good (small_big (by decide))) rfl rfl (by rw [intTm_V, intTm_V]; exact small_big (by decide)) _ (HL.out.keep (HK2.out.alloc _)) _ _ _ _ _ _ _ _ _ _ _ _ _ _ _ _ _ _ _ _ _ _ _ _ _ _ _ _ (Blk.new w2 26 #[.int .u8 1, .bool ng1, .slice A1 n1 c1, .string ⟨#[]⟩, .int .i64 0, .slice none 0 0, .slice none 0 0, .int .u8 1, .bool ng2, .slice A2 n2 c2, .string ⟨#[]⟩, .int .i64 0, .slice none 0 0, .slice none 0 0]) (TermIn.more (fun _ _ _ => trivial) _ _ (IA.tm (HI12.out.keep ((Keeps.refl NoB w2).alloc _)))) (TermIn.more (fun _ _ _ => trivial) _ _ (IA.tm (HI2.out.keep ((Keeps.refl NoB w2).alloc _))))).mono ?_
       rintro e w3 ⟨kv3, gv3, lv3, lvn3, lvc3, sv3, mv3, iv3, ivn3, ivc3, tv3, tvn3, tvc3, kr3, gr3, lr3, lrn3, lrc3, sr3, mr3, ir3, irn3, irc3, tr3, trn3, trc3, rfl, hv3, hr3, hk3⟩
       obtain rfl : kr3 = 0 := kind_cells hr3
       rw [intTm_V, intTm_V] at hv3
       have HV3 := hide hv3
       have HK3 := hide (((HK2.out.alloc (.cells #[.int .u8 1, .bool ng1, .slice A1 n1 c1, .string ⟨#[]⟩, .int .i64 0, .slice none 0 0, .slice none 0 0, .int .u8 1, .bool ng2, .slice A2 n2 c2, .string ⟨#[]⟩, .int .i64 0, .slice none 0 0, .slice none 0 0] 26)).trans' hk3 (fun _ _ => id) (fun _ _ => id)) : Keeps NoB w w3)
       clear hv3 hr3 hk3)
    | fail
  clear HI1 HI12 HI2 HK1 HK2
  have hkn3 : Keeps NoB w3 ((w3.alloc (.cells #[.int .u8 kv3, .bool gv3, .slice lv3 lvn3 lvc3, .string sv3, .int .i64 mv3, .slice iv3 ivn3 ivc3, .slice tv3 tvn3 tvc3] 26)).alloc (.cells #[.int .u8 0, .bool gr3, .slice lr3 lrn3 lrc3, .string sr3, .int .i64 mr3, .slice ir3 irn3 irc3, .slice tr3 trn3 trc3] 26)) := ((Keeps.refl NoB w3).alloc _).alloc _
  have HB4 := hide (two_tblks w3 26 26 #[.int .u8 kv3, .bool gv3, .slice lv3 lvn3 lvc3, .string sv3, .int .i64 mv3, .slice iv3 ivn3 ivc3, .slice tv3 tvn3 tvc3] #[.int .u8 0, .bool gr3, .slice lr3 lrn3 lrc3, .string sr3, .int .i64 mr3, .slice ir3 irn3 irc3, .slice tr3 trn3 trc3]).1; have HE4 := hide (two_tblks w3 26 26 #[.int .u8 kv3, .bool gv3, .slice lv3 lvn3 lvc3, .string sv3, .int .i64 mv3, .slice iv3 ivn3 ivc3, .slice tv3 tvn3 tvc3] #[.int .u8 0, .bool gr3, .slice lr3 lrn3 lrc3, .string sr3, .int .i64 mr3, .slice ir3 irn3 irc3, .slice tr3 trn3 trc3]).2
  have HT4 := hide (TermIn.more (B' := fun _ => True) (fun _ _ _ => trivial) _ _ (TermIn.keep hkn3 (fun _ _ => id) _ _ HV3.out))
  have HK4 := hide (HK3.out.trans' hkn3 (fun _ _ => id) (fun _ _ => id) : Keeps NoB w _)
  clear hkn3 HK3 HV3
  generalize (w3.alloc (.cells #[.int .u8 kv3, .bool gv3, .slice lv3 lvn3 lvc3, .string sv3, .int .i64 mv3, .slice iv3 ivn3 ivc3, .slice tv3 tvn3 tvc3] 26)).alloc (.cells #[.int .u8 0, .bool gr3, .slice lr3 lrn3 lrc3, .string sr3, .int .i64 mr3, .slice ir3 irn3 irc3, .slice tr3 trn3 trc3] 26) = w4 at *
  generalize w3.heap.size = g1 at *
  go_upto_region 3 with
    first
    | (go_at_call 13
       refine (law_number 1 (by omega) (by omega) _).mono ?_
       rintro e w5 ⟨ng5, A5, n5, c5, rfl, hi5, hk5⟩
       have hk5' : Keeps NoB w5 (w5.alloc (.cells #[.int .u8 1, .bool ng5, .slice A5 n5 c5, .string ⟨#[]⟩, .int .i64 0, .slice none 0 0, .slice none 0 0] 26)) := (Keeps.refl NoB w5).alloc _
       have HL5 := hide (show TermIn (w5.alloc (.cells #[.int .u8 1, .bool ng5, .slice A5 n5 c5, .string ⟨#[]⟩, .int .i64 0, .slice none 0 0, .slice none 0 0] 26)) (fun _ => True) false [.int .u8 7, .bool false, .slice none 0 0, .string ⟨#[]⟩, .int .i64 0, .slice (some ⟨w5.heap.size, 0, none⟩) 1 1, .slice none 0 0] (listTm [intTm 1]) from list_in (css := [[.int .u8 1, .bool ng5, .slice A5 n5 c5, .string ⟨#[]⟩, .int .i64 0, .slice none 0 0, .slice none 0 0]]) (dss := []) ⟨by unfold Roomy; omega, Nat.le_refl _, by unfold maxLen; omega⟩ (RoomC.zero _) (one_readsC (Blk.new w5 26 #[.int .u8 1, .bool ng5, .slice A5 n5 c5, .string ⟨#[]⟩, .int .i64 0, .slice none 0 0, .slice none 0 0])) (TermsIn.one (TermIn.more (fun _ _ _ => trivial) _ _ (IA.tm (hi5.keep hk5')))) (Reads.zero _ _ _ _ _) (by unfold TermsIn; trivial))
       have HK5 := hide ((HK4.out.trans' hk5 (fun _ _ => id) (fun _ _ => id) : Keeps NoB w w5).alloc (.cells #[.int .u8 1, .bool ng5, .slice A5 n5 c5, .string ⟨#[]⟩, .int .i64 0, .slice none 0 0, .slice none 0 0] 26))
       have HKL5 := hide (hk5.trans' hk5' (fun _ _ => id) (fun _ _ => id) : Keeps NoB w4 _)
       clear hi5 hk5 hk5')
    | (go_at_call 14
       refine (law_list (some ⟨w5.heap.size, 0, none⟩) 1 1 _).mono ?_
       rintro e w6 ⟨rfl, hk6⟩
       have HL6 := hide (TermIn.keep hk6 (fun _ _ => id) _ _ HL5.out)
       have HK6 := hide (HK5.out.trans' hk6 (fun _ _ => id) (fun _ _ => id) : Keeps NoB w w6)
       have HKL6 := hide (HKL5.out.trans' hk6 (fun _ _ => id) (fun _ _ => id) : Keeps NoB w4 w6)
       clear hk6 HL5 HK5 HKL5)
    | (go_at_call 13
       refine (law_number 2 (by omega) (by omega) _).mono ?_
       rintro e w7 ⟨ng7, A7, n7, c7, rfl, hi7, hk7⟩
       have hk7' : Keeps NoB w7 (w7.alloc (.cells #[.int .u8 1, .bool ng7, .slice A7 n7 c7, .string ⟨#[]⟩, .int .i64 0, .slice none 0 0, .slice none 0 0] 26)) := (Keeps.refl NoB w7).alloc _
       have HM7 := hide (show TermIn (w7.alloc (.cells #[.int .u8 1, .bool ng7, .slice A7 n7 c7, .string ⟨#[]⟩, .int .i64 0, .slice none 0 0, .slice none 0 0] 26)) (fun _ => True) false [.int .u8 7, .bool false, .slice none 0 0, .string ⟨#[]⟩, .int .i64 0, .slice (some ⟨w7.heap.size, 0, none⟩) 1 1, .slice none 0 0] (listTm [intTm 2]) from list_in (css := [[.int .u8 1, .bool ng7, .slice A7 n7 c7, .string ⟨#[]⟩, .int .i64 0, .slice none 0 0, .slice none 0 0]]) (dss := []) ⟨by unfold Roomy; omega, Nat.le_refl _, by unfold maxLen; omega⟩ (RoomC.zero _) (one_readsC (Blk.new w7 26 #[.int .u8 1, .bool ng7, .slice A7 n7 c7, .string ⟨#[]⟩, .int .i64 0, .slice none 0 0, .slice none 0 0])) (TermsIn.one (TermIn.more (fun _ _ _ => trivial) _ _ (IA.tm (hi7.keep hk7')))) (Reads.zero _ _ _ _ _) (by unfold TermsIn; trivial))
       have HL7 := hide (TermIn.keep (hk7.trans' hk7' (fun _ _ => id) (fun _ _ => id) : Keeps NoB w6 _) (fun _ _ => id) _ _ HL6.out)
       have HK7 := hide ((HK6.out.trans' hk7 (fun _ _ => id) (fun _ _ => id) : Keeps NoB w w7).alloc (.cells #[.int .u8 1, .bool ng7, .slice A7 n7 c7, .string ⟨#[]⟩, .int .i64 0, .slice none 0 0, .slice none 0 0] 26))
       have HKL7 := hide ((HKL6.out.trans' hk7 (fun _ _ => id) (fun _ _ => id) : Keeps NoB w4 w7).alloc (.cells #[.int .u8 1, .bool ng7, .slice A7 n7 c7, .string ⟨#[]⟩, .int .i64 0, .slice none 0 0, .slice none 0 0] 26))
       clear hi7 hk7 hk7' HL6 HK6 HKL6)
    | (go_at_call 14
       refine (law_list (some ⟨w7.heap.size, 0, none⟩) 1 1 _).mono ?_
       rintro e w8 ⟨rfl, hk8⟩
       have hk8' : Keeps NoB w8 (w8.alloc (.cells #[.int .u8 7, .bool false, .slice none 0 0, .string ⟨#[]⟩, .int .i64 0, .slice (some ⟨w5.heap.size, 0, none⟩) 1 1, .slice none 0 0, .int .u8 7, .bool false, .slice none 0 0, .string ⟨#[]⟩, .int .i64 0, .slice (some ⟨w7.heap.size, 0, none⟩) 1 1, .slice none 0 0] 26)) := (Keeps.refl NoB w8).alloc _
       have HL8 := hide (TermIn.more (B' := fun k => k < (w8.alloc (.cells #[.int .u8 7, .bool false, .slice none 0 0, .string ⟨#[]⟩, .int .i64 0, .slice (some ⟨w5.heap.size, 0, none⟩) 1 1, .slice none 0 0, .int .u8 7, .bool false, .slice none 0 0, .string ⟨#[]⟩, .int .i64 0, .slice (some ⟨w7.heap.size, 0, none⟩) 1 1, .slice none 0 0] 26)).heap.size) (fun _ h _ => h) _ _ (TermIn.keep (hk8.trans' hk8' (fun _ _ => id) (fun _ _ => id) : Keeps NoB _ _) (fun _ _ => id) _ _ HL7.out))
       have HM8 := hide (TermIn.more (B' := fun k => k < (w8.alloc (.cells #[.int .u8 7, .bool false, .slice none 0 0, .string ⟨#[]⟩, .int .i64 0, .slice (some ⟨w5.heap.size, 0, none⟩) 1 1, .slice none 0 0, .int .u8 7, .bool false, .slice none 0 0, .string ⟨#[]⟩, .int .i64 0, .slice (some ⟨w7.heap.size, 0, none⟩) 1 1, .slice none 0 0] 26)).heap.size) (fun _ h _ => h) _ _ (TermIn.keep (hk8.trans' hk8' (fun _ _ => id) (fun _ _ => id) : Keeps NoB _ _) (fun _ _ => id) _ _ HM7.out))
       have HK8 := hide ((HK7.out.trans' hk8 (fun _ _ => id) (fun _ _ => id) : Keeps NoB w w8).alloc (.cells #[.int .u8 7, .bool false, .slice none 0 0, .string ⟨#[]⟩, .int .i64 0, .slice (some ⟨w5.heap.size, 0, none⟩) 1 1, .slice none 0 0, .int .u8 7, .bool false, .slice none 0 0, .string ⟨#[]⟩, .int .i64 0, .slice (some ⟨w7.heap.size, 0, none⟩) 1 1, .slice none 0 0] 26))
       have HKL8 := hide ((HKL7.out.trans' hk8 (fun _ _ => id) (fun _ _ => id) : Keeps NoB w4 w8).alloc (.cells #[.int .u8 7, .bool false, .slice none 0 0, .string ⟨#[]⟩, .int .i64 0, .slice (some ⟨w5.heap.size, 0, none⟩) 1 1, .slice none 0 0, .int .u8 7, .bool false, .slice none 0 0, .string ⟨#[]⟩, .int .i64 0, .slice (some ⟨w7.heap.size, 0, none⟩) 1 1, .slice none 0 0] 26))
       clear hk8 hk8' HL7 HM7 HK7 HKL7)
    | (go_at_call 12
       refine (call_plus (listTm [intTm 1]) (listTm [intTm 2]) (list_ok _ (ok_one _ (intTm_ok 1))) (list_ok _ (ok_one _ (intTm_ok 2))) (list_one 1 (by decide) (by decide)) (list_one 2 (by decide) (by decide)) rfl (by show 0 < 1; omega) rfl (by show (1 + 1) * 104 ≤ _; omega) (list_two 1 2 (by decide) (by decide) (by decide) (by decide)) _ (HL.out.keep HK8.out) _ _ _ _ _ _ _ _ _ _ _ _ _ _ _ _ _ _ _ _ _ _ _ _ _ _ _ _ (Blk.new w8 26 #[.int .u8 7, .bool false, .slice none 0 0, .string ⟨#[]⟩, .int .i64 0, .slice (some ⟨w5.heap.size, 0, none⟩) 1 1, .slice none 0 0, .int .u8 7, .bool false, .slice none 0 0, .string ⟨#[]⟩, .int .i64 0, .slice (some ⟨w7.heap.size, 0, none⟩) 1 1, .slice none 0 0]) HL8.out HM8.out).mono ?_
       rintro e w9 ⟨kv9, gv9, lv9, lvn9, lvc9, sv9, mv9, iv9, ivn9, ivc9, tv9, tvn9, tvc9, kr9, gr9, lr9, lrn9, lrc9, sr9, mr9, ir9, irn9, irc9, tr9, trn9, trc9, rfl, hv9, hr9, hk9⟩
       obtain rfl : kr9 = 0 := kind_cells hr9
       obtain rfl : ivn9 = 2 := by
         obtain ⟨_, _, _, _, _, he9, _, _, _, _, _, _, _, hil9, _⟩ := hv9.parts
         injection he9 with _ _ _ _ _ he6 _
         rw [← hil9, ← he6]
         rfl
       have HK9 := hide (HK8.out.trans' hk9 (fun _ _ => id) (fun _ _ => id) : Keeps NoB w w9)
       have HKL9 := hide (HKL8.out.trans' hk9 (fun _ _ => id) (fun _ _ => id) : Keeps NoB w4 w9)
       clear hv9 hr9 hk9 HL8 HM8 HK8 HKL8)
    | fail
  have hkn9 : Keeps NoB w9 ((w9.alloc (.cells #[.int .u8 kv9, .bool gv9, .slice lv9 lvn9 lvc9, .string sv9, .int .i64 mv9, .slice iv9 2 ivc9, .slice tv9 tvn9 tvc9] 26)).alloc (.cells #[.int .u8 0, .bool gr9, .slice lr9 lrn9 lrc9, .string sr9, .int .i64 mr9, .slice ir9 irn9 irc9, .slice tr9 trn9 trc9] 26)) := ((Keeps.refl NoB w9).alloc _).alloc _
  have HC10 := hide (two_tblks w9 26 26 #[.int .u8 kv9, .bool gv9, .slice lv9 lvn9 lvc9, .string sv9, .int .i64 mv9, .slice iv9 2 ivc9, .slice tv9 tvn9 tvc9] #[.int .u8 0, .bool gr9, .slice lr9 lrn9 lrc9, .string sr9, .int .i64 mr9, .slice ir9 irn9 irc9, .slice tr9 trn9 trc9]).1; have HD10 := hide (two_tblks w9 26 26 #[.int .u8 kv9, .bool gv9, .slice lv9 lvn9 lvc9, .string sv9, .int .i64 mv9, .slice iv9 2 ivc9, .slice tv9 tvn9 tvc9] #[.int .u8 0, .bool gr9, .slice lr9 lrn9 lrc9, .string sr9, .int .i64 mr9, .slice ir9 irn9 irc9, .slice tr9 trn9 trc9]).2
  have hkl10 := (HKL9.out.trans' hkn9 (fun _ _ => id) (fun _ _ => id) : Keeps NoB w4 _)
  have HB10 := hide (HB4.out.keep hkl10 id); have HE10 := hide (HE4.out.keep hkl10 id)
  have HT10 := hide (TermIn.keep hkl10 (fun _ _ => id) _ _ HT4.out)
  have HK10 := hide (HK9.out.trans' hkn9 (fun _ _ => id) (fun _ _ => id) : Keeps NoB w _)
  clear hkn9 hkl10 HK9 HKL9 HB4 HE4 HT4
  generalize (w9.alloc (.cells #[.int .u8 kv9, .bool gv9, .slice lv9 lvn9 lvc9, .string sv9, .int .i64 mv9, .slice iv9 2 ivc9, .slice tv9 tvn9 tvc9] 26)).alloc (.cells #[.int .u8 0, .bool gr9, .slice lr9 lrn9 lrc9, .string sr9, .int .i64 mr9, .slice ir9 irn9 irc9, .slice tr9 trn9 trc9] 26) = w10 at *
  generalize w9.heap.size = g4 at *
  go_upto_region 4 with
    first
    | (go_at_call 15
       refine (law_atom ⟨#[120]⟩ _).mono ?_
       rintro e w11 ⟨rfl, hk11⟩
       have HK11 := hide ((HK10.out.trans' hk11 (fun _ _ => id) (fun _ _ => id) : Keeps NoB w w11).alloc (.cells #[.int .u8 2, .bool false, .slice none 0 0, .string ⟨#[120]⟩, .int .i64 0, .slice none 0 0, .slice none 0 0] 26))
       have HKL11 := hide (hk11.alloc (.cells #[.int .u8 2, .bool false, .slice none 0 0, .string ⟨#[120]⟩, .int .i64 0, .slice none 0 0, .slice none 0 0] 26))
       clear hk11)
    | (go_at_call 12
       refine (call_hd (flatT 2 ⟨#[120]⟩ 0) (by kernel_rfl) (by show ¬ (2 : Int) = 7; omega) _ (HL.out.keep HK11.out) (HKA.out.keep HK11.out) _ _ _ _ _ _ _ _ _ _ _ _ _ _ _ (Blk.new w11 26 #[.int .u8 2, .bool false, .slice none 0 0, .string ⟨#[120]⟩, .int .i64 0, .slice none 0 0, .slice none 0 0]) (flat_in _ _ _ _ _ _)).mono ?_
       rintro e w12 ⟨kv12, gv12, lv12, lvn12, lvc12, sv12, mv12, iv12, ivn12, ivc12, tv12, tvn12, tvc12, kr12, gr12, lr12, lrn12, lrc12, sr12, mr12, ir12, irn12, irc12, tr12, trn12, trc12, rfl, hv12, hr12, hk12⟩
       have HR12 := hide hr12
       have HK12 := hide (HK11.out.trans' hk12 (fun _ _ => id) (fun _ _ => id) : Keeps NoB w w12)
       have HKL12 := hide (HKL11.out.trans' hk12 (fun _ _ => id) (fun _ _ => id) : Keeps NoB w10 w12)
       clear hv12 hr12 hk12 HK11 HKL11)
    | fail
  have hkn12 : Keeps NoB w12 ((w12.alloc (.cells #[.int .u8 kv12, .bool gv12, .slice lv12 lvn12 lvc12, .string sv12, .int .i64 mv12, .slice iv12 ivn12 ivc12, .slice tv12 tvn12 tvc12] 26)).alloc (.cells #[.int .u8 kr12, .bool gr12, .slice lr12 lrn12 lrc12, .string sr12, .int .i64 mr12, .slice ir12 irn12 irc12, .slice tr12 trn12 trc12] 26)) := ((Keeps.refl NoB w12).alloc _).alloc _
  have HF13 := hide (two_tblks w12 26 26 #[.int .u8 kv12, .bool gv12, .slice lv12 lvn12 lvc12, .string sv12, .int .i64 mv12, .slice iv12 ivn12 ivc12, .slice tv12 tvn12 tvc12] #[.int .u8 kr12, .bool gr12, .slice lr12 lrn12 lrc12, .string sr12, .int .i64 mr12, .slice ir12 irn12 irc12, .slice tr12 trn12 trc12]).2
  have hkl13 := (HKL12.out.trans' hkn12 (fun _ _ => id) (fun _ _ => id) : Keeps NoB w10 _)
  have HB13 := hide (HB10.out.keep hkl13 id); have HE13 := hide (HE10.out.keep hkl13 id); have HC13 := hide (HC10.out.keep hkl13 id); have HD13 := hide (HD10.out.keep hkl13 id)
  have HT13 := hide (TermIn.keep hkl13 (fun _ _ => id) _ _ HT10.out)
  have HR13 := hide (TermIn.more (B' := fun _ => True) (fun _ _ _ => trivial) _ _ (TermIn.keep hkn12 (fun _ _ => id) _ _ HR12.out))
  have HK13 := hide (HK12.out.trans' hkn12 (fun _ _ => id) (fun _ _ => id) : Keeps NoB w _)
  clear hkn12 hkl13 HK12 HKL12 HB10 HE10 HC10 HD10 HT10 HR12
  generalize (w12.alloc (.cells #[.int .u8 kv12, .bool gv12, .slice lv12 lvn12 lvc12, .string sv12, .int .i64 mv12, .slice iv12 ivn12 ivc12, .slice tv12 tvn12 tvc12] 26)).alloc (.cells #[.int .u8 kr12, .bool gr12, .slice lr12 lrn12 lrc12, .string sr12, .int .i64 mr12, .slice ir12 irn12 irc12, .slice tr12 trn12 trc12] 26) = w13 at *
  generalize w12.heap.size = g7 at *
  go_upto_region 5 with
    first
    | (go_at_call 12
       refine (call_self w13 (HL.out.keep HK13.out)).mono ?_
       rintro e w14 ⟨rfl, hk14⟩
       have hkn14 : Keeps NoB w14 ((w14.alloc (.cells #[.int .u8 0, .bool false, .slice none 0 0, .string ⟨#[]⟩, .int .i64 0, .slice none 0 0, .slice none 0 0] 26)).alloc (.cells #[.int .u8 0, .bool false, .slice none 0 0, .string ⟨#[]⟩, .int .i64 0, .slice none 0 0, .slice none 0 0] 26)) := ((Keeps.refl NoB w14).alloc _).alloc _
       have HKL14 := hide (hk14.trans' hkn14 (fun _ _ => id) (fun _ _ => id) : Keeps NoB w13 _)
       clear hk14 hkn14)
    | fail
  have HB15 := hide (HB13.out.keep HKL14.out id); have HE15 := hide (HE13.out.keep HKL14.out id); have HC15 := hide (HC13.out.keep HKL14.out id); have HD15 := hide (HD13.out.keep HKL14.out id); have HF15 := hide (HF13.out.keep HKL14.out id)
  have HT15 := hide (TermIn.keep HKL14.out (fun _ _ => id) _ _ HT13.out); have HR15 := hide (TermIn.keep HKL14.out (fun _ _ => id) _ _ HR13.out)
  have HK15 := hide (HK13.out.trans' HKL14.out (fun _ _ => id) (fun _ _ => id) : Keeps NoB w _)
  clear HB13 HE13 HC13 HD13 HF13 HT13 HR13 HK13 HKL14 HL HKA
  generalize (w14.alloc (.cells #[.int .u8 0, .bool false, .slice none 0 0, .string ⟨#[]⟩, .int .i64 0, .slice none 0 0, .slice none 0 0] 26)).alloc (.cells #[.int .u8 0, .bool false, .slice none 0 0, .string ⟨#[]⟩, .int .i64 0, .slice none 0 0, .slice none 0 0] 26) = w15 at *
  obtain ⟨rfl, rfl, rfl, rfl, rfl, hi15⟩ := int_cells HT15.out (small_big (by decide))
  have HI15 := hide hi15
  obtain ⟨rfl, rfl, b, p, ngs, las, lns, lcs, nms, ias, ims, ics, tas, tns, tcs, rfl, s0, s1, s2, s3, s4, s5, s6⟩ := second_err HR15.out
  clear hi15 HT15 HR15
  have e0 : w15.cell? ⟨g1 + 1, 0, none⟩ = some (.int .u8 0) := HE15.out.cell 0
  have d0 : w15.cell? ⟨g4 + 1, 0, none⟩ = some (.int .u8 0) := HD15.out.cell 0
  have c5 : w15.cell? ⟨g4, 5, none⟩ = some (.slice iv9 2 ivc9) := HC15.out.cell 5
  have f0 : w15.cell? ⟨g7 + 1, 0, none⟩ = some (.int .u8 6) := HF15.out.cell 0
  have f5 : w15.cell? ⟨g7 + 1, 5, none⟩ = some (.slice (some ⟨b, p, none⟩) 2 irc12) := HF15.out.cell 5
  obtain ⟨b0, b1, b2, b3, b4, b5, b6⟩ := Blk.c7 (show Blk w15 (g1) _ #[.int .u8 1, .bool gv3, .slice lv3 lvn3 lvc3, .string ByteArray.empty, .int .i64 0, .slice iv3 0 ivc3, .slice tv3 0 tvc3] from HB15.out)
  have HS := hide (⟨s0, s1, s2, s3, s4, s5, s6⟩ : _ ∧ _ ∧ _ ∧ _ ∧ _ ∧ _ ∧ _)
  clear s0 s1 s2 s3 s4 s5 s6
  go_wp2_with
    first
    | (go_at_call 16
       refine (text_any gv3 lv3 iv3 tv3 lvn3 lvc3 ivc3 tvc3 (40 + 2) w15 _ HI15.out).mono ?_
       rintro e w16 ⟨rfl, hk16⟩
       rw [show ((40 : Int) + 2) = 42 from rfl, txt_42]
       have HK16 := hide (HK15.out.trans' hk16 (fun _ _ => id) (fun _ _ => id) : Keeps NoB w w16)
       have d0' : w16.cell? ⟨g4 + 1, 0, none⟩ = some (.int .u8 0) := hk16.cell id d0
       have c5' : w16.cell? ⟨g4, 5, none⟩ = some (.slice iv9 2 ivc9) := hk16.cell id c5
       have f0' : w16.cell? ⟨g7 + 1, 0, none⟩ = some (.int .u8 6) := hk16.cell id f0
       have f5' : w16.cell? ⟨g7 + 1, 5, none⟩ = some (.slice (some ⟨b, p, none⟩) 2 irc12) := hk16.cell id f5
       have t0 : w16.cell? ⟨b, p + 7, none⟩ = some (.int .u8 2) := hk16.cell id HS.out.1
       have t1 : w16.cell? ⟨b, p + 7 + 1, none⟩ = some (.bool ngs) := hk16.cell id HS.out.2.1
       have t2 : w16.cell? ⟨b, p + 7 + 2, none⟩ = some (.slice las lns lcs) := hk16.cell id HS.out.2.2.1
       have t3 : w16.cell? ⟨b, p + 7 + 3, none⟩ = some (.string ⟨#[98, 97, 100, 97, 114, 103]⟩) := hk16.cell id HS.out.2.2.2.1
       have t4 : w16.cell? ⟨b, p + 7 + 4, none⟩ = some (.int .i64 nms) := hk16.cell id HS.out.2.2.2.2.1
       have t5 : w16.cell? ⟨b, p + 7 + 5, none⟩ = some (.slice ias ims ics) := hk16.cell id HS.out.2.2.2.2.2.1
       have t6 : w16.cell? ⟨b, p + 7 + 6, none⟩ = some (.slice tas tns tcs) := hk16.cell id HS.out.2.2.2.2.2.2
       clear hk16)
    | (go_at_call 17
       refine (is_badarg ngs las lns lcs nms ias ims ics tas tns tcs _).mono ?_
       rintro e w17 ⟨rfl, hk17⟩
       have HK17 := hide (HK16.out.trans' hk17 (fun _ _ => id) (fun _ _ => id) : Keeps NoB w w17)
       clear hk17)
    | fail
  go_ret
  exact ⟨rfl, HK17.out⟩
end Go.Proofs.YthbbalkhmofndaaGreatDoor
