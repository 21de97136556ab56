/- law11.great where no variables are given: it returns. Printed by mkmatgr.py. pigeonholekit: Pick: the rest, never below nought. law11.sameTruths of equal rows; of equal terms SameTerms. -/
import Derived.Test.YtjdbjjjbgibpaaaGreatDoorMatAwkJn
import Derived.Test.YtjdbjjjbgibpaaaGreatDoorCoOfJn
import Derived.Test.YtjdbjjjbgibpaaaGreatDoorTermLawJn
import Derived.Test.YtjdbjjjbgibpaaaGreatDoorSeqJn
import Derived.WalkKit
import Derived.WalkLawsBesides
namespace Go.Proofs.YtjdbjjjbgibpaaaGreatDoor
open Go.RowKit

def Amt (N : Int) (v : Value) : Prop := ∃ r : Int, v = .int .i64 r ∧ 1 ≤ r ∧ r ≤ N
set_option maxRecDepth 100000 in
set_option maxHeartbeats 4000000 in
theorem great_nil (p : Co) (t : Tm) (hop : okC p) (hot : okT t) (w : World) (ck1 : Int) (cx1 : ByteArray) (cn1 tk1 : Int) (cg1 : Bool) (ca1 : Option Addr) (cl1 cc1 : Nat) (tt1 : ByteArray) (tz1 : Int) (ja1 : Option Addr) (jm1 jc1 : Nat) (ua1 : Option Addr) (um1 uc1 : Nat) (ka1 : Option Addr) (kn1 kc1 : Nat) (kd2 : Int) (ng2 : Bool) (la2 : Option Addr) (ln2 lc2 : Nat) (tx2 : ByteArray) (nm2 : Int) (ia2 : Option Addr) (im2 ic2 : Nat) (ta2 : Option Addr) (tn2 tc2 : Nat) (hp : CoreIn w TT false [.int .u8 ck1, .string cx1, .int .i64 cn1, .int .u8 tk1, .bool cg1, .slice ca1 cl1 cc1, .string tt1, .int .i64 tz1, .slice ja1 jm1 jc1, .slice ua1 um1 uc1, .slice ka1 kn1 kc1] p) (ht : TermIn w TT false [.int .u8 kd2, .bool ng2, .slice la2 ln2 lc2, .string tx2, .int .i64 nm2, .slice ia2 im2 ic2, .slice ta2 tn2 tc2] t) :
    Calls Tryz.prog 14 #[.agg #[.int .u8 ck1, .string cx1, .int .i64 cn1, .int .u8 tk1, .bool cg1, .slice ca1 cl1 cc1, .string tt1, .int .i64 tz1, .slice ja1 jm1 jc1, .slice ua1 um1 uc1, .slice ka1 kn1 kc1], .agg #[.int .u8 kd2, .bool ng2, .slice la2 ln2 lc2, .string tx2, .int .i64 nm2, .slice ia2 im2 ic2, .slice ta2 tn2 tc2], .slice none 0 0, .slice none 0 0] w fun e w' => (∃ b, e = .returned (.bool b)) ∧ Keeps NoB w w' := by
  have HK0 := hide (((Keeps.refl NoB w).alloc (.cells #[.int .u8 ck1, .string cx1, .int .i64 cn1, .int .u8 tk1, .bool cg1, .slice ca1 cl1 cc1, .string tt1, .int .i64 tz1, .slice ja1 jm1 jc1, .slice ua1 um1 uc1, .slice ka1 kn1 kc1] 34)).alloc (.cells #[.int .u8 kd2, .bool ng2, .slice la2 ln2 lc2, .string tx2, .int .i64 nm2, .slice ia2 im2 ic2, .slice ta2 tn2 tc2] 26))
  have HB0 := hide (two_tblks w 34 26 #[.int .u8 ck1, .string cx1, .int .i64 cn1, .int .u8 tk1, .bool cg1, .slice ca1 cl1 cc1, .string tt1, .int .i64 tz1, .slice ja1 jm1 jc1, .slice ua1 um1 uc1, .slice ka1 kn1 kc1] #[.int .u8 kd2, .bool ng2, .slice la2 ln2 lc2, .string tx2, .int .i64 nm2, .slice ia2 im2 ic2, .slice ta2 tn2 tc2]).1; have HB1 := hide (two_tblks w 34 26 #[.int .u8 ck1, .string cx1, .int .i64 cn1, .int .u8 tk1, .bool cg1, .slice ca1 cl1 cc1, .string tt1, .int .i64 tz1, .slice ja1 jm1 jc1, .slice ua1 um1 uc1, .slice ka1 kn1 kc1] #[.int .u8 kd2, .bool ng2, .slice la2 ln2 lc2, .string tx2, .int .i64 nm2, .slice ia2 im2 ic2, .slice ta2 tn2 tc2]).2
  have HP := hide (CoreIn.keep HK0.out (fun _ _ => id) _ _ hp); have HT := hide (TermIn.keep HK0.out (fun _ _ => id) _ _ ht)
  have HOP := hide hop; have HOT := hide hot
  clear hp ht hop hot
  go_enter Tryz.func14, Tryz.ntmps14
  go_upto_region 1 with fail
  generalize (w.alloc (.cells #[.int .u8 ck1, .string cx1, .int .i64 cn1, .int .u8 tk1, .bool cg1, .slice ca1 cl1 cc1, .string tt1, .int .i64 tz1, .slice ja1 jm1 jc1, .slice ua1 um1 uc1, .slice ka1 kn1 kc1] 34)).alloc (.cells #[.int .u8 kd2, .bool ng2, .slice la2 ln2 lc2, .string tx2, .int .i64 nm2, .slice ia2 im2 ic2, .slice ta2 tn2 tc2] 26) = w0 at *
  have HBX := hide (show Blk w0.drew w.heap.size 34 _ from HB0.out); have HCX := hide (show Blk w0.drew (w.heap.size + 1) 26 _ from HB1.out)
  have HPX := hide (CoreIn.keep ((Keeps.refl NoB w0).drew) (fun _ _ => id) _ _ HP.out); have HTX := hide (TermIn.keep ((Keeps.refl NoB w0).drew) (fun _ _ => id) _ _ HT.out)
  refine order_facts [KF.eq (.agg #[.int .u8 ck1, .string cx1, .int .i64 cn1, .int .u8 tk1, .bool cg1, .slice ca1 cl1 cc1, .string tt1, .int .i64 tz1, .slice ja1 jm1 jc1, .slice ua1 um1 uc1, .slice ka1 kn1 kc1]), KF.of (Amt 562949953427312), KF.eq (.agg #[.int .u8 kd2, .bool ng2, .slice la2 ln2 lc2, .string tx2, .int .i64 nm2, .slice ia2 im2 ic2, .slice ta2 tn2 tc2]), KF.of (Amt 281474976716656), KF.of (Amt 900000000000000), KF.of (Amt 900000000000000)] (fun xs => { tmps := #[.agg #[.int .u8 ck1, .string cx1, .int .i64 cn1, .int .u8 tk1, .bool cg1, .slice ca1 cl1 cc1, .string tt1, .int .i64 tz1, .slice ja1 jm1 jc1, .slice ua1 um1 uc1, .slice ka1 kn1 kc1], .agg #[.int .u8 kd2, .bool ng2, .slice la2 ln2 lc2, .string tx2, .int .i64 nm2, .slice ia2 im2 ic2, .slice ta2 tn2 tc2], .slice none 0 0, .slice none 0 0, .pointer (some ⟨w.heap.size, 0, none⟩), .pointer (some ⟨w.heap.size + 1, 0, none⟩), undef, undef, .bool false, xs 5, undef, xs 0, xs 1, xs 2, xs 3, xs 4, undef, undef, undef, undef, undef, undef, undef, undef, undef, undef, undef, undef, undef, undef, undef, undef, undef, undef, undef, undef, undef, undef, undef, undef, undef, undef, undef, undef, undef], defers := [] }) (fun _ => undef) (by kernel_rfl) (by kernel_rfl) rfl ?_ ?_
  · intro d xs wx i oi hoi hdi hk hx hdep K hK
    have hi : i < 6 := by have h := (Array.getElem?_eq_some_iff.1 hoi).1; simpa using h
    have hcases : i = 0 ∨ i = 1 ∨ i = 2 ∨ i = 3 ∨ i = 4 ∨ i = 5 := by omega
    have HX := hide hx; have HKX := hide hk
    clear hx hk hdi hi
    rcases hcases with rfl | rfl | rfl | rfl | rfl | rfl
    · simp at hoi
      subst hoi
      simp [Region.binds] at hdep
      have hB := HBX.out.keep HKX.out id
      have c0 := hB.cell 0; have c1 := hB.cell 1; have c2 := hB.cell 2; have c3 := hB.cell 3; have c4 := hB.cell 4; have c5 := hB.cell 5; have c6 := hB.cell 6; have c7 := hB.cell 7; have c8 := hB.cell 8; have c9 := hB.cell 9; have c10 := hB.cell 10
      clear hB
      go_simp
      exact hK _ _ (Keeps.refl _ _) rfl
    · simp at hoi
      subst hoi
      simp [Region.binds] at hdep
      have e0 : xs 0 = .agg #[.int .u8 ck1, .string cx1, .int .i64 cn1, .int .u8 tk1, .bool cg1, .slice ca1 cl1 cc1, .string tt1, .int .i64 tz1, .slice ja1 jm1 jc1, .slice ua1 um1 uc1, .slice ka1 kn1 kc1] := (HX.out 0 (by simp [hdep]))
      rw [e0]
      go_simp
      refine (cores_of_all p.size p (Nat.le_refl _) HOP.out wx TT false _ _ _ _ _ _ _ _ _ _ _ _ _ _ _ _ _ _ _ 6000 (CoreIn.keep HKX.out (fun _ _ => id) _ _ HPX.out) (by omega) (by omega)).mono ?_
      rintro e w' ⟨r, rfl, hr1, hr2, _, hk'⟩
      have hI := hK _ w' hk' (show ∃ z : Int, Value.int .i64 r = .int .i64 z ∧ 1 ≤ z ∧ z ≤ 562949953427312 from ⟨r, rfl, hr1, by omega⟩)
      simp only [updX, Nat.reduceEqDiff, reduceIte] at hI
      rw [e0] at hI
      exact hI
    · simp at hoi
      subst hoi
      simp [Region.binds] at hdep
      have hB := HCX.out.keep HKX.out id
      have c0 := hB.cell 0; have c1 := hB.cell 1; have c2 := hB.cell 2; have c3 := hB.cell 3; have c4 := hB.cell 4; have c5 := hB.cell 5; have c6 := hB.cell 6
      clear hB
      go_simp
      exact hK _ _ (Keeps.refl _ _) rfl
    · simp at hoi
      subst hoi
      simp [Region.binds] at hdep
      have e0 : xs 2 = .agg #[.int .u8 kd2, .bool ng2, .slice la2 ln2 lc2, .string tx2, .int .i64 nm2, .slice ia2 im2 ic2, .slice ta2 tn2 tc2] := (HX.out 2 (by simp [hdep]))
      rw [e0]
      go_simp
      refine (terms_of_all2 t.size t (Nat.le_refl _) HOT.out wx TT false _ _ _ _ _ _ _ _ _ _ _ _ _ 6000 (TermIn.keep HKX.out (fun _ _ => id) _ _ HTX.out) (by omega) (by omega)).mono ?_
      rintro e w' ⟨r, rfl, hr1, hr2, _, hk'⟩
      have hI := hK _ w' hk' (show ∃ z : Int, Value.int .i64 r = .int .i64 z ∧ 1 ≤ z ∧ z ≤ 281474976716656 from ⟨r, rfl, hr1, by omega⟩)
      simp only [updX, Nat.reduceEqDiff, reduceIte] at hI
      rw [e0] at hI
      exact hI
    · simp at hoi
      subst hoi
      simp [Region.binds] at hdep
      obtain ⟨r, e1, hr1, hr2⟩ := (show Amt 562949953427312 (xs 1) from (HX.out 1 (by simp [hdep])))
      obtain ⟨s, e3, hs1, hs2⟩ := (show Amt 281474976716656 (xs 3) from (HX.out 3 (by simp [hdep])))
      rw [e1, e3]
      go_simp
      rw [show IntKind.i64.wrap (r + s) = r + s from IntWalk.i64_in _ (by omega)]
      have hI := hK _ wx (Keeps.refl _ _) (show Amt 900000000000000 (.int .i64 (r + s)) from ⟨r + s, rfl, by omega, by omega⟩)
      simp only [updX, Nat.reduceEqDiff, reduceIte] at hI
      rw [e1, e3] at hI
      exact hI
    · simp at hoi
      subst hoi
      simp [Region.binds] at hdep
      have h4 := (show Amt 900000000000000 (xs 4) from (HX.out 4 (by simp [hdep])))
      go_simp
      exact hK _ wx (Keeps.refl _ _) h4
  · intro xs wx hk hx
    obtain ⟨r, e5, hr1, hr2⟩ := (show Amt 900000000000000 (xs 5) from hx 5 (by decide))
    have HK1 := hide (HK0.out.drew.trans' hk (fun _ _ => id) (fun _ _ => id) : Keeps NoB w wx)
    clear hx hk
    dsimp only
    rw [e5]
    clear e5
    go_wp2_with fail
    go_loopg [9, 10] 0 (fun g s9 s10 wy => g = 0 ∧ s9 = .int .i64 r ∧ s10 = .int .i64 0 ∧ Keeps NoB wx wy)
    case atStart => exact ⟨rfl, rfl, rfl, Keeps.refl _ _⟩
    case round =>
      obtain ⟨rfl, rfl, rfl, hky⟩ := hrel
      have HKY := hide (HK1.out.trans' hky (fun _ _ => id) (fun _ _ => id) : Keeps NoB w wr)
      clear hky
      by_cases h6 : 6000 < r
      · go_wp2_with fail
        go_ret
        exact ⟨⟨_, rfl⟩, HKY.out⟩
      · have h6' : r ≤ 6000 := by omega
        clear h6
        go_wp2_with fail
        go_ret
        exact ⟨⟨_, rfl⟩, HKY.out⟩
end Go.Proofs.YtjdbjjjbgibpaaaGreatDoor
namespace Go.Proofs.YtjdbjjjbgibpaaaGreatDoor
open Go.RowKit

theorem tmod_facts (a n : Int) (hn : 1 ≤ n) : a % n = (a.tmod n) % n ∧ a.tmod n < n ∧ -n < a.tmod n := by
  refine ⟨?_, Int.tmod_lt_of_pos a (by omega), ?_⟩
  · conv => lhs; rw [← Int.tmod_add_mul_tdiv a n]
    rw [Int.add_mul_emod_self_left]
  · have := Int.tmod_lt_of_pos (-a) (b := n) (by omega)
    rw [Int.neg_tmod] at this
    omega

set_option maxRecDepth 100000 in
theorem pick_any (a n : Int) (hn : 1 ≤ n) (hn2 : n ≤ 9223372036854775807) (w : World) : Calls Tryz.prog 8 #[.int .i64 a, .int .i64 n] w fun e w' => e = .returned (.int .i64 (a % n)) ∧ w = w' := by
  have hf := hide (tmod_facts a n hn)
  by_cases h : a.tmod n < 0
  · have hb : wrap64 (a.tmod n + n) = a.tmod n + n := by have := hf.out; unfold wrap64; omega
    have e : a % n = a.tmod n + n := by
      rw [hf.out.1, ← Int.add_emod_right, Int.emod_eq_of_lt (by have := hf.out; omega) (by omega)]
    have HE := hide e; clear e
    go_enter Tryz.func8, Tryz.ntmps8
    go_wp2
    go_ret
    exact ⟨by rw [HE.out, hb]; rfl, rfl⟩
  · have h0 : 0 ≤ a.tmod n := by omega
    have e : a % n = a.tmod n := by
      rw [hf.out.1, Int.emod_eq_of_lt h0 hf.out.2.1]
    have HE := hide e; clear e
    clear h
    go_enter Tryz.func8, Tryz.ntmps8
    go_wp2
    go_ret
    exact ⟨by rw [HE.out]; rfl, rfl⟩
end Go.Proofs.YtjdbjjjbgibpaaaGreatDoor
namespace Go.Proofs.YtjdbjjjbgibpaaaGreatDoor
open Go.RowKit

set_option maxRecDepth 100000 in
set_option maxHeartbeats 1000000 in
theorem truths_self (bs : List Bool) (A A' : Option Addr) (n c n' c' : Nat) (w : World) (hx : Reads w TT false 1 A n (bs.map .bool)) (hy : Reads w TT false 1 A' n' (bs.map .bool)) (hr : Roomy n 1) :
    Calls Tryz.prog 17 #[.slice A n c, .slice A' n' c'] w fun e w' => e = .returned (.bool true) ∧ Keeps NoB w w' := by
  have hln : bs.length = n := by have := hx.1; simpa using this
  have hln' : bs.length = n' := by have := hy.1; simpa using this
  obtain rfl : n = n' := by omega
  have hnm : n ≤ 9223372036854775807 := by have := hr.len (by omega); unfold maxLen at this; exact this
  have HX := hide hx; have HY := hide hy; have HLN := hide hln
  clear hx hy hln hln'
  go_enter Tryz.func17, Tryz.ntmps17
  go_wp2
  go_loopw [5] (fun i wr => ∃ k : Nat, k ≤ n ∧ i = .int .i64 k ∧ Keeps NoB w wr) (fun i _ => n - (intOf i).toNat)
  case atStart => exact ⟨0, Nat.zero_le _, rfl, Keeps.refl _ _⟩
  case round =>
    obtain ⟨k, hk, rfl, hinv⟩ := hrel
    have HI := hide hinv; clear hinv
    by_cases hlt : k < n
    · have hkx : k < bs.length := by have := HLN.out; omega
      obtain ⟨⟨b, o, sp⟩, hA, hs, _, _, hc⟩ := (HX.out.keep HI.out (fun _ _ => id)).2 (by omega)
      obtain ⟨⟨b', o', sp'⟩, hA', hs', _, _, hc'⟩ := (HY.out.keep HI.out (fun _ _ => id)).2 (by omega)
      simp only at hs hs'
      subst hs hs' hA hA'
      obtain ⟨x, hX⟩ : ∃ x, bs[k]? = some x := ⟨_, List.getElem?_eq_getElem hkx⟩
      have hcx : wr.cell? ⟨b, o + k, none⟩ = some (.bool x) := (hc k _ (by simp [hX])).1
      have hcy : wr.cell? ⟨b', o' + k, none⟩ = some (.bool x) := (hc' k _ (by simp [hX])).1
      clear hc hc' hX
      have hk1 : (k : Int) < (n : Int) := by omega
      have hk0 : (0 : Int) ≤ (k : Int) := by omega
      have hbb : (x != x) = false := by simp
      clear hkx
      go_wp2_with (go_quiet (fail))
      go_roundw
      case rel => exact ⟨k + 1, by omega, by go_num, HI.out.drewN _⟩
      case measure => simp [intOf]; omega
    · go_wp2
      go_ret
      exact ⟨rfl, HI.out⟩
end Go.Proofs.YtjdbjjjbgibpaaaGreatDoor
