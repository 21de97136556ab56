/- law11.MatchFills. Printed by mkfills.py. -/
import Derived.Test.YtjdbjjjbgibpaaaGreatDoorMatPatJn
import Derived.Test.YtjdbjjjbgibpaaaGreatDoorMatTrJn
namespace Go.Proofs.YtjdbjjjbgibpaaaGreatDoor
open Go.RowKit

/-- What lies about: how many variables are bound, the pattern. -/
structure FillAt (w0 : World) (gn g9 bn : Nat) (C : List Value) (co : Co) (w : World) : Prop where
  hn : Blk w gn 3 #[.int .i64 bn]
  h9 : Blk w g9 34 C.toArray
  hc : CoreIn w TT false C co
  hk : Keeps NoB w0 w
theorem FillAt.go {w0 w w' : World} {gn g9 bn : Nat} {C : List Value} {co : Co} (h : FillAt w0 gn g9 bn C co w) (hk : Keeps NoB w w') : FillAt w0 gn g9 bn C co w' :=
  ⟨h.hn.keep hk id, h.h9.keep hk id, CoreIn.keep hk (fun _ _ => id) _ _ h.hc, h.hk.trans' hk (fun _ _ => id) (fun _ _ => id)⟩
set_option maxRecDepth 100000 in
set_option maxHeartbeats 8000000 in
set_option pp.deepTerms true in
set_option pp.maxSteps 100000 in
theorem fills_any (t u : Tm) (z : Int) (hot : okT t) (hou : okT u) (w : World) (hL : LaidK w) (hKi : KindsAt w) (kd1 : Int) (ng1 : Bool) (la1 : Option Addr) (ln1 lc1 : Nat) (tx1 : ByteArray) (nm1 : Int) (ia1 : Option Addr) (im1 ic1 : Nat) (ta1 : Option Addr) (tn1 tc1 : Nat) (kd2 : Int) (ng2 : Bool) (la2 : Option Addr) (ln2 lc2 : Nat) (tx2 : ByteArray) (nm2 : Int) (ia2 : Option Addr) (im2 ic2 : Nat) (ta2 : Option Addr) (tn2 tc2 : Nat) (ht : TermIn w TT false [.int .u8 kd1, .bool ng1, .slice la1 ln1 lc1, .string tx1, .int .i64 nm1, .slice ia1 im1 ic1, .slice ta1 tn1 tc1] t) (hu : TermIn w TT false [.int .u8 kd2, .bool ng2, .slice la2 ln2 lc2, .string tx2, .int .i64 nm2, .slice ia2 im2 ic2, .slice ta2 tn2 tc2] u) :
    Calls Tryz.prog 3 #[.agg #[.int .u8 kd1, .bool ng1, .slice la1 ln1 lc1, .string tx1, .int .i64 nm1, .slice ia1 im1 ic1, .slice ta1 tn1 tc1], .agg #[.int .u8 kd2, .bool ng2, .slice la2 ln2 lc2, .string tx2, .int .i64 nm2, .slice ia2 im2 ic2, .slice ta2 tn2 tc2], .int .i64 z] w fun e w' => e = .returned (.bool true) ∧ Keeps NoB w w' := by
  have HK0 := hide (((Keeps.refl NoB w).alloc (.cells #[.int .u8 kd1, .bool ng1, .slice la1 ln1 lc1, .string tx1, .int .i64 nm1, .slice ia1 im1 ic1, .slice ta1 tn1 tc1] 26)).alloc (.cells #[.int .u8 kd2, .bool ng2, .slice la2 ln2 lc2, .string tx2, .int .i64 nm2, .slice ia2 im2 ic2, .slice ta2 tn2 tc2] 26))
  have HBT := hide (two_tblks w 26 26 #[.int .u8 kd1, .bool ng1, .slice la1 ln1 lc1, .string tx1, .int .i64 nm1, .slice ia1 im1 ic1, .slice ta1 tn1 tc1] #[.int .u8 kd2, .bool ng2, .slice la2 ln2 lc2, .string tx2, .int .i64 nm2, .slice ia2 im2 ic2, .slice ta2 tn2 tc2]).1; have HBU := hide (two_tblks w 26 26 #[.int .u8 kd1, .bool ng1, .slice la1 ln1 lc1, .string tx1, .int .i64 nm1, .slice ia1 im1 ic1, .slice ta1 tn1 tc1] #[.int .u8 kd2, .bool ng2, .slice la2 ln2 lc2, .string tx2, .int .i64 nm2, .slice ia2 im2 ic2, .slice ta2 tn2 tc2]).2
  have HT := hide (TermIn.keep HK0.out (fun _ _ => id) _ _ ht); have HU := hide (TermIn.keep HK0.out (fun _ _ => id) _ _ hu)
  have HL := hide (hL.keep HK0.out); have HKI := hide (hKi.keep HK0.out)
  have HOT := hide hot; have HOU := hide hou
  clear ht hu hot hou hL hKi
  go_enter Tryz.func3, Tryz.ntmps3
  go_upto_region 1 with fail
  generalize (w.alloc (.cells #[.int .u8 kd1, .bool ng1, .slice la1 ln1 lc1, .string tx1, .int .i64 nm1, .slice ia1 im1 ic1, .slice ta1 tn1 tc1] 26)).alloc (.cells #[.int .u8 kd2, .bool ng2, .slice la2 ln2 lc2, .string tx2, .int .i64 nm2, .slice ia2 im2 ic2, .slice ta2 tn2 tc2] 26) = w0 at *
  obtain ⟨gp, hgp⟩ : ∃ g, w.heap.size = g := ⟨_, rfl⟩
  rw [hgp] at HBT HBU
  simp only [hgp]
  have HGP := hide hgp
  clear hgp
  have M1 := hide True.intro
  go_upto_region 5 with
    first
    | (go_at_call 5
       refine (awake_any w0 HL.out HKI.out).mono ?_
       rintro e w1 ⟨rfl, hk1⟩
       have HK1 := hide (hk1 : Keeps NoB w0 w1)
       obtain ⟨t0, t1, t2, t3, t4, t5, t6⟩ := Blk.c7 (HBT.out.keep HK1.out id)
       clear hk1)
    | (go_at_call 6
       have hm := M1; clear hm M1
       refine (terms_of_all2 t.size t (Nat.le_refl _) HOT.out w1 TT false _ _ _ _ _ _ _ _ _ _ _ _ _ 300 (TermIn.keep HK1.out (fun _ _ => id) _ _ HT.out) (by omega) (by omega)).mono ?_
       rintro e w2 ⟨r1, rfl, _, _, _, hk2⟩
       have HK2 := hide (HK1.out.trans' hk2 (fun _ _ => id) (fun _ _ => id) : Keeps NoB w0 w2)
       clear t0 t1 t2 t3 t4 t5 t6 hk2
       obtain ⟨q0, q1, q2, q3, q4, q5, q6⟩ := Blk.c7 (HBU.out.keep HK2.out id))
    | (go_at_call 6
       refine (terms_of_all2 u.size u (Nat.le_refl _) HOU.out w2 TT false _ _ _ _ _ _ _ _ _ _ _ _ _ 300 (TermIn.keep HK2.out (fun _ _ => id) _ _ HU.out) (by omega) (by omega)).mono ?_
       rintro e w3 ⟨r2, rfl, _, _, _, hk3⟩
       have HK3 := hide (HK2.out.trans' hk3 (fun _ _ => id) (fun _ _ => id) : Keeps NoB w0 w3)
       clear q0 q1 q2 q3 q4 q5 q6 hk3
       obtain ⟨t0, t1, t2, t3, t4, t5, t6⟩ := Blk.c7 (HBT.out.keep HK3.out id))
    | (go_at_call 7
       refine (tm_right t w3 _ false _ _ _ _ _ _ _ _ _ _ _ _ _ (TermIn.keep HK3.out (fun _ _ => id) _ _ HT.out)).mono ?_
       rintro e w4 ⟨rfl, hk4⟩
       have HK4 := hide (HK3.out.trans' hk4 (fun _ _ => id) (fun _ _ => id) : Keeps NoB w0 w4)
       generalize hrt : rightT t = rt
       have HRT := hide hrt
       clear t0 t1 t2 t3 t4 t5 t6 hk4 hrt)
    | fail
  · go_ret
    exact ⟨rfl, HK0.out.trans' HK4.out (fun _ _ => id) (fun _ _ => id)⟩
  rotate_left
  · go_ret
    exact ⟨rfl, HK0.out.trans' HK3.out (fun _ _ => id) (fun _ _ => id)⟩
  · go_ret
    exact ⟨rfl, HK0.out.trans' HK2.out (fun _ _ => id) (fun _ _ => id)⟩
  have hx : (r1 ≤ 300 ∧ r2 ≤ 300) ∧ (!rt) = false := by assumption
  have hrt : rt = true := by simpa using hx.2
  subst hrt
  have HGT := hide (show goodT t from ⟨HRT.out, HOT.out⟩)
  have HST := hide (show sameT t t = true from (same_iff HOT.out HOT.out).2 ⟨HRT.out, rfl⟩)
  clear hx HK1 HK2 HK3 HL HKI
  go_upto_region 6 with
    first
    | (go_at_call 8
       refine (pick_any z 6 (by omega) (by omega) w4).mono ?_
       rintro e wx ⟨rfl, rfl⟩
       obtain ⟨z6, hz6⟩ : ∃ x, z % 6 = x := ⟨_, rfl⟩
       rw [hz6]
       clear hz6)
    | fail
  go_upto_region 7 with fail
  have HBS := hide (two_tblks w4 3 3 #[.int .i64 0] #[.int .i64 0]).1; have HBN := hide (two_tblks w4 3 3 #[.int .i64 0] #[.int .i64 0]).2
  have HK5 := hide ((HK4.out.alloc (.cells #[.int .i64 0] 3)).alloc (.cells #[.int .i64 0] 3))
  have HSZ := hide (show w0.heap.size ≤ w4.heap.size from HK4.out.size)
  generalize (w4.alloc (.cells #[.int .i64 0] 3)).alloc (.cells #[.int .i64 0] 3) = w5 at *
  generalize w4.heap.size = gs at *
  obtain ⟨t0, t1, t2, t3, t4, t5, t6⟩ := Blk.c7 (HBT.out.keep HK5.out id)
  go_upto_region 8 with
    first
    | (go_at_call 9
       refine (pattern_any z6 t HGT.out 0 0 (by omega) w5 (fun k => k < gs) _ _ _ _ _ _ _ _ _ _ _ _ _ gs (gs + 1) (fun k hk => by omega) (by omega) HBS.out (show Blk w5 (gs + 1) 3 #[.int .i64 0] from HBN.out) (TermIn.keep HK5.out (fun _ _ => id) _ _ (TermIn.more (fun k hk _ => Nat.lt_of_lt_of_le hk HSZ.out) _ _ HT.out))).mono ?_
       rintro e w6 ⟨co, bn, sn, ck4, cx4, cn4, tk4, cg4, ca4, cl4, cc4, tt4, tz4, ja4, jm4, jc4, ua4, um4, uc4, ka4, kn4, kc4, rfl, hpat, hcp, _, hnb, hk6⟩
       have HPAT := hide hpat
       have HFA := hide (show FillAt w0 (gs + 1) w6.heap.size bn [.int .u8 ck4, .string cx4, .int .i64 cn4, .int .u8 tk4, .bool cg4, .slice ca4 cl4 cc4, .string tt4, .int .i64 tz4, .slice ja4 jm4 jc4, .slice ua4 um4 uc4, .slice ka4 kn4 kc4] co (w6.alloc (.cells #[.int .u8 ck4, .string cx4, .int .i64 cn4, .int .u8 tk4, .bool cg4, .slice ca4 cl4 cc4, .string tt4, .int .i64 tz4, .slice ja4 jm4 jc4, .slice ua4 um4 uc4, .slice ka4 kn4 kc4] 34)) from ⟨hnb.alloc _, Blk.new w6 34 _, CoreIn.keep ((Keeps.refl NoB w6).alloc _) (fun _ _ => id) _ _ (CoreIn.more (fun _ _ _ => trivial) _ _ hcp), (HK5.out.trans' hk6 (fun _ _ => id) (fun k hk e => by have h1 := HSZ.out; omega)).alloc _⟩)
       clear hpat hcp hnb hk6 t0 t1 t2 t3 t4 t5 t6)
    | fail
  clear HK4 HK5 HBS HBN
  generalize w6.alloc (.cells #[.int .u8 ck4, .string cx4, .int .i64 cn4, .int .u8 tk4, .bool cg4, .slice ca4 cl4 cc4, .string tt4, .int .i64 tz4, .slice ja4 jm4 jc4, .slice ua4 um4 uc4, .slice ka4 kn4 kc4] 34) = w7 at *
  generalize w6.heap.size = g9 at *
  obtain ⟨v1, hv1, h100, hfill, hhas⟩ := self_fill HPAT.out HGT.out
  have HV1 := hide hv1; have H100 := hide h100; have HFILL := hide hfill; have HHAS := hide hhas
  clear hv1 h100 hfill hhas
  have HOC := hide (HPAT.out.okc HOT.out (by omega))
  have hkd : Keeps NoB w0 w7.drew := HFA.out.hk.drew
  have HB9X := hide (show Blk w7.drew g9 34 #[.int .u8 ck4, .string cx4, .int .i64 cn4, .int .u8 tk4, .bool cg4, .slice ca4 cl4 cc4, .string tt4, .int .i64 tz4, .slice ja4 jm4 jc4, .slice ua4 um4 uc4, .slice ka4 kn4 kc4] from HFA.out.h9); have HBTX := hide (HBT.out.keep hkd id)
  have HPX := hide (CoreIn.keep (Keeps.refl NoB w7).drew (fun _ _ => id) _ _ HFA.out.hc); have HTX := hide (TermIn.keep hkd (fun _ _ => id) _ _ HT.out)
  clear hkd
  refine order_store 8 7 (fun i => i == 6 || i == 9) [KF.eq (.agg #[.int .u8 ck4, .string cx4, .int .i64 cn4, .int .u8 tk4, .bool cg4, .slice ca4 cl4 cc4, .string tt4, .int .i64 tz4, .slice ja4 jm4 jc4, .slice ua4 um4 uc4, .slice ka4 kn4 kc4]), KF.eq (.agg #[.int .u8 kd1, .bool ng1, .slice la1 ln1 lc1, .string tx1, .int .i64 nm1, .slice ia1 im1 ic1, .slice ta1 tn1 tc1]), VarsV (newV 100), MatchV (matchF co t (newV 100)), MatchV (matchF co t (newV 100)), VarsV ((matchF co t (newV 100)).getD noV), KF.any, AllocV w7.drew.heap.size, KF.any, KF.any] [(fun _ => True), (fun _ => True), (fun _ => True), TupG (matchF co t (newV 100)), TupG (matchF co t (newV 100)), (fun _ => True), (· = .bool (matchF co t (newV 100)).isSome), (fun _ => True), (fun _ => True), (· = .bool (matchF co t (newV 100)).isSome)] (StoredV w7.drew ((matchF co t (newV 100)).getD noV)) (fun xs => { tmps := #[.agg #[.int .u8 kd1, .bool ng1, .slice la1 ln1 lc1, .string tx1, .int .i64 nm1, .slice ia1 im1 ic1, .slice ta1 tn1 tc1], .agg #[.int .u8 kd2, .bool ng2, .slice la2 ln2 lc2, .string tx2, .int .i64 nm2, .slice ia2 im2 ic2, .slice ta2 tn2 tc2], .int .i64 z6, .pointer (some ⟨gp, 0, none⟩), .pointer (some ⟨gp + 1, 0, none⟩), undef, .bool false, .pointer (some ⟨gs, 0, none⟩), .pointer (some ⟨gs + 1, 0, none⟩), .pointer (some ⟨g9, 0, none⟩), xs 7, xs 9, undef, undef, undef, .bool true, .bool false, .agg #[.int .u8 kd1, .bool ng1, .slice la1 ln1 lc1, .string tx1, .int .i64 nm1, .slice ia1 im1 ic1, .slice ta1 tn1 tc1], .int .i64 r1, .bool (decide (300 < r1)), .bool (decide (300 < r1)), .agg #[.int .u8 kd2, .bool ng2, .slice la2 ln2 lc2, .string tx2, .int .i64 nm2, .slice ia2 im2 ic2, .slice ta2 tn2 tc2], .int .i64 r2, .bool (decide (300 < r2)), .bool (decide (300 < r1) || decide (300 < r2)), .bool (decide (300 < r1) || decide (300 < r2)), .agg #[.int .u8 kd1, .bool ng1, .slice la1 ln1 lc1, .string tx1, .int .i64 nm1, .slice ia1 im1 ic1, .slice ta1 tn1 tc1], .bool true, .bool false, .bool (decide (300 < r1) || decide (300 < r2)), .int .i64 z, .int .i64 z6, .agg #[.int .u8 kd1, .bool ng1, .slice la1 ln1 lc1, .string tx1, .int .i64 nm1, .slice ia1 im1 ic1, .slice ta1 tn1 tc1], .int .i64 z6, .agg #[.int .u8 ck4, .string cx4, .int .i64 cn4, .int .u8 tk4, .bool cg4, .slice ca4 cl4 cc4, .string tt4, .int .i64 tz4, .slice ja4 jm4 jc4, .slice ua4 um4 uc4, .slice ka4 kn4 kc4], xs 4, xs 0, xs 1, xs 2, xs 3, xs 5, xs 6, undef, undef, undef, undef, undef, undef, undef, undef, undef, undef, undef, undef, undef, undef, undef, undef, undef, undef, undef, undef, undef, undef, undef, undef, undef, undef, undef, undef, undef, undef, undef, undef, undef, undef, undef, undef, undef, undef, undef, undef, undef, undef, undef, undef, undef, undef, undef, undef, undef, undef, undef, undef], defers := [] }) (fun _ => undef) (by kernel_rfl) (by kernel_rfl) (by kernel_rfl) (by kernel_rfl) rfl ?_ ?_ ?_ ?_
  · intro d xs wx i oi hoi his hds hdi hk hx hg hdep K hK
    have hi : i < 10 := by have h := (Array.getElem?_eq_some_iff.1 hoi).1; simpa using h
    have hcases : i = 0 ∨ i = 1 ∨ i = 2 ∨ i = 3 ∨ i = 4 ∨ i = 5 ∨ i = 6 ∨ i = 7 ∨ i = 9 := by omega
    have HX := hide hx; have HG := hide hg; have HKX := hide hk; have HDS := hide hds
    clear hx hg hk hds hdi his hi
    rcases hcases with rfl | rfl | rfl | rfl | rfl | rfl | rfl | rfl | rfl
    · simp at hoi
      subst hoi
      simp [Region.binds] at hdep
      have hB := HB9X.out.keep HKX.out id
      have c0 := hB.cell 0; have c1 := hB.cell 1; have c2 := hB.cell 2; have c3 := hB.cell 3; have c4 := hB.cell 4; have c5 := hB.cell 5; have c6 := hB.cell 6; have c7 := hB.cell 7; have c8 := hB.cell 8; have c9 := hB.cell 9; have c10 := hB.cell 10
      clear hB
      go_simp
      exact hK _ _ (Keeps.refl _ _) rfl trivial
    · simp at hoi
      subst hoi
      simp [Region.binds] at hdep
      have hB := HBTX.out.keep HKX.out id
      have c0 := hB.cell 0; have c1 := hB.cell 1; have c2 := hB.cell 2; have c3 := hB.cell 3; have c4 := hB.cell 4; have c5 := hB.cell 5; have c6 := hB.cell 6
      clear hB
      go_simp
      exact hK _ _ (Keeps.refl _ _) rfl trivial
    · simp at hoi
      subst hoi
      simp [Region.binds] at hdep
      go_simp
      refine (new_vars 100 (by omega) wx).mono ?_
      rintro e w' ⟨A, c, D, d1, css, rfl, hv, _, hk'⟩
      exact hK _ w' hk' ⟨_, _, _, _, _, _, _, rfl, hv.read, newV_ok 100, newV_made 100⟩ trivial
    · simp at hoi
      subst hoi
      simp [Region.binds] at hdep
      have e0 : xs 0 = .agg #[.int .u8 ck4, .string cx4, .int .i64 cn4, .int .u8 tk4, .bool cg4, .slice ca4 cl4 cc4, .string tt4, .int .i64 tz4, .slice ja4 jm4 jc4, .slice ua4 um4 uc4, .slice ka4 kn4 kc4] := (HX.out 0 (by decide) (by simp [hdep]))
      have e1 : xs 1 = .agg #[.int .u8 kd1, .bool ng1, .slice la1 ln1 lc1, .string tx1, .int .i64 nm1, .slice ia1 im1 ic1, .slice ta1 tn1 tc1] := (HX.out 1 (by decide) (by simp [hdep]))
      obtain ⟨A0, n0, c0, D0, m0, d0, css0, e2, h2, o2, _⟩ := (show (VarsV (newV 100)).say wx (xs 2) from (HX.out 2 (by decide) (by simp [hdep])))
      rw [e0, e1, e2]
      go_simp
      refine (match_top _ _ _ _ _ _ _ _ _ _ wx TT _ _ _ _ _ _ _ _ _ _ _ _ _ _ _ _ _ _ _ _ _ _ _ _ _ _ _ _ _ _ _ _ h2 o2 HOT.out HOC.out (CoreIn.keep HKX.out (fun _ _ => id) _ _ HPX.out) (TermIn.keep HKX.out (fun _ _ => id) _ _ HTX.out)).mono ?_
      rintro e w' ⟨A5, n5, c5, D5, m5, d5, css5, rfl, hv5, ho5, hm5, hk5⟩
      have hI := hK _ w' hk5 ⟨A5, n5, c5, D5, m5, d5, css5, rfl, hv5, ho5, hm5⟩ ⟨_, rfl⟩
      simp only [updX, Nat.reduceEqDiff, reduceIte] at hI
      rw [e0, e1, e2] at hI
      exact hI
    · simp at hoi
      subst hoi
      simp [Region.binds] at hdep
      have hm := (HX.out 3 (by decide) (by simp [hdep]))
      obtain ⟨x, e1⟩ := (show TupG (matchF co t (newV 100)) (xs 3) from HG.out 3 (by decide) (by simp [hdep]))
      rw [e1]
      go_simp
      have hI := hK (xs 3) wx (Keeps.refl _ _) hm ⟨x, e1⟩
      simp only [updX, Nat.reduceEqDiff, reduceIte] at hI
      rw [e1] at hI
      exact hI
    · simp at hoi
      subst hoi
      simp [Region.binds] at hdep
      obtain ⟨A5, n5, c5, D5, m5, d5, css5, e1, hv5, ho5, hm5⟩ := (show (MatchV (matchF co t (newV 100))).say wx (xs 4) from (HX.out 4 (by decide) (by simp [hdep])))
      rw [e1]
      go_simp
      have hI := hK _ wx (Keeps.refl _ _) ⟨A5, n5, c5, D5, m5, d5, css5, rfl, hv5, ho5, hm5⟩ trivial
      simp only [updX, Nat.reduceEqDiff, reduceIte] at hI
      rw [e1] at hI
      exact hI
    · simp at hoi
      subst hoi
      simp [Region.binds] at hdep
      obtain ⟨x, e1⟩ := (show TupG (matchF co t (newV 100)) (xs 4) from HG.out 4 (by decide) (by simp [hdep]))
      rw [e1]
      go_simp
      have hI := hK _ wx (Keeps.refl _ _) trivial rfl
      simp only [updX, Nat.reduceEqDiff, reduceIte] at hI
      rw [e1] at hI
      exact hI
    · simp at hoi
      subst hoi
      simp [Region.binds] at hdep
      go_simp
      exact hK _ _ ((Keeps.refl NoB wx).alloc _) ⟨wx.heap.size, rfl, HKX.out.size, Blk.new wx 39 _⟩ trivial
    · simp at hoi
      subst hoi
      simp [Region.binds] at hdep
      exact absurd HDS.out (by simp [hdep])
  · intro d xs wx i oi hoi hli his hg hdep K hK
    have hcases : i = 6 ∨ i = 9 := by simpa using hli
    have HG := hide hg
    clear hg his hli
    rcases hcases with rfl | rfl
    · simp at hoi
      subst hoi
      simp [Region.binds] at hdep
      obtain ⟨x, e1⟩ := (show TupG (matchF co t (newV 100)) (xs 4) from HG.out 4 (by decide) (by simp [hdep]))
      rw [e1]
      go_simp
      have hI := hK _ rfl
      simp only [updX, Nat.reduceEqDiff, reduceIte] at hI
      rw [e1] at hI
      exact hI
    · simp at hoi
      subst hoi
      simp [Region.binds] at hdep
      have e1 : xs 6 = .bool (matchF co t (newV 100)).isSome := HG.out 6 (by decide) (by simp [hdep])
      rw [e1]
      go_simp
      have hI := hK _ rfl
      simp only [updX, Nat.reduceEqDiff, reduceIte] at hI
      rw [e1] at hI
      exact hI
  · intro d xs wx oi hoi hk hx hg hdep K hK
    have HX := hide hx; have HKX := hide hk
    clear hx hk hg
    simp at hoi
    subst hoi
    simp [Region.binds] at hdep
    obtain ⟨b, e9, hN, hb⟩ := (show (AllocV w7.drew.heap.size).say wx (xs 7) from (HX.out 7 (by decide) (by simp [hdep])))
    obtain ⟨A7, n7, c7, D7, m7, d7, css7, e7, hv7, ho7, hm7⟩ := (show (VarsV ((matchF co t (newV 100)).getD noV)).say wx (xs 5) from (HX.out 5 (by decide) (by simp [hdep])))
    have z0 := hb.free 0; have z1 := hb.free 1
    have v0' := hb.cell 0; have v1' := hb.cell 1
    have hI := hK _ (by rw [e9]; exact stored_vars HKX.out hb hN hv7 ho7 hm7)
    simp only at hI
    rw [e7, e9] at hI ⊢
    clear hb hv7 ho7 hm7 hK
    go_simp
    exact hI
  intro xs8 w8 hG hH
  obtain ⟨b8, e8, hN8, hk8, A8, n8, c8, D8, m8, d8, css8, hB8, hVI8, ho8, hm8⟩ := hH
  have e9 : xs8 9 = .bool (matchF co t (newV 100)).isSome := hG 9 (by decide) (by decide)
  rw [HV1.out] at e9 hVI8
  have hk8' := ((Keeps.refl NoB w7).drew.trans' hk8 (fun _ _ => id) (fun _ _ => id) : Keeps NoB w7 w8)
  have HF8 := hide (HFA.out.go hk8')
  have hn8 : n8 = 100 := by rw [← hVI8.nh]; exact H100.out.1
  subst hn8
  have HB8 := hide hB8; have HVI8 := hide (show VIn w8 TT A8 100 c8 D8 m8 d8 css8 v1 from hVI8)
  clear hG hk8 hk8' hB8 hVI8 ho8 hm8 hN8 HB9X HBTX HPX HTX HFA
  dsimp only
  rw [e8, e9]
  clear e8 e9
  simp only [Option.isSome_some]
  go_upto_region 9 with fail
  refine order_begin (fun W => Keeps NoB w8.drew W) (fun _ => true) (by kernel_rfl) 16 rfl ?_
  have HF9 := hide (HF8.out.go (Keeps.refl NoB w8).drew); have HB9 := hide (show Blk w8.drew b8 39 #[.slice A8 100 c8, .slice D8 m8 d8] from HB8.out); have HVI9 := hide (HVI8.out.keep (Keeps.refl NoB w8).drew (fun _ _ => id))
  clear HF8 HB8 HVI8
  generalize w8.drew = w9 at *
  have HSW := hide (Keeps.refl NoB w9)
  have HC9 := hide (show Blk w9 g9 34 #[.int .u8 ck4, .string cx4, .int .i64 cn4, .int .u8 tk4, .bool cg4, .slice ca4 cl4 cc4, .string tt4, .int .i64 tz4, .slice ja4 jm4 jc4, .slice ua4 um4 uc4, .slice ka4 kn4 kc4] from HF9.out.h9)
  have HBT9 := hide (HBT.out.keep HF9.out.hk id)
  refine order_pure (i := 0) rfl (by kernel_rfl) (fun _ _ _ h => h) (.inl ⟨rfl, fun _ => by go_simp; rfl⟩) ?_
  try simp only [Act.put, List.setIfInBounds_toArray, List.set_cons_succ, List.set_cons_zero]
  refine order_pure (i := 1) rfl (by kernel_rfl) (fun _ _ _ h => h) (.inl ⟨rfl, fun _ => by go_simp; rfl⟩) ?_
  try simp only [Act.put, List.setIfInBounds_toArray, List.set_cons_succ, List.set_cons_zero]
  refine order_pure (i := 2) rfl (by kernel_rfl) (fun _ _ _ h => h) (.inl ⟨rfl, fun _ => by go_simp; rfl⟩) ?_
  try simp only [Act.put, List.setIfInBounds_toArray, List.set_cons_succ, List.set_cons_zero]
  refine order_pure (i := 3) rfl (by kernel_rfl) (fun _ _ _ h => h) (.inl ⟨rfl, fun _ => by go_simp; rfl⟩) ?_
  try simp only [Act.put, List.setIfInBounds_toArray, List.set_cons_succ, List.set_cons_zero]
  refine order_held (i := 4) rfl (by kernel_rfl) (fun _ _ _ h => h) (.inl ⟨rfl, fun W hW => by
    have q0 : W.cell? ⟨b8, 0, none⟩ = some (.slice A8 100 c8) := hW.cell id (HB9.out.cell 0)
    go_simp; rfl⟩) HSW.out ?_
  try simp only [Act.put, List.setIfInBounds_toArray, List.set_cons_succ, List.set_cons_zero]
  refine order_pure (i := 5) rfl (by kernel_rfl) (fun _ _ _ h => h) (.inl ⟨rfl, fun _ => by go_simp; rfl⟩) ?_
  try simp only [Act.put, List.setIfInBounds_toArray, List.set_cons_succ, List.set_cons_zero]
  refine order_pure (i := 6) rfl (by kernel_rfl) (fun _ _ _ h => h) (.inl ⟨rfl, fun _ => by go_simp; rfl⟩) ?_
  try simp only [Act.put, List.setIfInBounds_toArray, List.set_cons_succ, List.set_cons_zero]
  refine order_pure (i := 7) rfl (by kernel_rfl) (fun _ _ _ h => h) (.inl ⟨rfl, fun _ => by go_simp; rfl⟩) ?_
  try simp only [Act.put, List.setIfInBounds_toArray, List.set_cons_succ, List.set_cons_zero]
  refine order_pure (i := 8) rfl (by kernel_rfl) (fun _ _ _ h => h) (.inl ⟨rfl, fun _ => by go_simp; rfl⟩) ?_
  try simp only [Act.put, List.setIfInBounds_toArray, List.set_cons_succ, List.set_cons_zero]
  refine order_held (i := 9) rfl (by kernel_rfl) (fun _ _ _ h => h) (.inl ⟨rfl, fun W hW => by
    have q0 : W.cell? ⟨g9, 0, none⟩ = some (.int .u8 ck4) := hW.cell id (HC9.out.cell 0)
    have q1 : W.cell? ⟨g9, 1, none⟩ = some (.string cx4) := hW.cell id (HC9.out.cell 1)
    have q2 : W.cell? ⟨g9, 2, none⟩ = some (.int .i64 cn4) := hW.cell id (HC9.out.cell 2)
    have q3 : W.cell? ⟨g9, 3, none⟩ = some (.int .u8 tk4) := hW.cell id (HC9.out.cell 3)
    have q4 : W.cell? ⟨g9, 4, none⟩ = some (.bool cg4) := hW.cell id (HC9.out.cell 4)
    have q5 : W.cell? ⟨g9, 5, none⟩ = some (.slice ca4 cl4 cc4) := hW.cell id (HC9.out.cell 5)
    have q6 : W.cell? ⟨g9, 6, none⟩ = some (.string tt4) := hW.cell id (HC9.out.cell 6)
    have q7 : W.cell? ⟨g9, 7, none⟩ = some (.int .i64 tz4) := hW.cell id (HC9.out.cell 7)
    have q8 : W.cell? ⟨g9, 8, none⟩ = some (.slice ja4 jm4 jc4) := hW.cell id (HC9.out.cell 8)
    have q9 : W.cell? ⟨g9, 9, none⟩ = some (.slice ua4 um4 uc4) := hW.cell id (HC9.out.cell 9)
    have q10 : W.cell? ⟨g9, 10, none⟩ = some (.slice ka4 kn4 kc4) := hW.cell id (HC9.out.cell 10)
    go_simp; rfl⟩) HSW.out ?_
  try simp only [Act.put, List.setIfInBounds_toArray, List.set_cons_succ, List.set_cons_zero]
  refine order_held (i := 10) rfl (by kernel_rfl) (fun _ _ _ h => h) (.inl ⟨rfl, fun W hW => by
    have q0 : W.cell? ⟨b8, 0, none⟩ = some (.slice A8 100 c8) := hW.cell id (HB9.out.cell 0)
    have q1 : W.cell? ⟨b8, 1, none⟩ = some (.slice D8 m8 d8) := hW.cell id (HB9.out.cell 1)
    go_simp; rfl⟩) HSW.out ?_
  try simp only [Act.put, List.setIfInBounds_toArray, List.set_cons_succ, List.set_cons_zero]
  refine order_held (i := 12) rfl (by kernel_rfl) (fun _ _ _ h => h) (.inl ⟨rfl, fun W hW => by
    have q0 : W.cell? ⟨gp, 0, none⟩ = some (.int .u8 kd1) := hW.cell id (HBT9.out.cell 0)
    have q1 : W.cell? ⟨gp, 1, none⟩ = some (.bool ng1) := hW.cell id (HBT9.out.cell 1)
    have q2 : W.cell? ⟨gp, 2, none⟩ = some (.slice la1 ln1 lc1) := hW.cell id (HBT9.out.cell 2)
    have q3 : W.cell? ⟨gp, 3, none⟩ = some (.string tx1) := hW.cell id (HBT9.out.cell 3)
    have q4 : W.cell? ⟨gp, 4, none⟩ = some (.int .i64 nm1) := hW.cell id (HBT9.out.cell 4)
    have q5 : W.cell? ⟨gp, 5, none⟩ = some (.slice ia1 im1 ic1) := hW.cell id (HBT9.out.cell 5)
    have q6 : W.cell? ⟨gp, 6, none⟩ = some (.slice ta1 tn1 tc1) := hW.cell id (HBT9.out.cell 6)
    go_simp; rfl⟩) HSW.out ?_
  try simp only [Act.put, List.setIfInBounds_toArray, List.set_cons_succ, List.set_cons_zero]
  refine order_one (i := 11) rfl (by kernel_rfl) (fun K hK => ?_)
  go_simp
  refine (filled_any v1 co t HFILL.out w9 TT _ _ _ _ _ _ _ _ _ _ _ _ _ _ _ _ _ _ _ _ _ _ _ _ _ _ HF9.out.hc HVI9.out).mono ?_
  rintro e w10 ⟨kd5, ng5, la5, ln5, lc5, tx5, nm5, ia5, im5, ic5, ta5, tn5, tc5, rfl, ht5, hk10⟩
  have HT5 := hide (TermIn.more (B' := TT) (fun _ _ _ => trivial) _ _ ht5); have HK10 := hide hk10
  refine hK _ _ (fun _ _ => HK10.out) ?_
  clear hK ht5 hk10
  try simp only [Act.put, List.setIfInBounds_toArray, List.set_cons_succ, List.set_cons_zero]
  refine order_one (i := 13) rfl (by kernel_rfl) (fun K hK => ?_)
  go_simp
  refine (same_any t t HOT.out HOT.out w10 TT TT false false _ _ _ _ _ _ _ _ _ _ _ _ _ _ _ _ _ _ _ _ _ _ _ _ _ _ HT5.out (TermIn.keep (HF9.out.hk.trans' HK10.out (fun _ _ => id) (fun _ _ => id)) (fun _ _ => id) _ _ HT.out)).mono ?_
  rintro e w11 ⟨rfl, hk11⟩
  rw [HST.out]
  have HK11 := hide (HK10.out.trans' hk11 (fun _ _ => id) (fun _ _ => id) : Keeps NoB w9 w11)
  refine hK _ _ (fun _ _ => HK11.out) ?_
  clear hK hk11
  try simp only [Act.put, List.setIfInBounds_toArray, List.set_cons_succ, List.set_cons_zero]
  refine order_pure (i := 14) rfl (by kernel_rfl) (fun _ _ _ h => h) (.inl ⟨rfl, fun _ => by go_simp; rfl⟩) ?_
  try simp only [Act.put, List.setIfInBounds_toArray, List.set_cons_succ, List.set_cons_zero]
  refine order_pure (i := 15) rfl (by kernel_rfl) (fun _ _ _ h => h) (.inl ⟨rfl, fun _ => by go_simp; rfl⟩) ?_
  try simp only [Act.put, List.setIfInBounds_toArray, List.set_cons_succ, List.set_cons_zero]
  refine order_done (by kernel_rfl) ?_
  have HF11 := hide (HF9.out.go HK11.out); have HB11 := hide (HB9.out.keep HK11.out id); have HVI11 := hide (HVI9.out.keep HK11.out (fun _ _ => id))
  clear HF9 HB9 HVI9 HK10 HK11 HT5 HC9 HBT9 HSW
  go_wp2_with fail
  go_loopw [12] (fun i wr => ∃ k : Nat, k ≤ 100 ∧ i = .int .i64 k ∧ Keeps NoB w11 wr) (fun i _ => 100 - (intOf i).toNat)
  case atStart => exact ⟨0, by omega, rfl, Keeps.refl _ _⟩
  case round =>
    obtain ⟨k, hk, rfl, hkw⟩ := hrel
    by_cases hlt : k < 100
    · obtain ⟨bh, oh, x, hA, hxk, hcell⟩ := bool_at (HVI11.out.hb.keep hkw (fun _ _ => id)) (i := k) hlt
      rw [HHAS.out k hlt] at hxk
      injection hxk with hxk
      subst hA
      have hk1 : (k : Int) < 100 := by omega
      have hk0 : (0 : Int) ≤ (k : Int) := by omega
      have hk2 : ¬ (k : Int) < 0 := by omega
      have hk3 : ¬ (100 : Int) ≤ k := by omega
      have HD0 := hide (show wr.drew.cell? ⟨b8, 0, none⟩ = some (.slice (some ⟨bh, oh, none⟩) 100 c8) from hkw.drew.cell id (HB11.out.cell 0))
      have HDN := hide (show wr.drew.cell? ⟨gs + 1, 0, none⟩ = some (.int .i64 bn) from hkw.drew.cell id (HF11.out.hn.cell 0))
      go_upto_region 14 with fail
      by_cases hb : k < bn
      · have hbi : (k : Int) < (bn : Int) := by omega
        obtain rfl : x = true := by rw [← hxk]; exact decide_eq_true hb
        have HDC := hide (show wr.drew.cell? ⟨bh, oh + k, none⟩ = some (.bool true) from hcell)
        clear hcell hxk
        refine order_begin (fun W => Keeps NoB wr.drew W) (fun _ => true) (by kernel_rfl) 9 rfl ?_
        have HSW := hide (Keeps.refl NoB wr.drew)
        refine order_pure (i := 0) rfl (by kernel_rfl) (fun _ _ _ h => h) (.inl ⟨rfl, fun _ => by go_simp; rfl⟩) ?_
        try simp only [Act.put, List.setIfInBounds_toArray, List.set_cons_succ, List.set_cons_zero]
        refine order_held (i := 1) rfl (by kernel_rfl) (fun _ _ _ h => h) (.inl ⟨rfl, fun W hW => by
          have q0 : W.cell? ⟨b8, 0, none⟩ = some (.slice (some ⟨bh, oh, none⟩) 100 c8) := hW.cell id (HD0.out)
          go_simp; rfl⟩) HSW.out ?_
        try simp only [Act.put, List.setIfInBounds_toArray, List.set_cons_succ, List.set_cons_zero]
        refine order_pure (i := 2) rfl (by kernel_rfl) (fun _ _ _ h => h) (.inl ⟨rfl, fun _ => by go_simp; rfl⟩) ?_
        try simp only [Act.put, List.setIfInBounds_toArray, List.set_cons_succ, List.set_cons_zero]
        refine order_pure (i := 3) rfl (by kernel_rfl) (fun _ _ _ h => h) (.inl ⟨rfl, fun _ => by go_simp; rfl⟩) ?_
        try simp only [Act.put, List.setIfInBounds_toArray, List.set_cons_succ, List.set_cons_zero]
        refine order_held (i := 4) rfl (by kernel_rfl) (fun _ _ _ h => h) (.inl ⟨rfl, fun W hW => by
          have q0 : W.cell? ⟨bh, oh + k, none⟩ = some (.bool true) := hW.cell id (HDC.out)
          go_simp; rfl⟩) HSW.out ?_
        try simp only [Act.put, List.setIfInBounds_toArray, List.set_cons_succ, List.set_cons_zero]
        refine order_pure (i := 5) rfl (by kernel_rfl) (fun _ _ _ h => h) (.inl ⟨rfl, fun _ => by go_simp; rfl⟩) ?_
        try simp only [Act.put, List.setIfInBounds_toArray, List.set_cons_succ, List.set_cons_zero]
        refine order_held (i := 6) rfl (by kernel_rfl) (fun _ _ _ h => h) (.inl ⟨rfl, fun W hW => by
          have q0 : W.cell? ⟨gs + 1, 0, none⟩ = some (.int .i64 bn) := hW.cell id (HDN.out)
          go_simp; rfl⟩) HSW.out ?_
        try simp only [Act.put, List.setIfInBounds_toArray, List.set_cons_succ, List.set_cons_zero]
        refine order_pure (i := 7) rfl (by kernel_rfl) (fun _ _ _ h => h) (.inl ⟨rfl, fun _ => by go_simp; rfl⟩) ?_
        try simp only [Act.put, List.setIfInBounds_toArray, List.set_cons_succ, List.set_cons_zero]
        refine order_pure (i := 8) rfl (by kernel_rfl) (fun _ _ _ h => h) (.inl ⟨rfl, fun _ => by go_simp; rfl⟩) ?_
        try simp only [Act.put, List.setIfInBounds_toArray, List.set_cons_succ, List.set_cons_zero]
        refine order_done (by kernel_rfl) ?_
        go_wp2_with fail
        go_roundw
        case rel => exact ⟨k + 1, by omega, by go_num, (hkw.drew : Keeps NoB w11 wr.drew)⟩
        case measure => simp [intOf]; omega
      · have hbi : ¬ (k : Int) < (bn : Int) := by omega
        have hbj : (bn : Int) ≤ (k : Int) := by omega
        obtain rfl : x = false := by rw [← hxk]; exact decide_eq_false hb
        have HDC := hide (show wr.drew.cell? ⟨bh, oh + k, none⟩ = some (.bool false) from hcell)
        clear hcell hxk
        refine order_begin (fun W => Keeps NoB wr.drew W) (fun _ => true) (by kernel_rfl) 9 rfl ?_
        have HSW := hide (Keeps.refl NoB wr.drew)
        refine order_pure (i := 0) rfl (by kernel_rfl) (fun _ _ _ h => h) (.inl ⟨rfl, fun _ => by go_simp; rfl⟩) ?_
        try simp only [Act.put, List.setIfInBounds_toArray, List.set_cons_succ, List.set_cons_zero]
        refine order_held (i := 1) rfl (by kernel_rfl) (fun _ _ _ h => h) (.inl ⟨rfl, fun W hW => by
          have q0 : W.cell? ⟨b8, 0, none⟩ = some (.slice (some ⟨bh, oh, none⟩) 100 c8) := hW.cell id (HD0.out)
          go_simp; rfl⟩) HSW.out ?_
        try simp only [Act.put, List.setIfInBounds_toArray, List.set_cons_succ, List.set_cons_zero]
        refine order_pure (i := 2) rfl (by kernel_rfl) (fun _ _ _ h => h) (.inl ⟨rfl, fun _ => by go_simp; rfl⟩) ?_
        try simp only [Act.put, List.setIfInBounds_toArray, List.set_cons_succ, List.set_cons_zero]
        refine order_pure (i := 3) rfl (by kernel_rfl) (fun _ _ _ h => h) (.inl ⟨rfl, fun _ => by go_simp; rfl⟩) ?_
        try simp only [Act.put, List.setIfInBounds_toArray, List.set_cons_succ, List.set_cons_zero]
        refine order_held (i := 4) rfl (by kernel_rfl) (fun _ _ _ h => h) (.inl ⟨rfl, fun W hW => by
          have q0 : W.cell? ⟨bh, oh + k, none⟩ = some (.bool false) := hW.cell id (HDC.out)
          go_simp; rfl⟩) HSW.out ?_
        try simp only [Act.put, List.setIfInBounds_toArray, List.set_cons_succ, List.set_cons_zero]
        refine order_pure (i := 5) rfl (by kernel_rfl) (fun _ _ _ h => h) (.inl ⟨rfl, fun _ => by go_simp; rfl⟩) ?_
        try simp only [Act.put, List.setIfInBounds_toArray, List.set_cons_succ, List.set_cons_zero]
        refine order_held (i := 6) rfl (by kernel_rfl) (fun _ _ _ h => h) (.inl ⟨rfl, fun W hW => by
          have q0 : W.cell? ⟨gs + 1, 0, none⟩ = some (.int .i64 bn) := hW.cell id (HDN.out)
          go_simp; rfl⟩) HSW.out ?_
        try simp only [Act.put, List.setIfInBounds_toArray, List.set_cons_succ, List.set_cons_zero]
        refine order_pure (i := 7) rfl (by kernel_rfl) (fun _ _ _ h => h) (.inl ⟨rfl, fun _ => by go_simp; rfl⟩) ?_
        try simp only [Act.put, List.setIfInBounds_toArray, List.set_cons_succ, List.set_cons_zero]
        refine order_pure (i := 8) rfl (by kernel_rfl) (fun _ _ _ h => h) (.inl ⟨rfl, fun _ => by go_simp; rfl⟩) ?_
        try simp only [Act.put, List.setIfInBounds_toArray, List.set_cons_succ, List.set_cons_zero]
        refine order_done (by kernel_rfl) ?_
        go_wp2_with fail
        go_roundw
        case rel => exact ⟨k + 1, by omega, by go_num, (hkw.drew : Keeps NoB w11 wr.drew)⟩
        case measure => simp [intOf]; omega
    · obtain rfl : k = 100 := by omega
      go_upto_region 16 with fail
      have HF12 := hide (HF11.out.go hkw)
      clear HF11 HB11 HVI11 hkw hk hlt HHAS H100 HV1 HFILL HST
      have hkd : Keeps NoB w0 wr.drew := HF12.out.hk.drew
      have HB9X := hide (show Blk wr.drew g9 34 #[.int .u8 ck4, .string cx4, .int .i64 cn4, .int .u8 tk4, .bool cg4, .slice ca4 cl4 cc4, .string tt4, .int .i64 tz4, .slice ja4 jm4 jc4, .slice ua4 um4 uc4, .slice ka4 kn4 kc4] from HF12.out.h9); have HBUX := hide (HBU.out.keep hkd id)
      have HPX := hide (CoreIn.keep (Keeps.refl NoB wr).drew (fun _ _ => id) _ _ HF12.out.hc); have HTX := hide (TermIn.keep hkd (fun _ _ => id) _ _ HU.out)
      clear hkd
      refine order_store 8 7 (fun i => i == 6 || i == 9) [KF.eq (.agg #[.int .u8 ck4, .string cx4, .int .i64 cn4, .int .u8 tk4, .bool cg4, .slice ca4 cl4 cc4, .string tt4, .int .i64 tz4, .slice ja4 jm4 jc4, .slice ua4 um4 uc4, .slice ka4 kn4 kc4]), KF.eq (.agg #[.int .u8 kd2, .bool ng2, .slice la2 ln2 lc2, .string tx2, .int .i64 nm2, .slice ia2 im2 ic2, .slice ta2 tn2 tc2]), VarsV (newV 100), MatchV (matchF co u (newV 100)), MatchV (matchF co u (newV 100)), VarsV ((matchF co u (newV 100)).getD noV), KF.any, AllocV wr.drew.heap.size, KF.any, KF.any] [(fun _ => True), (fun _ => True), (fun _ => True), TupG (matchF co u (newV 100)), TupG (matchF co u (newV 100)), (fun _ => True), (· = .bool (matchF co u (newV 100)).isSome), (fun _ => True), (fun _ => True), (· = .bool (matchF co u (newV 100)).isSome)] (StoredV wr.drew ((matchF co u (newV 100)).getD noV)) (fun xs => { tmps := #[.agg #[.int .u8 kd1, .bool ng1, .slice la1 ln1 lc1, .string tx1, .int .i64 nm1, .slice ia1 im1 ic1, .slice ta1 tn1 tc1], .agg #[.int .u8 kd2, .bool ng2, .slice la2 ln2 lc2, .string tx2, .int .i64 nm2, .slice ia2 im2 ic2, .slice ta2 tn2 tc2], .int .i64 z6, .pointer (some ⟨gp, 0, none⟩), .pointer (some ⟨gp + 1, 0, none⟩), undef, u6, .pointer (some ⟨gs, 0, none⟩), .pointer (some ⟨gs + 1, 0, none⟩), .pointer (some ⟨g9, 0, none⟩), .pointer (some ⟨b8, 0, none⟩), .bool true, .int .i64 ((100 : Nat) : Int), xs 7, xs 9, .bool true, .bool false, .agg #[.int .u8 kd1, .bool ng1, .slice la1 ln1 lc1, .string tx1, .int .i64 nm1, .slice ia1 im1 ic1, .slice ta1 tn1 tc1], .int .i64 r1, .bool (decide (300 < r1)), .bool (decide (300 < r1)), .agg #[.int .u8 kd2, .bool ng2, .slice la2 ln2 lc2, .string tx2, .int .i64 nm2, .slice ia2 im2 ic2, .slice ta2 tn2 tc2], .int .i64 r2, .bool (decide (300 < r2)), .bool (decide (300 < r1) || decide (300 < r2)), .bool (decide (300 < r1) || decide (300 < r2)), .agg #[.int .u8 kd1, .bool ng1, .slice la1 ln1 lc1, .string tx1, .int .i64 nm1, .slice ia1 im1 ic1, .slice ta1 tn1 tc1], .bool true, .bool false, .bool (decide (300 < r1) || decide (300 < r2)), .int .i64 z, .int .i64 z6, .agg #[.int .u8 kd1, .bool ng1, .slice la1 ln1 lc1, .string tx1, .int .i64 nm1, .slice ia1 im1 ic1, .slice ta1 tn1 tc1], .int .i64 z6, .agg #[.int .u8 ck4, .string cx4, .int .i64 cn4, .int .u8 tk4, .bool cg4, .slice ca4 cl4 cc4, .string tt4, .int .i64 tz4, .slice ja4 jm4 jc4, .slice ua4 um4 uc4, .slice ka4 kn4 kc4], xs8 4, xs8 0, xs8 1, xs8 2, xs8 3, xs8 5, xs8 6, .bool true, .bool false, .bool false, .pointer (some ⟨b8, 0, none⟩), .slice A8 100 c8, .int .i64 100, .bool false, .bool false, .bool false, .agg #[.int .u8 ck4, .string cx4, .int .i64 cn4, .int .u8 tk4, .bool cg4, .slice ca4 cl4 cc4, .string tt4, .int .i64 tz4, .slice ja4 jm4 jc4, .slice ua4 um4 uc4, .slice ka4 kn4 kc4], .agg #[.slice A8 100 c8, .slice D8 m8 d8], .agg #[.int .u8 kd5, .bool ng5, .slice la5 ln5 lc5, .string tx5, .int .i64 nm5, .slice ia5 im5 ic5, .slice ta5 tn5 tc5], .agg #[.int .u8 kd1, .bool ng1, .slice la1 ln1 lc1, .string tx1, .int .i64 nm1, .slice ia1 im1 ic1, .slice ta1 tn1 tc1], .bool true, .bool false, .bool false, .int .i64 ((100 : Nat) : Int), .bool false, u60, u61, u62, u63, u64, u65, u66, u67, u68, u69, u70, xs 4, xs 0, xs 1, xs 2, xs 3, xs 5, xs 6, undef, undef, undef, undef, undef, undef, undef, undef, undef, undef, undef, undef, undef, undef, undef, undef], defers := [] }) (fun _ => undef) (by kernel_rfl) (by kernel_rfl) (by kernel_rfl) (by kernel_rfl) rfl ?_ ?_ ?_ ?_
      · intro d xs wx i oi hoi his hds hdi hk hx hg hdep K hK
        have hi : i < 10 := by have h := (Array.getElem?_eq_some_iff.1 hoi).1; simpa using h
        have hcases : i = 0 ∨ i = 1 ∨ i = 2 ∨ i = 3 ∨ i = 4 ∨ i = 5 ∨ i = 6 ∨ i = 7 ∨ i = 9 := by omega
        have HX := hide hx; have HG := hide hg; have HKX := hide hk; have HDS := hide hds
        clear hx hg hk hds hdi his hi
        rcases hcases with rfl | rfl | rfl | rfl | rfl | rfl | rfl | rfl | rfl
        · simp at hoi
          subst hoi
          simp [Region.binds] at hdep
          have hB := HB9X.out.keep HKX.out id
          have c0 := hB.cell 0; have c1 := hB.cell 1; have c2 := hB.cell 2; have c3 := hB.cell 3; have c4 := hB.cell 4; have c5 := hB.cell 5; have c6 := hB.cell 6; have c7 := hB.cell 7; have c8 := hB.cell 8; have c9 := hB.cell 9; have c10 := hB.cell 10
          clear hB
          go_simp
          exact hK _ _ (Keeps.refl _ _) rfl trivial
        · simp at hoi
          subst hoi
          simp [Region.binds] at hdep
          have hB := HBUX.out.keep HKX.out id
          have c0 := hB.cell 0; have c1 := hB.cell 1; have c2 := hB.cell 2; have c3 := hB.cell 3; have c4 := hB.cell 4; have c5 := hB.cell 5; have c6 := hB.cell 6
          clear hB
          go_simp
          exact hK _ _ (Keeps.refl _ _) rfl trivial
        · simp at hoi
          subst hoi
          simp [Region.binds] at hdep
          go_simp
          refine (new_vars 100 (by omega) wx).mono ?_
          rintro e w' ⟨A, c, D, d1, css, rfl, hv, _, hk'⟩
          exact hK _ w' hk' ⟨_, _, _, _, _, _, _, rfl, hv.read, newV_ok 100, newV_made 100⟩ trivial
        · simp at hoi
          subst hoi
          simp [Region.binds] at hdep
          have e0 : xs 0 = .agg #[.int .u8 ck4, .string cx4, .int .i64 cn4, .int .u8 tk4, .bool cg4, .slice ca4 cl4 cc4, .string tt4, .int .i64 tz4, .slice ja4 jm4 jc4, .slice ua4 um4 uc4, .slice ka4 kn4 kc4] := (HX.out 0 (by decide) (by simp [hdep]))
          have e1 : xs 1 = .agg #[.int .u8 kd2, .bool ng2, .slice la2 ln2 lc2, .string tx2, .int .i64 nm2, .slice ia2 im2 ic2, .slice ta2 tn2 tc2] := (HX.out 1 (by decide) (by simp [hdep]))
          obtain ⟨A0, n0, c0, D0, m0, d0, css0, e2, h2, o2, _⟩ := (show (VarsV (newV 100)).say wx (xs 2) from (HX.out 2 (by decide) (by simp [hdep])))
          rw [e0, e1, e2]
          go_simp
          refine (match_top _ _ _ _ _ _ _ _ _ _ wx TT _ _ _ _ _ _ _ _ _ _ _ _ _ _ _ _ _ _ _ _ _ _ _ _ _ _ _ _ _ _ _ _ h2 o2 HOU.out HOC.out (CoreIn.keep HKX.out (fun _ _ => id) _ _ HPX.out) (TermIn.keep HKX.out (fun _ _ => id) _ _ HTX.out)).mono ?_
          rintro e w' ⟨A5, n5, c5, D5, m5, d5, css5, rfl, hv5, ho5, hm5, hk5⟩
          have hI := hK _ w' hk5 ⟨A5, n5, c5, D5, m5, d5, css5, rfl, hv5, ho5, hm5⟩ ⟨_, rfl⟩
          simp only [updX, Nat.reduceEqDiff, reduceIte] at hI
          rw [e0, e1, e2] at hI
          exact hI
        · simp at hoi
          subst hoi
          simp [Region.binds] at hdep
          have hm := (HX.out 3 (by decide) (by simp [hdep]))
          obtain ⟨x, e1⟩ := (show TupG (matchF co u (newV 100)) (xs 3) from HG.out 3 (by decide) (by simp [hdep]))
          rw [e1]
          go_simp
          have hI := hK (xs 3) wx (Keeps.refl _ _) hm ⟨x, e1⟩
          simp only [updX, Nat.reduceEqDiff, reduceIte] at hI
          rw [e1] at hI
          exact hI
        · simp at hoi
          subst hoi
          simp [Region.binds] at hdep
          obtain ⟨A5, n5, c5, D5, m5, d5, css5, e1, hv5, ho5, hm5⟩ := (show (MatchV (matchF co u (newV 100))).say wx (xs 4) from (HX.out 4 (by decide) (by simp [hdep])))
          rw [e1]
          go_simp
          have hI := hK _ wx (Keeps.refl _ _) ⟨A5, n5, c5, D5, m5, d5, css5, rfl, hv5, ho5, hm5⟩ trivial
          simp only [updX, Nat.reduceEqDiff, reduceIte] at hI
          rw [e1] at hI
          exact hI
        · simp at hoi
          subst hoi
          simp [Region.binds] at hdep
          obtain ⟨x, e1⟩ := (show TupG (matchF co u (newV 100)) (xs 4) from HG.out 4 (by decide) (by simp [hdep]))
          rw [e1]
          go_simp
          have hI := hK _ wx (Keeps.refl _ _) trivial rfl
          simp only [updX, Nat.reduceEqDiff, reduceIte] at hI
          rw [e1] at hI
          exact hI
        · simp at hoi
          subst hoi
          simp [Region.binds] at hdep
          go_simp
          exact hK _ _ ((Keeps.refl NoB wx).alloc _) ⟨wx.heap.size, rfl, HKX.out.size, Blk.new wx 39 _⟩ trivial
        · simp at hoi
          subst hoi
          simp [Region.binds] at hdep
          exact absurd HDS.out (by simp [hdep])
      · intro d xs wx i oi hoi hli his hg hdep K hK
        have hcases : i = 6 ∨ i = 9 := by simpa using hli
        have HG := hide hg
        clear hg his hli
        rcases hcases with rfl | rfl
        · simp at hoi
          subst hoi
          simp [Region.binds] at hdep
          obtain ⟨x, e1⟩ := (show TupG (matchF co u (newV 100)) (xs 4) from HG.out 4 (by decide) (by simp [hdep]))
          rw [e1]
          go_simp
          have hI := hK _ rfl
          simp only [updX, Nat.reduceEqDiff, reduceIte] at hI
          rw [e1] at hI
          exact hI
        · simp at hoi
          subst hoi
          simp [Region.binds] at hdep
          have e1 : xs 6 = .bool (matchF co u (newV 100)).isSome := HG.out 6 (by decide) (by simp [hdep])
          rw [e1]
          go_simp
          have hI := hK _ rfl
          simp only [updX, Nat.reduceEqDiff, reduceIte] at hI
          rw [e1] at hI
          exact hI
      · intro d xs wx oi hoi hk hx hg hdep K hK
        have HX := hide hx; have HKX := hide hk
        clear hx hk hg
        simp at hoi
        subst hoi
        simp [Region.binds] at hdep
        obtain ⟨b, e9, hN, hb⟩ := (show (AllocV wr.drew.heap.size).say wx (xs 7) from (HX.out 7 (by decide) (by simp [hdep])))
        obtain ⟨A7, n7, c7, D7, m7, d7, css7, e7, hv7, ho7, hm7⟩ := (show (VarsV ((matchF co u (newV 100)).getD noV)).say wx (xs 5) from (HX.out 5 (by decide) (by simp [hdep])))
        have z0 := hb.free 0; have z1 := hb.free 1
        have v0' := hb.cell 0; have v1' := hb.cell 1
        have hI := hK _ (by rw [e9]; exact stored_vars HKX.out hb hN hv7 ho7 hm7)
        simp only at hI
        rw [e7, e9] at hI ⊢
        clear hb hv7 ho7 hm7 hK
        go_simp
        exact hI
      intro xs16 w13 hG hH
      obtain ⟨b13, e8, hN13, hk13, A13, n13, c13, D13, m13, d13, css13, hB13, hVI13, ho13, hm13⟩ := hH
      have e9 : xs16 9 = .bool (matchF co u (newV 100)).isSome := hG 9 (by decide) (by decide)
      have hk13' := ((Keeps.refl NoB wr).drew.trans' hk13 (fun _ _ => id) (fun _ _ => id) : Keeps NoB wr w13)
      have HF13 := hide (HF12.out.go hk13')
      have HB13 := hide hB13; have HVI13 := hide hVI13
      clear hG hk13 hk13' hB13 hVI13 ho13 hm13 hN13 HB9X HBUX HPX HTX HF12
      dsimp only
      rw [e8, e9]
      clear e8 e9
      by_cases hb0 : bn = 0
      · subst hb0
        have hfn := fills_none HPAT.out HGT.out HOU.out
        have n0 := HF13.out.hn.cell 0
        obtain ⟨x, hx⟩ : ∃ x, (matchF co u (newV 100)).isSome = x := ⟨_, rfl⟩
        rw [hx]
        have HSM := hide (show sameT t u = x from by rw [← hx, hfn])
        clear hx hfn HVI13 HB13
        cases x with
        | true =>
          obtain ⟨t0, t1, t2, t3, t4, t5, t6⟩ := Blk.c7 (HBT.out.keep HF13.out.hk id)
          obtain ⟨q0, q1, q2, q3, q4, q5, q6⟩ := Blk.c7 (HBU.out.keep HF13.out.hk id)
          go_wp2_with
            first
            | (go_at_call 12
               refine (same_any t u HOT.out HOU.out w13 TT TT false false _ _ _ _ _ _ _ _ _ _ _ _ _ _ _ _ _ _ _ _ _ _ _ _ _ _ (TermIn.keep HF13.out.hk (fun _ _ => id) _ _ HT.out) (TermIn.keep HF13.out.hk (fun _ _ => id) _ _ HU.out)).mono ?_
               rintro e w14 ⟨rfl, hk14⟩
               rw [HSM.out]
               have HK14 := hide hk14
               clear hk14)
            | fail
          go_ret
          exact ⟨rfl, HK0.out.trans' (HF13.out.hk.trans' HK14.out (fun _ _ => id) (fun _ _ => id)) (fun _ _ => id) (fun _ _ => id)⟩
        | false =>
          obtain ⟨t0, t1, t2, t3, t4, t5, t6⟩ := Blk.c7 (HBT.out.keep HF13.out.hk id)
          obtain ⟨q0, q1, q2, q3, q4, q5, q6⟩ := Blk.c7 (HBU.out.keep HF13.out.hk id)
          go_wp2_with
            first
            | (go_at_call 12
               refine (same_any t u HOT.out HOU.out w13 TT TT false false _ _ _ _ _ _ _ _ _ _ _ _ _ _ _ _ _ _ _ _ _ _ _ _ _ _ (TermIn.keep HF13.out.hk (fun _ _ => id) _ _ HT.out) (TermIn.keep HF13.out.hk (fun _ _ => id) _ _ HU.out)).mono ?_
               rintro e w14 ⟨rfl, hk14⟩
               rw [HSM.out]
               have HK14 := hide hk14
               clear hk14)
            | fail
          go_ret
          exact ⟨rfl, HK0.out.trans' (HF13.out.hk.trans' HK14.out (fun _ _ => id) (fun _ _ => id)) (fun _ _ => id) (fun _ _ => id)⟩
      · have hb1 : ((bn : Int) == 0) = false := by simpa using hb0
        have hb2 : decide ((bn : Int) = 0) = false := decide_eq_false (by omega)
        have hb3 : ¬ (bn : Int) = 0 := by omega
        have n0 := HF13.out.hn.cell 0
        clear hb0
        cases hr2 : (matchF co u (newV 100)) with
        | none =>
          simp only [Option.isSome_none]
          rw [hr2] at HVI13
          go_upto_region 19 with fail
          clear n0 hb1 hb2 hb3 hr2
          refine order_begin (fun W => Keeps NoB w13.drew W) (fun _ => true) (by kernel_rfl) 10 rfl ?_
          have HF14 := hide (HF13.out.go (Keeps.refl NoB w13).drew); have HB14 := hide (show Blk w13.drew b13 39 #[.slice A13 n13 c13, .slice D13 m13 d13] from HB13.out); have HVI14 := hide (HVI13.out.keep (Keeps.refl NoB w13).drew (fun _ _ => id))
          clear HF13 HB13 HVI13
          generalize w13.drew = w14 at *
          have HSW := hide (Keeps.refl NoB w14)
          have HC14 := hide (show Blk w14 g9 34 #[.int .u8 ck4, .string cx4, .int .i64 cn4, .int .u8 tk4, .bool cg4, .slice ca4 cl4 cc4, .string tt4, .int .i64 tz4, .slice ja4 jm4 jc4, .slice ua4 um4 uc4, .slice ka4 kn4 kc4] from HF14.out.h9)
          have HBU14 := hide (HBU.out.keep HF14.out.hk id)
          refine order_pure (i := 0) rfl (by kernel_rfl) (fun _ _ _ h => h) (.inl ⟨rfl, fun _ => by go_simp; rfl⟩) ?_
          try simp only [Act.put, List.setIfInBounds_toArray, List.set_cons_succ, List.set_cons_zero]
          refine order_pure (i := 1) rfl (by kernel_rfl) (fun _ _ _ h => h) (.inl ⟨rfl, fun _ => by go_simp; rfl⟩) ?_
          try simp only [Act.put, List.setIfInBounds_toArray, List.set_cons_succ, List.set_cons_zero]
          refine order_pure (i := 2) rfl (by kernel_rfl) (fun _ _ _ h => h) (.inl ⟨rfl, fun _ => by go_simp; rfl⟩) ?_
          try simp only [Act.put, List.setIfInBounds_toArray, List.set_cons_succ, List.set_cons_zero]
          refine order_skip (i := 3) rfl (by kernel_rfl) (fun _ _ _ h => h) rfl ?_
          try simp only [Act.put, List.setIfInBounds_toArray, List.set_cons_succ, List.set_cons_zero]
          refine order_skip (i := 4) rfl (by kernel_rfl) (fun _ _ _ h => h) rfl ?_
          try simp only [Act.put, List.setIfInBounds_toArray, List.set_cons_succ, List.set_cons_zero]
          refine order_skip (i := 5) rfl (by kernel_rfl) (fun _ _ _ h => h) rfl ?_
          try simp only [Act.put, List.setIfInBounds_toArray, List.set_cons_succ, List.set_cons_zero]
          refine order_skip (i := 6) rfl (by kernel_rfl) (fun _ _ _ h => h) rfl ?_
          try simp only [Act.put, List.setIfInBounds_toArray, List.set_cons_succ, List.set_cons_zero]
          refine order_skip (i := 7) rfl (by kernel_rfl) (fun _ _ _ h => h) rfl ?_
          try simp only [Act.put, List.setIfInBounds_toArray, List.set_cons_succ, List.set_cons_zero]
          refine order_pure (i := 8) rfl (by kernel_rfl) (fun _ _ _ h => h) (.inl ⟨rfl, fun _ => by go_simp; rfl⟩) ?_
          try simp only [Act.put, List.setIfInBounds_toArray, List.set_cons_succ, List.set_cons_zero]
          refine order_pure (i := 9) rfl (by kernel_rfl) (fun _ _ _ h => h) (.inl ⟨rfl, fun _ => by go_simp; rfl⟩) ?_
          try simp only [Act.put, List.setIfInBounds_toArray, List.set_cons_succ, List.set_cons_zero]
          refine order_done (by kernel_rfl) ?_
          go_wp2_with fail
          go_ret
          exact ⟨rfl, HK0.out.trans' HF14.out.hk (fun _ _ => id) (fun _ _ => id)⟩
        | some v2 =>
          obtain ⟨_, hf2, hru⟩ := other_fill HPAT.out HGT.out HOU.out hr2
          rw [hr2] at HVI13
          have HF2 := hide hf2; have HSU := hide (show sameT u u = true from (same_iff HOU.out HOU.out).2 ⟨hru, rfl⟩)
          simp only [Option.isSome_some]
          clear hf2 hru
          go_upto_region 19 with fail
          clear n0 hb1 hb2 hb3 hr2
          refine order_begin (fun W => Keeps NoB w13.drew W) (fun _ => true) (by kernel_rfl) 10 rfl ?_
          have HF14 := hide (HF13.out.go (Keeps.refl NoB w13).drew); have HB14 := hide (show Blk w13.drew b13 39 #[.slice A13 n13 c13, .slice D13 m13 d13] from HB13.out); have HVI14 := hide (HVI13.out.keep (Keeps.refl NoB w13).drew (fun _ _ => id))
          clear HF13 HB13 HVI13
          generalize w13.drew = w14 at *
          have HSW := hide (Keeps.refl NoB w14)
          have HC14 := hide (show Blk w14 g9 34 #[.int .u8 ck4, .string cx4, .int .i64 cn4, .int .u8 tk4, .bool cg4, .slice ca4 cl4 cc4, .string tt4, .int .i64 tz4, .slice ja4 jm4 jc4, .slice ua4 um4 uc4, .slice ka4 kn4 kc4] from HF14.out.h9)
          have HBU14 := hide (HBU.out.keep HF14.out.hk id)
          refine order_pure (i := 0) rfl (by kernel_rfl) (fun _ _ _ h => h) (.inl ⟨rfl, fun _ => by go_simp; rfl⟩) ?_
          try simp only [Act.put, List.setIfInBounds_toArray, List.set_cons_succ, List.set_cons_zero]
          refine order_pure (i := 1) rfl (by kernel_rfl) (fun _ _ _ h => h) (.inl ⟨rfl, fun _ => by go_simp; rfl⟩) ?_
          try simp only [Act.put, List.setIfInBounds_toArray, List.set_cons_succ, List.set_cons_zero]
          refine order_pure (i := 2) rfl (by kernel_rfl) (fun _ _ _ h => h) (.inl ⟨rfl, fun _ => by go_simp; rfl⟩) ?_
          try simp only [Act.put, List.setIfInBounds_toArray, List.set_cons_succ, List.set_cons_zero]
          refine order_held (i := 3) rfl (by kernel_rfl) (fun _ _ _ h => h) (.inl ⟨rfl, fun W hW => by
            have q0 : W.cell? ⟨g9, 0, none⟩ = some (.int .u8 ck4) := hW.cell id (HC14.out.cell 0)
            have q1 : W.cell? ⟨g9, 1, none⟩ = some (.string cx4) := hW.cell id (HC14.out.cell 1)
            have q2 : W.cell? ⟨g9, 2, none⟩ = some (.int .i64 cn4) := hW.cell id (HC14.out.cell 2)
            have q3 : W.cell? ⟨g9, 3, none⟩ = some (.int .u8 tk4) := hW.cell id (HC14.out.cell 3)
            have q4 : W.cell? ⟨g9, 4, none⟩ = some (.bool cg4) := hW.cell id (HC14.out.cell 4)
            have q5 : W.cell? ⟨g9, 5, none⟩ = some (.slice ca4 cl4 cc4) := hW.cell id (HC14.out.cell 5)
            have q6 : W.cell? ⟨g9, 6, none⟩ = some (.string tt4) := hW.cell id (HC14.out.cell 6)
            have q7 : W.cell? ⟨g9, 7, none⟩ = some (.int .i64 tz4) := hW.cell id (HC14.out.cell 7)
            have q8 : W.cell? ⟨g9, 8, none⟩ = some (.slice ja4 jm4 jc4) := hW.cell id (HC14.out.cell 8)
            have q9 : W.cell? ⟨g9, 9, none⟩ = some (.slice ua4 um4 uc4) := hW.cell id (HC14.out.cell 9)
            have q10 : W.cell? ⟨g9, 10, none⟩ = some (.slice ka4 kn4 kc4) := hW.cell id (HC14.out.cell 10)
            go_simp; rfl⟩) HSW.out ?_
          try simp only [Act.put, List.setIfInBounds_toArray, List.set_cons_succ, List.set_cons_zero]
          refine order_held (i := 4) rfl (by kernel_rfl) (fun _ _ _ h => h) (.inl ⟨rfl, fun W hW => by
            have q0 : W.cell? ⟨b13, 0, none⟩ = some (.slice A13 n13 c13) := hW.cell id (HB14.out.cell 0)
            have q1 : W.cell? ⟨b13, 1, none⟩ = some (.slice D13 m13 d13) := hW.cell id (HB14.out.cell 1)
            go_simp; rfl⟩) HSW.out ?_
          try simp only [Act.put, List.setIfInBounds_toArray, List.set_cons_succ, List.set_cons_zero]
          refine order_held (i := 6) rfl (by kernel_rfl) (fun _ _ _ h => h) (.inl ⟨rfl, fun W hW => by
            have q0 : W.cell? ⟨gp + 1, 0, none⟩ = some (.int .u8 kd2) := hW.cell id (HBU14.out.cell 0)
            have q1 : W.cell? ⟨gp + 1, 1, none⟩ = some (.bool ng2) := hW.cell id (HBU14.out.cell 1)
            have q2 : W.cell? ⟨gp + 1, 2, none⟩ = some (.slice la2 ln2 lc2) := hW.cell id (HBU14.out.cell 2)
            have q3 : W.cell? ⟨gp + 1, 3, none⟩ = some (.string tx2) := hW.cell id (HBU14.out.cell 3)
            have q4 : W.cell? ⟨gp + 1, 4, none⟩ = some (.int .i64 nm2) := hW.cell id (HBU14.out.cell 4)
            have q5 : W.cell? ⟨gp + 1, 5, none⟩ = some (.slice ia2 im2 ic2) := hW.cell id (HBU14.out.cell 5)
            have q6 : W.cell? ⟨gp + 1, 6, none⟩ = some (.slice ta2 tn2 tc2) := hW.cell id (HBU14.out.cell 6)
            go_simp; rfl⟩) HSW.out ?_
          try simp only [Act.put, List.setIfInBounds_toArray, List.set_cons_succ, List.set_cons_zero]
          refine order_one (i := 5) rfl (by kernel_rfl) (fun K hK => ?_)
          go_simp
          refine (filled_any v2 co u HF2.out w14 TT _ _ _ _ _ _ _ _ _ _ _ _ _ _ _ _ _ _ _ _ _ _ _ _ _ _ HF14.out.hc HVI14.out).mono ?_
          rintro e w15 ⟨kd6, ng6, la6, ln6, lc6, tx6, nm6, ia6, im6, ic6, ta6, tn6, tc6, rfl, ht6, hk15⟩
          have HT6 := hide (TermIn.more (B' := TT) (fun _ _ _ => trivial) _ _ ht6); have HK15 := hide hk15
          refine hK _ _ (fun _ _ => HK15.out) ?_
          clear hK ht6 hk15
          try simp only [Act.put, List.setIfInBounds_toArray, List.set_cons_succ, List.set_cons_zero]
          refine order_one (i := 7) rfl (by kernel_rfl) (fun K hK => ?_)
          go_simp
          refine (same_any u u HOU.out HOU.out w15 TT TT false false _ _ _ _ _ _ _ _ _ _ _ _ _ _ _ _ _ _ _ _ _ _ _ _ _ _ HT6.out (TermIn.keep (HF14.out.hk.trans' HK15.out (fun _ _ => id) (fun _ _ => id)) (fun _ _ => id) _ _ HU.out)).mono ?_
          rintro e w16 ⟨rfl, hk16⟩
          rw [HSU.out]
          have HK16 := hide (HK15.out.trans' hk16 (fun _ _ => id) (fun _ _ => id) : Keeps NoB w14 w16)
          refine hK _ _ (fun _ _ => HK16.out) ?_
          clear hK hk16
          try simp only [Act.put, List.setIfInBounds_toArray, List.set_cons_succ, List.set_cons_zero]
          refine order_pure (i := 8) rfl (by kernel_rfl) (fun _ _ _ h => h) (.inl ⟨rfl, fun _ => by go_simp; rfl⟩) ?_
          try simp only [Act.put, List.setIfInBounds_toArray, List.set_cons_succ, List.set_cons_zero]
          refine order_pure (i := 9) rfl (by kernel_rfl) (fun _ _ _ h => h) (.inl ⟨rfl, fun _ => by go_simp; rfl⟩) ?_
          try simp only [Act.put, List.setIfInBounds_toArray, List.set_cons_succ, List.set_cons_zero]
          refine order_done (by kernel_rfl) ?_
          go_wp2_with fail
          go_ret
          exact ⟨rfl, HK0.out.trans' (HF14.out.hk.trans' HK16.out (fun _ _ => id) (fun _ _ => id)) (fun _ _ => id) (fun _ _ => id)⟩
end Go.Proofs.YtjdbjjjbgibpaaaGreatDoor
