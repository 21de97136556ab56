/- match: a pattern of each kind. Printed by mkmatm.py. -/
import Derived.Test.YtjdbjjjbgibpaaaGreatDoorMatSplNJn
namespace Go.Proofs.YtjdbjjjbgibpaaaGreatDoor
open Go.RowKit

theorem two_tm_reads {w : World} {g : Nat} {t : TypeId} {xs ys : List Value} (hb : Blk w g t (xs ++ ys).toArray) (h1 : xs.length = 7) (h2 : ys.length = 7) : Reads w (fun k => k = g) false 7 (some ⟨g, 0, none⟩) 2 [xs, ys].flatten := by
  refine ⟨by simp [h1, h2], fun _ => ⟨_, rfl, rfl, rfl, hb.lt, fun j u hu => ⟨?_, fun h => by cases h⟩⟩⟩
  rw [hb.cell, Nat.zero_add]
  simpa using hu
theorem two_tm_terms {w : World} {B : Nat → Prop} {F : Bool} {xs ys : List Value} {t u : Tm} (h1 : TermIn w B F xs t) (h2 : TermIn w B F ys u) : TermsIn w B F [xs, ys] [t, u] := by
  unfold TermsIn TermsIn TermsIn
  exact ⟨h1, h2, trivial⟩
set_option maxRecDepth 100000 in
set_option maxHeartbeats 4000000 in
theorem match_20 (tx : ByteArray) (nm tk : Int) (ng : Bool) (la : Option Addr) (ln lc : Nat) (tt : ByteArray) (tn : Int) (ia : Option Addr) (im ic : Nat) (ta : Option Addr) (tm tc : Nat) (ka : Option Addr) (kn kc : Nat) (kd' : Int) (ng' : Bool) (la' : Option Addr) (ln' lc' : Nat) (tx' : ByteArray) (nm' : Int) (ia' : Option Addr) (im' ic' : Nat) (ta' : Option Addr) (tn' tc' : Nat) (tr : Tm) (kids : List Co) (kcss : List (List Value)) (t : Tm) (v : VSt) (A : Option Addr) (n c : Nat) (D : Option Addr) (m d : Nat) (css : List (List Value)) (w : World) (h : VAt w A n c D m d css v) (hmd : v.made) (hov : okTs v.vals) (hot : okT t) (htr : TermIn w (Off A D) false [.int .u8 tk, .bool ng, .slice la ln lc, .string tt, .int .i64 tn, .slice ia im ic, .slice ta tm tc] tr) (hotr : okT tr) (hkr : Roomy kn 160) (hkids : Reads w (Off A D) false 11 ka kn kcss.flatten) (hkc : CoresIn w (Off A D) false kcss kids) (hokc : okCs kids) (IH : MSaid (Co.size.sizes kids)) (ht : TermIn w (Off A D) false [.int .u8 kd', .bool ng', .slice la' ln' lc', .string tx', .int .i64 nm', .slice ia' im' ic', .slice ta' tn' tc'] t) :
    Calls Tryz.prog 28 #[.agg #[.slice A n c, .slice D m d], .agg #[.int .u8 20, .string tx, .int .i64 nm, .int .u8 tk, .bool ng, .slice la ln lc, .string tt, .int .i64 tn, .slice ia im ic, .slice ta tm tc, .slice ka kn kc], .agg #[.int .u8 kd', .bool ng', .slice la' ln' lc', .string tx', .int .i64 nm', .slice ia' im' ic', .slice ta' tn' tc']] w (MatP w A n c D m d (matchN (.mk 20 tx nm tr kids) t v)) := by
  have HK0 := hide ((((Keeps.refl NoB w).alloc (.cells #[.slice A n c, .slice D m d] 39)).alloc (.cells #[.int .u8 20, .string tx, .int .i64 nm, .int .u8 tk, .bool ng, .slice la ln lc, .string tt, .int .i64 tn, .slice ia im ic, .slice ta tm tc, .slice ka kn kc] 34)).alloc (.cells #[.int .u8 kd', .bool ng', .slice la' ln' lc', .string tx', .int .i64 nm', .slice ia' im' ic', .slice ta' tn' tc'] 26))
  have HV0 := hide (three_tblks w 39 34 26 #[.slice A n c, .slice D m d] #[.int .u8 20, .string tx, .int .i64 nm, .int .u8 tk, .bool ng, .slice la ln lc, .string tt, .int .i64 tn, .slice ia im ic, .slice ta tm tc, .slice ka kn kc] #[.int .u8 kd', .bool ng', .slice la' ln' lc', .string tx', .int .i64 nm', .slice ia' im' ic', .slice ta' tn' tc']).1; have HP0 := hide (three_tblks w 39 34 26 #[.slice A n c, .slice D m d] #[.int .u8 20, .string tx, .int .i64 nm, .int .u8 tk, .bool ng, .slice la ln lc, .string tt, .int .i64 tn, .slice ia im ic, .slice ta tm tc, .slice ka kn kc] #[.int .u8 kd', .bool ng', .slice la' ln' lc', .string tx', .int .i64 nm', .slice ia' im' ic', .slice ta' tn' tc']).2.1; have HT0 := hide (three_tblks w 39 34 26 #[.slice A n c, .slice D m d] #[.int .u8 20, .string tx, .int .i64 nm, .int .u8 tk, .bool ng, .slice la ln lc, .string tt, .int .i64 tn, .slice ia im ic, .slice ta tm tc, .slice ka kn kc] #[.int .u8 kd', .bool ng', .slice la' ln' lc', .string tx', .int .i64 nm', .slice ia' im' ic', .slice ta' tn' tc']).2.2
  have H := hide h; have HMD := hide hmd; have HOV := hide hov; have HOT := hide hot; have HTR := hide htr; have HOTR := hide hotr; have HKR := hide hkr; have HKI := hide hkids; have HKC := hide hkc; have HOKC := hide hokc; have HIH := hide IH; have HT := hide ht
  have HNR := hide (show ∀ k, w.heap.size ≤ k → ¬ Rows2 A D k from fun k hk hr => by rcases hr with hr | hr; have := h.hb.lt hr; omega; have := h.hv.lt hr; omega)
  have HN := hide (show matchN (.mk 20 tx nm tr kids) t v = some v from by unfold matchN; rw [if_pos rfl])
  clear h hmd hov hot htr hotr hkr hkids hkc hokc IH ht
  go_enter Tryz.func28, Tryz.ntmps28
  go_upto_region 2 with fail
  generalize ((w.alloc (.cells #[.slice A n c, .slice D m d] 39)).alloc (.cells #[.int .u8 20, .string tx, .int .i64 nm, .int .u8 tk, .bool ng, .slice la ln lc, .string tt, .int .i64 tn, .slice ia im ic, .slice ta tm tc, .slice ka kn kc] 34)).alloc (.cells #[.int .u8 kd', .bool ng', .slice la' ln' lc', .string tx', .int .i64 nm', .slice ia' im' ic', .slice ta' tn' tc'] 26) = w0 at *
  have HS0 := hide (And.intro HV0.out.lt (And.intro HP0.out.lt HT0.out.lt))
  have p0 := HP0.out.cell 0; have p1 := HP0.out.cell 1; have p2 := HP0.out.cell 2; have p3 := HP0.out.cell 3; have p4 := HP0.out.cell 4; have p5 := HP0.out.cell 5; have p6 := HP0.out.cell 6; have p7 := HP0.out.cell 7; have p8 := HP0.out.cell 8; have p9 := HP0.out.cell 9; have p10 := HP0.out.cell 10
  go_wp2_with fail
  go_ret
  exact ⟨true, css, v, rfl, H.out.keep HK0.out, fun _ => HN.out, fun h => (by cases h), HOV.out, HK0.out.mono (fun _ _ h => h.elim)⟩
set_option maxRecDepth 100000 in
set_option maxHeartbeats 4000000 in
theorem match_no (kd : Int) (tx : ByteArray) (nm tk : Int) (ng : Bool) (la : Option Addr) (ln lc : Nat) (tt : ByteArray) (tn : Int) (ia : Option Addr) (im ic : Nat) (ta : Option Addr) (tm tc : Nat) (ka : Option Addr) (kn kc : Nat) (kd' : Int) (ng' : Bool) (la' : Option Addr) (ln' lc' : Nat) (tx' : ByteArray) (nm' : Int) (ia' : Option Addr) (im' ic' : Nat) (ta' : Option Addr) (tn' tc' : Nat) (tr : Tm) (kids : List Co) (kcss : List (List Value)) (t : Tm) (v : VSt) (A : Option Addr) (n c : Nat) (D : Option Addr) (m d : Nat) (css : List (List Value)) (w : World) (h : VAt w A n c D m d css v) (hmd : v.made) (hov : okTs v.vals) (hot : okT t) (htr : TermIn w (Off A D) false [.int .u8 tk, .bool ng, .slice la ln lc, .string tt, .int .i64 tn, .slice ia im ic, .slice ta tm tc] tr) (hotr : okT tr) (hkr : Roomy kn 160) (hkids : Reads w (Off A D) false 11 ka kn kcss.flatten) (hkc : CoresIn w (Off A D) false kcss kids) (hokc : okCs kids) (IH : MSaid (Co.size.sizes kids)) (ht : TermIn w (Off A D) false [.int .u8 kd', .bool ng', .slice la' ln' lc', .string tx', .int .i64 nm', .slice ia' im' ic', .slice ta' tn' tc'] t) (k0 : ¬ kd = 20) (k1 : ¬ kd = 21) (k2 : ¬ kd = 22) (k3 : ¬ kd = 23) (k4 : ¬ kd = 24) (k5 : ¬ kd = 25) (k6 : ¬ kd = 26) :
    Calls Tryz.prog 28 #[.agg #[.slice A n c, .slice D m d], .agg #[.int .u8 kd, .string tx, .int .i64 nm, .int .u8 tk, .bool ng, .slice la ln lc, .string tt, .int .i64 tn, .slice ia im ic, .slice ta tm tc, .slice ka kn kc], .agg #[.int .u8 kd', .bool ng', .slice la' ln' lc', .string tx', .int .i64 nm', .slice ia' im' ic', .slice ta' tn' tc']] w (MatP w A n c D m d (matchN (.mk kd tx nm tr kids) t v)) := by
  have HK0 := hide ((((Keeps.refl NoB w).alloc (.cells #[.slice A n c, .slice D m d] 39)).alloc (.cells #[.int .u8 kd, .string tx, .int .i64 nm, .int .u8 tk, .bool ng, .slice la ln lc, .string tt, .int .i64 tn, .slice ia im ic, .slice ta tm tc, .slice ka kn kc] 34)).alloc (.cells #[.int .u8 kd', .bool ng', .slice la' ln' lc', .string tx', .int .i64 nm', .slice ia' im' ic', .slice ta' tn' tc'] 26))
  have HV0 := hide (three_tblks w 39 34 26 #[.slice A n c, .slice D m d] #[.int .u8 kd, .string tx, .int .i64 nm, .int .u8 tk, .bool ng, .slice la ln lc, .string tt, .int .i64 tn, .slice ia im ic, .slice ta tm tc, .slice ka kn kc] #[.int .u8 kd', .bool ng', .slice la' ln' lc', .string tx', .int .i64 nm', .slice ia' im' ic', .slice ta' tn' tc']).1; have HP0 := hide (three_tblks w 39 34 26 #[.slice A n c, .slice D m d] #[.int .u8 kd, .string tx, .int .i64 nm, .int .u8 tk, .bool ng, .slice la ln lc, .string tt, .int .i64 tn, .slice ia im ic, .slice ta tm tc, .slice ka kn kc] #[.int .u8 kd', .bool ng', .slice la' ln' lc', .string tx', .int .i64 nm', .slice ia' im' ic', .slice ta' tn' tc']).2.1; have HT0 := hide (three_tblks w 39 34 26 #[.slice A n c, .slice D m d] #[.int .u8 kd, .string tx, .int .i64 nm, .int .u8 tk, .bool ng, .slice la ln lc, .string tt, .int .i64 tn, .slice ia im ic, .slice ta tm tc, .slice ka kn kc] #[.int .u8 kd', .bool ng', .slice la' ln' lc', .string tx', .int .i64 nm', .slice ia' im' ic', .slice ta' tn' tc']).2.2
  have H := hide h; have HMD := hide hmd; have HOV := hide hov; have HOT := hide hot; have HTR := hide htr; have HOTR := hide hotr; have HKR := hide hkr; have HKI := hide hkids; have HKC := hide hkc; have HOKC := hide hokc; have HIH := hide IH; have HT := hide ht
  have HNR := hide (show ∀ k, w.heap.size ≤ k → ¬ Rows2 A D k from fun k hk hr => by rcases hr with hr | hr; have := h.hb.lt hr; omega; have := h.hv.lt hr; omega)
  have HN := hide (show matchN (.mk kd tx nm tr kids) t v = none from by unfold matchN; simp only [k0, k1, k2, k3, k4, k5, k6, if_false])
  have e0 : (kd == 20) = false := by simpa using k0
  have e1 : (kd == 21) = false := by simpa using k1
  have e2 : (kd == 22) = false := by simpa using k2
  have e3 : (kd == 23) = false := by simpa using k3
  have e4 : (kd == 24) = false := by simpa using k4
  have e5 : (kd == 25) = false := by simpa using k5
  have e6 : (kd == 26) = false := by simpa using k6
  clear k0 k1 k2 k3 k4 k5 k6
  clear h hmd hov hot htr hotr hkr hkids hkc hokc IH ht
  go_enter Tryz.func28, Tryz.ntmps28
  go_upto_region 2 with fail
  generalize ((w.alloc (.cells #[.slice A n c, .slice D m d] 39)).alloc (.cells #[.int .u8 kd, .string tx, .int .i64 nm, .int .u8 tk, .bool ng, .slice la ln lc, .string tt, .int .i64 tn, .slice ia im ic, .slice ta tm tc, .slice ka kn kc] 34)).alloc (.cells #[.int .u8 kd', .bool ng', .slice la' ln' lc', .string tx', .int .i64 nm', .slice ia' im' ic', .slice ta' tn' tc'] 26) = w0 at *
  have HS0 := hide (And.intro HV0.out.lt (And.intro HP0.out.lt HT0.out.lt))
  have p0 := HP0.out.cell 0; have p1 := HP0.out.cell 1; have p2 := HP0.out.cell 2; have p3 := HP0.out.cell 3; have p4 := HP0.out.cell 4; have p5 := HP0.out.cell 5; have p6 := HP0.out.cell 6; have p7 := HP0.out.cell 7; have p8 := HP0.out.cell 8; have p9 := HP0.out.cell 9; have p10 := HP0.out.cell 10
  go_wp2_with fail
  go_ret
  exact ⟨false, css, v, rfl, H.out.keep HK0.out, fun h => (by cases h), fun _ => HN.out, HOV.out, HK0.out.mono (fun _ _ h => h.elim)⟩
set_option maxRecDepth 100000 in
set_option maxHeartbeats 4000000 in
theorem match_23 (tx : ByteArray) (nm tk : Int) (ng : Bool) (la : Option Addr) (ln lc : Nat) (tt : ByteArray) (tn : Int) (ia : Option Addr) (im ic : Nat) (ta : Option Addr) (tm tc : Nat) (ka : Option Addr) (kn kc : Nat) (kd' : Int) (ng' : Bool) (la' : Option Addr) (ln' lc' : Nat) (tx' : ByteArray) (nm' : Int) (ia' : Option Addr) (im' ic' : Nat) (ta' : Option Addr) (tn' tc' : Nat) (tr : Tm) (kids : List Co) (kcss : List (List Value)) (t : Tm) (v : VSt) (A : Option Addr) (n c : Nat) (D : Option Addr) (m d : Nat) (css : List (List Value)) (w : World) (h : VAt w A n c D m d css v) (hmd : v.made) (hov : okTs v.vals) (hot : okT t) (htr : TermIn w (Off A D) false [.int .u8 tk, .bool ng, .slice la ln lc, .string tt, .int .i64 tn, .slice ia im ic, .slice ta tm tc] tr) (hotr : okT tr) (hkr : Roomy kn 160) (hkids : Reads w (Off A D) false 11 ka kn kcss.flatten) (hkc : CoresIn w (Off A D) false kcss kids) (hokc : okCs kids) (IH : MSaid (Co.size.sizes kids)) (ht : TermIn w (Off A D) false [.int .u8 kd', .bool ng', .slice la' ln' lc', .string tx', .int .i64 nm', .slice ia' im' ic', .slice ta' tn' tc'] t) :
    Calls Tryz.prog 28 #[.agg #[.slice A n c, .slice D m d], .agg #[.int .u8 23, .string tx, .int .i64 nm, .int .u8 tk, .bool ng, .slice la ln lc, .string tt, .int .i64 tn, .slice ia im ic, .slice ta tm tc, .slice ka kn kc], .agg #[.int .u8 kd', .bool ng', .slice la' ln' lc', .string tx', .int .i64 nm', .slice ia' im' ic', .slice ta' tn' tc']] w (MatP w A n c D m d (matchN (.mk 23 tx nm tr kids) t v)) := by
  have HK0 := hide ((((Keeps.refl NoB w).alloc (.cells #[.slice A n c, .slice D m d] 39)).alloc (.cells #[.int .u8 23, .string tx, .int .i64 nm, .int .u8 tk, .bool ng, .slice la ln lc, .string tt, .int .i64 tn, .slice ia im ic, .slice ta tm tc, .slice ka kn kc] 34)).alloc (.cells #[.int .u8 kd', .bool ng', .slice la' ln' lc', .string tx', .int .i64 nm', .slice ia' im' ic', .slice ta' tn' tc'] 26))
  have HV0 := hide (three_tblks w 39 34 26 #[.slice A n c, .slice D m d] #[.int .u8 23, .string tx, .int .i64 nm, .int .u8 tk, .bool ng, .slice la ln lc, .string tt, .int .i64 tn, .slice ia im ic, .slice ta tm tc, .slice ka kn kc] #[.int .u8 kd', .bool ng', .slice la' ln' lc', .string tx', .int .i64 nm', .slice ia' im' ic', .slice ta' tn' tc']).1; have HP0 := hide (three_tblks w 39 34 26 #[.slice A n c, .slice D m d] #[.int .u8 23, .string tx, .int .i64 nm, .int .u8 tk, .bool ng, .slice la ln lc, .string tt, .int .i64 tn, .slice ia im ic, .slice ta tm tc, .slice ka kn kc] #[.int .u8 kd', .bool ng', .slice la' ln' lc', .string tx', .int .i64 nm', .slice ia' im' ic', .slice ta' tn' tc']).2.1; have HT0 := hide (three_tblks w 39 34 26 #[.slice A n c, .slice D m d] #[.int .u8 23, .string tx, .int .i64 nm, .int .u8 tk, .bool ng, .slice la ln lc, .string tt, .int .i64 tn, .slice ia im ic, .slice ta tm tc, .slice ka kn kc] #[.int .u8 kd', .bool ng', .slice la' ln' lc', .string tx', .int .i64 nm', .slice ia' im' ic', .slice ta' tn' tc']).2.2
  have H := hide h; have HMD := hide hmd; have HOV := hide hov; have HOT := hide hot; have HTR := hide htr; have HOTR := hide hotr; have HKR := hide hkr; have HKI := hide hkids; have HKC := hide hkc; have HOKC := hide hokc; have HIH := hide IH; have HT := hide ht
  have HNR := hide (show ∀ k, w.heap.size ≤ k → ¬ Rows2 A D k from fun k hk hr => by rcases hr with hr | hr; have := h.hb.lt hr; omega; have := h.hv.lt hr; omega)
  have HN := hide (show matchN (.mk 23 tx nm tr kids) t v = if sameT tr t then some v else none from by unfold matchN; rfl)
  clear h hmd hov hot htr hotr hkr hkids hkc hokc IH ht
  go_enter Tryz.func28, Tryz.ntmps28
  go_upto_region 2 with fail
  generalize ((w.alloc (.cells #[.slice A n c, .slice D m d] 39)).alloc (.cells #[.int .u8 23, .string tx, .int .i64 nm, .int .u8 tk, .bool ng, .slice la ln lc, .string tt, .int .i64 tn, .slice ia im ic, .slice ta tm tc, .slice ka kn kc] 34)).alloc (.cells #[.int .u8 kd', .bool ng', .slice la' ln' lc', .string tx', .int .i64 nm', .slice ia' im' ic', .slice ta' tn' tc'] 26) = w0 at *
  have HS0 := hide (And.intro HV0.out.lt (And.intro HP0.out.lt HT0.out.lt))
  have p0 := HP0.out.cell 0; have p1 := HP0.out.cell 1; have p2 := HP0.out.cell 2; have p3 := HP0.out.cell 3; have p4 := HP0.out.cell 4; have p5 := HP0.out.cell 5; have p6 := HP0.out.cell 6; have p7 := HP0.out.cell 7; have p8 := HP0.out.cell 8; have p9 := HP0.out.cell 9; have p10 := HP0.out.cell 10
  obtain ⟨t0, t1, t2, t3, t4, t5, t6⟩ := Blk.c7 (show Blk w0 (w.heap.size + 1 + 1) _ #[.int .u8 kd', .bool ng', .slice la' ln' lc', .string tx', .int .i64 nm', .slice ia' im' ic', .slice ta' tn' tc'] from HT0.out)
  go_wp2_with
    first
    | (go_at_call 12
       refine (same_any tr t HOTR.out HOT.out w0 _ _ _ _ _ _ _ _ _ _ _ _ _ _ _ _ _ _ _ _ _ _ _ _ _ _ _ _ _ _ (TermIn.keep HK0.out (fun _ _ => id) _ _ HTR.out) (TermIn.keep HK0.out (fun _ _ => id) _ _ HT.out)).mono ?_
       rintro e w1 ⟨rfl, hk1⟩
       have HK1 := hide (HK0.out.trans' hk1 (fun _ _ => id) (fun _ _ => id) : Keeps NoB w w1)
       clear hk1)
    | fail
  go_ret
  refine ⟨sameT tr t, css, v, rfl, H.out.keep HK1.out, fun h => ?_, fun h => ?_, HOV.out, HK1.out.mono (fun _ _ h => h.elim)⟩
  · rw [HN.out, h]; rfl
  · rw [HN.out, h]; rfl
set_option maxRecDepth 100000 in
set_option maxHeartbeats 4000000 in
theorem match_22s (tx : ByteArray) (nm tk : Int) (ng : Bool) (la : Option Addr) (ln lc : Nat) (tt : ByteArray) (tn : Int) (ia : Option Addr) (im ic : Nat) (ta : Option Addr) (tm tc : Nat) (ka : Option Addr) (kn kc : Nat) (kd' : Int) (ng' : Bool) (la' : Option Addr) (ln' lc' : Nat) (tx' : ByteArray) (nm' : Int) (ia' : Option Addr) (im' ic' : Nat) (ta' : Option Addr) (tn' tc' : Nat) (tr : Tm) (kids : List Co) (kcss : List (List Value)) (t : Tm) (v : VSt) (A : Option Addr) (n c : Nat) (D : Option Addr) (m d : Nat) (css : List (List Value)) (w : World) (h : VAt w A n c D m d css v) (hmd : v.made) (hov : okTs v.vals) (hot : okT t) (htr : TermIn w (Off A D) false [.int .u8 tk, .bool ng, .slice la ln lc, .string tt, .int .i64 tn, .slice ia im ic, .slice ta tm tc] tr) (hotr : okT tr) (hkr : Roomy kn 160) (hkids : Reads w (Off A D) false 11 ka kn kcss.flatten) (hkc : CoresIn w (Off A D) false kcss kids) (hokc : okCs kids) (IH : MSaid (Co.size.sizes kids)) (ht : TermIn w (Off A D) false [.int .u8 kd', .bool ng', .slice la' ln' lc', .string tx', .int .i64 nm', .slice ia' im' ic', .slice ta' tn' tc'] t) (u : Tm) (hg : v.get nm = some u) (hou : okT u) :
    Calls Tryz.prog 28 #[.agg #[.slice A n c, .slice D m d], .agg #[.int .u8 22, .string tx, .int .i64 nm, .int .u8 tk, .bool ng, .slice la ln lc, .string tt, .int .i64 tn, .slice ia im ic, .slice ta tm tc, .slice ka kn kc], .agg #[.int .u8 kd', .bool ng', .slice la' ln' lc', .string tx', .int .i64 nm', .slice ia' im' ic', .slice ta' tn' tc']] w (MatP w A n c D m d (matchN (.mk 22 tx nm tr kids) t v)) := by
  have HK0 := hide ((((Keeps.refl NoB w).alloc (.cells #[.slice A n c, .slice D m d] 39)).alloc (.cells #[.int .u8 22, .string tx, .int .i64 nm, .int .u8 tk, .bool ng, .slice la ln lc, .string tt, .int .i64 tn, .slice ia im ic, .slice ta tm tc, .slice ka kn kc] 34)).alloc (.cells #[.int .u8 kd', .bool ng', .slice la' ln' lc', .string tx', .int .i64 nm', .slice ia' im' ic', .slice ta' tn' tc'] 26))
  have HV0 := hide (three_tblks w 39 34 26 #[.slice A n c, .slice D m d] #[.int .u8 22, .string tx, .int .i64 nm, .int .u8 tk, .bool ng, .slice la ln lc, .string tt, .int .i64 tn, .slice ia im ic, .slice ta tm tc, .slice ka kn kc] #[.int .u8 kd', .bool ng', .slice la' ln' lc', .string tx', .int .i64 nm', .slice ia' im' ic', .slice ta' tn' tc']).1; have HP0 := hide (three_tblks w 39 34 26 #[.slice A n c, .slice D m d] #[.int .u8 22, .string tx, .int .i64 nm, .int .u8 tk, .bool ng, .slice la ln lc, .string tt, .int .i64 tn, .slice ia im ic, .slice ta tm tc, .slice ka kn kc] #[.int .u8 kd', .bool ng', .slice la' ln' lc', .string tx', .int .i64 nm', .slice ia' im' ic', .slice ta' tn' tc']).2.1; have HT0 := hide (three_tblks w 39 34 26 #[.slice A n c, .slice D m d] #[.int .u8 22, .string tx, .int .i64 nm, .int .u8 tk, .bool ng, .slice la ln lc, .string tt, .int .i64 tn, .slice ia im ic, .slice ta tm tc, .slice ka kn kc] #[.int .u8 kd', .bool ng', .slice la' ln' lc', .string tx', .int .i64 nm', .slice ia' im' ic', .slice ta' tn' tc']).2.2
  have H := hide h; have HMD := hide hmd; have HOV := hide hov; have HOT := hide hot; have HTR := hide htr; have HOTR := hide hotr; have HKR := hide hkr; have HKI := hide hkids; have HKC := hide hkc; have HOKC := hide hokc; have HIH := hide IH; have HT := hide ht
  have HNR := hide (show ∀ k, w.heap.size ≤ k → ¬ Rows2 A D k from fun k hk hr => by rcases hr with hr | hr; have := h.hb.lt hr; omega; have := h.hv.lt hr; omega)
  have HN := hide (show matchN (.mk 22 tx nm tr kids) t v = if sameT u t then some v else none from by unfold matchN; rw [if_neg (by decide), if_neg (by decide), if_pos rfl, hg])
  have HG := hide hg; have HOU := hide hou
  clear hg hou
  clear h hmd hov hot htr hotr hkr hkids hkc hokc IH ht
  go_enter Tryz.func28, Tryz.ntmps28
  go_upto_region 2 with fail
  generalize ((w.alloc (.cells #[.slice A n c, .slice D m d] 39)).alloc (.cells #[.int .u8 22, .string tx, .int .i64 nm, .int .u8 tk, .bool ng, .slice la ln lc, .string tt, .int .i64 tn, .slice ia im ic, .slice ta tm tc, .slice ka kn kc] 34)).alloc (.cells #[.int .u8 kd', .bool ng', .slice la' ln' lc', .string tx', .int .i64 nm', .slice ia' im' ic', .slice ta' tn' tc'] 26) = w0 at *
  have HS0 := hide (And.intro HV0.out.lt (And.intro HP0.out.lt HT0.out.lt))
  have p0 := HP0.out.cell 0; have p1 := HP0.out.cell 1; have p2 := HP0.out.cell 2; have p3 := HP0.out.cell 3; have p4 := HP0.out.cell 4; have p5 := HP0.out.cell 5; have p6 := HP0.out.cell 6; have p7 := HP0.out.cell 7; have p8 := HP0.out.cell 8; have p9 := HP0.out.cell 9; have p10 := HP0.out.cell 10
  have v0 := HV0.out.cell 0; have v1 := HV0.out.cell 1
  go_wp2_with
    first
    | (go_at_call 46
       refine (get_any A n c D m d css v nm (fun _ => True) w0 (H.out.keep HK0.out).read HMD.out).mono ?_
       rintro e w1 hg1
       rw [HG.out] at hg1
       obtain ⟨k1, g1, a1, n1, c1, s1, m1, a2, n2, c2, a3, n3, c3, rfl, htu, hk1⟩ := hg1
       have HK1 := hide ((HK0.out.trans' hk1 (fun _ _ => id) (fun _ _ => id) : Keeps NoB w w1).alloc (.cells #[.int .u8 k1, .bool g1, .slice a1 n1 c1, .string s1, .int .i64 m1, .slice a2 n2 c2, .slice a3 n3 c3] 26))
       have HTU := hide (TermIn.keep ((Keeps.refl NoB w1).alloc (.cells #[.int .u8 k1, .bool g1, .slice a1 n1 c1, .string s1, .int .i64 m1, .slice a2 n2 c2, .slice a3 n3 c3] 26)) (fun _ _ => id) _ _ htu)
       obtain ⟨u0, u1, u2, u3, u4, u5, u6⟩ := Blk.c7 (show Blk (w1.alloc (.cells #[.int .u8 k1, .bool g1, .slice a1 n1 c1, .string s1, .int .i64 m1, .slice a2 n2 c2, .slice a3 n3 c3] 26)) (w1.heap.size) _ #[.int .u8 k1, .bool g1, .slice a1 n1 c1, .string s1, .int .i64 m1, .slice a2 n2 c2, .slice a3 n3 c3] from Blk.new w1 26 _)
       obtain ⟨y0, y1, y2, y3, y4, y5, y6⟩ := Blk.c7 (show Blk (w1.alloc (.cells #[.int .u8 k1, .bool g1, .slice a1 n1 c1, .string s1, .int .i64 m1, .slice a2 n2 c2, .slice a3 n3 c3] 26)) (w.heap.size + 1 + 1) _ #[.int .u8 kd', .bool ng', .slice la' ln' lc', .string tx', .int .i64 nm', .slice ia' im' ic', .slice ta' tn' tc'] from (HT0.out.keep hk1 id).alloc _)
       clear hk1 htu)
    | (go_at_call 12
       refine (same_any u t HOU.out HOT.out (w1.alloc (.cells #[.int .u8 k1, .bool g1, .slice a1 n1 c1, .string s1, .int .i64 m1, .slice a2 n2 c2, .slice a3 n3 c3] 26)) _ _ _ _ _ _ _ _ _ _ _ _ _ _ _ _ _ _ _ _ _ _ _ _ _ _ _ _ _ _ HTU.out (TermIn.keep HK1.out (fun _ _ => id) _ _ HT.out)).mono ?_
       rintro e w2 ⟨rfl, hk2⟩
       have HK2 := hide (HK1.out.trans' hk2 (fun _ _ => id) (fun _ _ => id) : Keeps NoB w w2)
       clear hk2)
    | fail
  go_ret
  refine ⟨sameT u t, css, v, rfl, H.out.keep HK2.out, fun h => ?_, fun h => ?_, HOV.out, HK2.out.mono (fun _ _ h => h.elim)⟩
  · rw [HN.out, h]; rfl
  · rw [HN.out, h]; rfl
set_option maxRecDepth 100000 in
set_option maxHeartbeats 4000000 in
theorem match_22n (tx : ByteArray) (nm tk : Int) (ng : Bool) (la : Option Addr) (ln lc : Nat) (tt : ByteArray) (tn : Int) (ia : Option Addr) (im ic : Nat) (ta : Option Addr) (tm tc : Nat) (ka : Option Addr) (kn kc : Nat) (kd' : Int) (ng' : Bool) (la' : Option Addr) (ln' lc' : Nat) (tx' : ByteArray) (nm' : Int) (ia' : Option Addr) (im' ic' : Nat) (ta' : Option Addr) (tn' tc' : Nat) (tr : Tm) (kids : List Co) (kcss : List (List Value)) (t : Tm) (v : VSt) (A : Option Addr) (n c : Nat) (D : Option Addr) (m d : Nat) (css : List (List Value)) (w : World) (h : VAt w A n c D m d css v) (hmd : v.made) (hov : okTs v.vals) (hot : okT t) (htr : TermIn w (Off A D) false [.int .u8 tk, .bool ng, .slice la ln lc, .string tt, .int .i64 tn, .slice ia im ic, .slice ta tm tc] tr) (hotr : okT tr) (hkr : Roomy kn 160) (hkids : Reads w (Off A D) false 11 ka kn kcss.flatten) (hkc : CoresIn w (Off A D) false kcss kids) (hokc : okCs kids) (IH : MSaid (Co.size.sizes kids)) (ht : TermIn w (Off A D) false [.int .u8 kd', .bool ng', .slice la' ln' lc', .string tx', .int .i64 nm', .slice ia' im' ic', .slice ta' tn' tc'] t) (hg : v.get nm = none) :
    Calls Tryz.prog 28 #[.agg #[.slice A n c, .slice D m d], .agg #[.int .u8 22, .string tx, .int .i64 nm, .int .u8 tk, .bool ng, .slice la ln lc, .string tt, .int .i64 tn, .slice ia im ic, .slice ta tm tc, .slice ka kn kc], .agg #[.int .u8 kd', .bool ng', .slice la' ln' lc', .string tx', .int .i64 nm', .slice ia' im' ic', .slice ta' tn' tc']] w (MatP w A n c D m d (matchN (.mk 22 tx nm tr kids) t v)) := by
  have HK0 := hide ((((Keeps.refl NoB w).alloc (.cells #[.slice A n c, .slice D m d] 39)).alloc (.cells #[.int .u8 22, .string tx, .int .i64 nm, .int .u8 tk, .bool ng, .slice la ln lc, .string tt, .int .i64 tn, .slice ia im ic, .slice ta tm tc, .slice ka kn kc] 34)).alloc (.cells #[.int .u8 kd', .bool ng', .slice la' ln' lc', .string tx', .int .i64 nm', .slice ia' im' ic', .slice ta' tn' tc'] 26))
  have HV0 := hide (three_tblks w 39 34 26 #[.slice A n c, .slice D m d] #[.int .u8 22, .string tx, .int .i64 nm, .int .u8 tk, .bool ng, .slice la ln lc, .string tt, .int .i64 tn, .slice ia im ic, .slice ta tm tc, .slice ka kn kc] #[.int .u8 kd', .bool ng', .slice la' ln' lc', .string tx', .int .i64 nm', .slice ia' im' ic', .slice ta' tn' tc']).1; have HP0 := hide (three_tblks w 39 34 26 #[.slice A n c, .slice D m d] #[.int .u8 22, .string tx, .int .i64 nm, .int .u8 tk, .bool ng, .slice la ln lc, .string tt, .int .i64 tn, .slice ia im ic, .slice ta tm tc, .slice ka kn kc] #[.int .u8 kd', .bool ng', .slice la' ln' lc', .string tx', .int .i64 nm', .slice ia' im' ic', .slice ta' tn' tc']).2.1; have HT0 := hide (three_tblks w 39 34 26 #[.slice A n c, .slice D m d] #[.int .u8 22, .string tx, .int .i64 nm, .int .u8 tk, .bool ng, .slice la ln lc, .string tt, .int .i64 tn, .slice ia im ic, .slice ta tm tc, .slice ka kn kc] #[.int .u8 kd', .bool ng', .slice la' ln' lc', .string tx', .int .i64 nm', .slice ia' im' ic', .slice ta' tn' tc']).2.2
  have H := hide h; have HMD := hide hmd; have HOV := hide hov; have HOT := hide hot; have HTR := hide htr; have HOTR := hide hotr; have HKR := hide hkr; have HKI := hide hkids; have HKC := hide hkc; have HOKC := hide hokc; have HIH := hide IH; have HT := hide ht
  have HNR := hide (show ∀ k, w.heap.size ≤ k → ¬ Rows2 A D k from fun k hk hr => by rcases hr with hr | hr; have := h.hb.lt hr; omega; have := h.hv.lt hr; omega)
  have HN := hide (show matchN (.mk 22 tx nm tr kids) t v = none from by unfold matchN; rw [if_neg (by decide), if_neg (by decide), if_pos rfl, hg])
  have HG := hide hg
  clear hg
  clear h hmd hov hot htr hotr hkr hkids hkc hokc IH ht
  go_enter Tryz.func28, Tryz.ntmps28
  go_upto_region 2 with fail
  generalize ((w.alloc (.cells #[.slice A n c, .slice D m d] 39)).alloc (.cells #[.int .u8 22, .string tx, .int .i64 nm, .int .u8 tk, .bool ng, .slice la ln lc, .string tt, .int .i64 tn, .slice ia im ic, .slice ta tm tc, .slice ka kn kc] 34)).alloc (.cells #[.int .u8 kd', .bool ng', .slice la' ln' lc', .string tx', .int .i64 nm', .slice ia' im' ic', .slice ta' tn' tc'] 26) = w0 at *
  have HS0 := hide (And.intro HV0.out.lt (And.intro HP0.out.lt HT0.out.lt))
  have p0 := HP0.out.cell 0; have p1 := HP0.out.cell 1; have p2 := HP0.out.cell 2; have p3 := HP0.out.cell 3; have p4 := HP0.out.cell 4; have p5 := HP0.out.cell 5; have p6 := HP0.out.cell 6; have p7 := HP0.out.cell 7; have p8 := HP0.out.cell 8; have p9 := HP0.out.cell 9; have p10 := HP0.out.cell 10
  have v0 := HV0.out.cell 0; have v1 := HV0.out.cell 1
  go_wp2_with
    first
    | (go_at_call 46
       refine (get_any A n c D m d css v nm (fun _ => True) w0 (H.out.keep HK0.out).read HMD.out).mono ?_
       rintro e w1 hg1
       rw [HG.out] at hg1
       obtain ⟨rfl, hk1⟩ := hg1
       have HK1 := hide ((HK0.out.trans' hk1 (fun _ _ => id) (fun _ _ => id) : Keeps NoB w w1).alloc (.cells #[.int .u8 0, .bool false, .slice none 0 0, .string ⟨#[]⟩, .int .i64 0, .slice none 0 0, .slice none 0 0] 26))
       clear hk1)
    | fail
  go_ret
  exact ⟨false, css, v, rfl, H.out.keep HK1.out, fun h => (by cases h), fun _ => HN.out, HOV.out, HK1.out.mono (fun _ _ h => h.elim)⟩
set_option maxRecDepth 100000 in
set_option maxHeartbeats 4000000 in
theorem match_24 (tx : ByteArray) (nm tk : Int) (ng : Bool) (la : Option Addr) (ln lc : Nat) (tt : ByteArray) (tn : Int) (ia : Option Addr) (im ic : Nat) (ta : Option Addr) (tm tc : Nat) (ka : Option Addr) (kn kc : Nat) (ng' : Bool) (la' : Option Addr) (ln' lc' : Nat) (tx' : ByteArray) (nm' : Int) (ia' : Option Addr) (im' ic' : Nat) (ta' : Option Addr) (tn' tc' : Nat) (tr : Tm) (kids : List Co) (kcss : List (List Value)) (t : Tm) (v : VSt) (A : Option Addr) (n c : Nat) (D : Option Addr) (m d : Nat) (css : List (List Value)) (w : World) (h : VAt w A n c D m d css v) (hmd : v.made) (hov : okTs v.vals) (hot : okT t) (htr : TermIn w (Off A D) false [.int .u8 tk, .bool ng, .slice la ln lc, .string tt, .int .i64 tn, .slice ia im ic, .slice ta tm tc] tr) (hotr : okT tr) (hkr : Roomy kn 160) (hkids : Reads w (Off A D) false 11 ka kn kcss.flatten) (hkc : CoresIn w (Off A D) false kcss kids) (hokc : okCs kids) (IH : MSaid (Co.size.sizes kids)) (ht : TermIn w (Off A D) false [.int .u8 6, .bool ng', .slice la' ln' lc', .string tx', .int .i64 nm', .slice ia' im' ic', .slice ta' tn' tc'] t) :
    Calls Tryz.prog 28 #[.agg #[.slice A n c, .slice D m d], .agg #[.int .u8 24, .string tx, .int .i64 nm, .int .u8 tk, .bool ng, .slice la ln lc, .string tt, .int .i64 tn, .slice ia im ic, .slice ta tm tc, .slice ka kn kc], .agg #[.int .u8 6, .bool ng', .slice la' ln' lc', .string tx', .int .i64 nm', .slice ia' im' ic', .slice ta' tn' tc']] w (MatP w A n c D m d (matchN (.mk 24 tx nm tr kids) t v)) := by
  obtain ⟨limbs', items, tail', tcss, tdss, rfl, hroom', _, hri, hti, _, _, _, hil', _⟩ := ht.parts
  have HRM := hide hroom'; have HRI := hide hri; have HTI := hide hti
  have HOI := hide (show okTs items from by unfold okT at hot; exact hot.2.2.2.2.1)
  clear hroom' hri hti hil'
  have HK0 := hide ((((Keeps.refl NoB w).alloc (.cells #[.slice A n c, .slice D m d] 39)).alloc (.cells #[.int .u8 24, .string tx, .int .i64 nm, .int .u8 tk, .bool ng, .slice la ln lc, .string tt, .int .i64 tn, .slice ia im ic, .slice ta tm tc, .slice ka kn kc] 34)).alloc (.cells #[.int .u8 6, .bool ng', .slice la' ln' lc', .string tx', .int .i64 nm', .slice ia' im' ic', .slice ta' tn' tc'] 26))
  have HV0 := hide (three_tblks w 39 34 26 #[.slice A n c, .slice D m d] #[.int .u8 24, .string tx, .int .i64 nm, .int .u8 tk, .bool ng, .slice la ln lc, .string tt, .int .i64 tn, .slice ia im ic, .slice ta tm tc, .slice ka kn kc] #[.int .u8 6, .bool ng', .slice la' ln' lc', .string tx', .int .i64 nm', .slice ia' im' ic', .slice ta' tn' tc']).1; have HP0 := hide (three_tblks w 39 34 26 #[.slice A n c, .slice D m d] #[.int .u8 24, .string tx, .int .i64 nm, .int .u8 tk, .bool ng, .slice la ln lc, .string tt, .int .i64 tn, .slice ia im ic, .slice ta tm tc, .slice ka kn kc] #[.int .u8 6, .bool ng', .slice la' ln' lc', .string tx', .int .i64 nm', .slice ia' im' ic', .slice ta' tn' tc']).2.1; have HT0 := hide (three_tblks w 39 34 26 #[.slice A n c, .slice D m d] #[.int .u8 24, .string tx, .int .i64 nm, .int .u8 tk, .bool ng, .slice la ln lc, .string tt, .int .i64 tn, .slice ia im ic, .slice ta tm tc, .slice ka kn kc] #[.int .u8 6, .bool ng', .slice la' ln' lc', .string tx', .int .i64 nm', .slice ia' im' ic', .slice ta' tn' tc']).2.2
  have H := hide h; have HMD := hide hmd; have HOV := hide hov; have HOT := hide hot; have HTR := hide htr; have HOTR := hide hotr; have HKR := hide hkr; have HKI := hide hkids; have HKC := hide hkc; have HOKC := hide hokc; have HIH := hide IH; have HT := hide ht
  have HNR := hide (show ∀ k, w.heap.size ≤ k → ¬ Rows2 A D k from fun k hk hr => by rcases hr with hr | hr; have := h.hb.lt hr; omega; have := h.hv.lt hr; omega)
  have HN := hide (show matchN (.mk 24 tx nm tr kids) (.mk 6 ng' limbs' tx' nm' items tail') v = rowsN kids items v from by unfold matchN; rw [if_neg (by decide), if_neg (by decide), if_neg (by decide), if_neg (by decide), if_pos rfl]; exact if_pos rfl)
  clear h hmd hov hot htr hotr hkr hkids hkc hokc IH ht
  go_enter Tryz.func28, Tryz.ntmps28
  go_upto_region 2 with fail
  generalize ((w.alloc (.cells #[.slice A n c, .slice D m d] 39)).alloc (.cells #[.int .u8 24, .string tx, .int .i64 nm, .int .u8 tk, .bool ng, .slice la ln lc, .string tt, .int .i64 tn, .slice ia im ic, .slice ta tm tc, .slice ka kn kc] 34)).alloc (.cells #[.int .u8 6, .bool ng', .slice la' ln' lc', .string tx', .int .i64 nm', .slice ia' im' ic', .slice ta' tn' tc'] 26) = w0 at *
  have HS0 := hide (And.intro HV0.out.lt (And.intro HP0.out.lt HT0.out.lt))
  have p0 := HP0.out.cell 0; have p1 := HP0.out.cell 1; have p2 := HP0.out.cell 2; have p3 := HP0.out.cell 3; have p4 := HP0.out.cell 4; have p5 := HP0.out.cell 5; have p6 := HP0.out.cell 6; have p7 := HP0.out.cell 7; have p8 := HP0.out.cell 8; have p9 := HP0.out.cell 9; have p10 := HP0.out.cell 10
  obtain ⟨t0, t1, t2, t3, t4, t5, t6⟩ := Blk.c7 (show Blk w0 (w.heap.size + 1 + 1) _ #[.int .u8 6, .bool ng', .slice la' ln' lc', .string tx', .int .i64 nm', .slice ia' im' ic', .slice ta' tn' tc'] from HT0.out)
  go_wp2_with
    first
    | (go_at_call 45
       refine (rows_any (Co.size.sizes kids) HIH.out kids (Nat.le_refl _) items v A n c D m d css w0 (H.out.keep HK0.out) HMD.out HOV.out HOI.out HOKC.out w.heap.size HV0.out ka kn kc kcss ia' im' ic' tcss (HKI.out.keep HK0.out (fun _ _ => id)) (CoresIn.keep HK0.out (fun _ _ => id) _ _ HKC.out) (HRI.out.keep HK0.out (fun _ _ => id)) (TermsIn.keep HK0.out (fun _ _ => id) _ _ HTI.out) HKR.out HRM.out.2.1.1).mono ?_
       rintro e w1 ⟨b, css2, v2, rfl, q1, q2, q3, q4, q5⟩
       have HQ1 := hide q1; have HQ2 := hide q2; have HQ3 := hide q3; have HQ4 := hide q4
       have HKF := hide (((HK0.out).mono (fun _ _ h => h.elim) : Keeps (Rows2 A D) w w0).trans' q5 (fun _ _ h => h) (fun _ _ h => h))
       clear q1 q2 q3 q4 q5)
    | fail
  go_ret
  exact ⟨b, css2, v2, rfl, HQ1.out, fun h => HN.out.trans (HQ2.out h), fun h => HN.out.trans (HQ3.out h), HQ4.out, HKF.out⟩
set_option maxRecDepth 100000 in
set_option maxHeartbeats 4000000 in
theorem match_24n (tx : ByteArray) (nm tk : Int) (ng : Bool) (la : Option Addr) (ln lc : Nat) (tt : ByteArray) (tn : Int) (ia : Option Addr) (im ic : Nat) (ta : Option Addr) (tm tc : Nat) (ka : Option Addr) (kn kc : Nat) (kd' : Int) (ng' : Bool) (la' : Option Addr) (ln' lc' : Nat) (tx' : ByteArray) (nm' : Int) (ia' : Option Addr) (im' ic' : Nat) (ta' : Option Addr) (tn' tc' : Nat) (tr : Tm) (kids : List Co) (kcss : List (List Value)) (t : Tm) (v : VSt) (A : Option Addr) (n c : Nat) (D : Option Addr) (m d : Nat) (css : List (List Value)) (w : World) (h : VAt w A n c D m d css v) (hmd : v.made) (hov : okTs v.vals) (hot : okT t) (htr : TermIn w (Off A D) false [.int .u8 tk, .bool ng, .slice la ln lc, .string tt, .int .i64 tn, .slice ia im ic, .slice ta tm tc] tr) (hotr : okT tr) (hkr : Roomy kn 160) (hkids : Reads w (Off A D) false 11 ka kn kcss.flatten) (hkc : CoresIn w (Off A D) false kcss kids) (hokc : okCs kids) (IH : MSaid (Co.size.sizes kids)) (ht : TermIn w (Off A D) false [.int .u8 kd', .bool ng', .slice la' ln' lc', .string tx', .int .i64 nm', .slice ia' im' ic', .slice ta' tn' tc'] t) (h6 : ¬ kd' = 6) :
    Calls Tryz.prog 28 #[.agg #[.slice A n c, .slice D m d], .agg #[.int .u8 24, .string tx, .int .i64 nm, .int .u8 tk, .bool ng, .slice la ln lc, .string tt, .int .i64 tn, .slice ia im ic, .slice ta tm tc, .slice ka kn kc], .agg #[.int .u8 kd', .bool ng', .slice la' ln' lc', .string tx', .int .i64 nm', .slice ia' im' ic', .slice ta' tn' tc']] w (MatP w A n c D m d (matchN (.mk 24 tx nm tr kids) t v)) := by
  obtain ⟨limbs', items, tail', tcss, tdss, rfl, _⟩ := ht.parts
  have hb6 : (kd' == 6) = false := by simpa using h6
  have HK0 := hide ((((Keeps.refl NoB w).alloc (.cells #[.slice A n c, .slice D m d] 39)).alloc (.cells #[.int .u8 24, .string tx, .int .i64 nm, .int .u8 tk, .bool ng, .slice la ln lc, .string tt, .int .i64 tn, .slice ia im ic, .slice ta tm tc, .slice ka kn kc] 34)).alloc (.cells #[.int .u8 kd', .bool ng', .slice la' ln' lc', .string tx', .int .i64 nm', .slice ia' im' ic', .slice ta' tn' tc'] 26))
  have HV0 := hide (three_tblks w 39 34 26 #[.slice A n c, .slice D m d] #[.int .u8 24, .string tx, .int .i64 nm, .int .u8 tk, .bool ng, .slice la ln lc, .string tt, .int .i64 tn, .slice ia im ic, .slice ta tm tc, .slice ka kn kc] #[.int .u8 kd', .bool ng', .slice la' ln' lc', .string tx', .int .i64 nm', .slice ia' im' ic', .slice ta' tn' tc']).1; have HP0 := hide (three_tblks w 39 34 26 #[.slice A n c, .slice D m d] #[.int .u8 24, .string tx, .int .i64 nm, .int .u8 tk, .bool ng, .slice la ln lc, .string tt, .int .i64 tn, .slice ia im ic, .slice ta tm tc, .slice ka kn kc] #[.int .u8 kd', .bool ng', .slice la' ln' lc', .string tx', .int .i64 nm', .slice ia' im' ic', .slice ta' tn' tc']).2.1; have HT0 := hide (three_tblks w 39 34 26 #[.slice A n c, .slice D m d] #[.int .u8 24, .string tx, .int .i64 nm, .int .u8 tk, .bool ng, .slice la ln lc, .string tt, .int .i64 tn, .slice ia im ic, .slice ta tm tc, .slice ka kn kc] #[.int .u8 kd', .bool ng', .slice la' ln' lc', .string tx', .int .i64 nm', .slice ia' im' ic', .slice ta' tn' tc']).2.2
  have H := hide h; have HMD := hide hmd; have HOV := hide hov; have HOT := hide hot; have HTR := hide htr; have HOTR := hide hotr; have HKR := hide hkr; have HKI := hide hkids; have HKC := hide hkc; have HOKC := hide hokc; have HIH := hide IH; have HT := hide ht
  have HNR := hide (show ∀ k, w.heap.size ≤ k → ¬ Rows2 A D k from fun k hk hr => by rcases hr with hr | hr; have := h.hb.lt hr; omega; have := h.hv.lt hr; omega)
  have HN := hide (show matchN (.mk 24 tx nm tr kids) (.mk kd' ng' limbs' tx' nm' items tail') v = none from by unfold matchN; rw [if_neg (by decide), if_neg (by decide), if_neg (by decide), if_neg (by decide), if_pos rfl]; exact if_neg h6)
  clear h hmd hov hot htr hotr hkr hkids hkc hokc IH ht
  go_enter Tryz.func28, Tryz.ntmps28
  go_upto_region 2 with fail
  generalize ((w.alloc (.cells #[.slice A n c, .slice D m d] 39)).alloc (.cells #[.int .u8 24, .string tx, .int .i64 nm, .int .u8 tk, .bool ng, .slice la ln lc, .string tt, .int .i64 tn, .slice ia im ic, .slice ta tm tc, .slice ka kn kc] 34)).alloc (.cells #[.int .u8 kd', .bool ng', .slice la' ln' lc', .string tx', .int .i64 nm', .slice ia' im' ic', .slice ta' tn' tc'] 26) = w0 at *
  have HS0 := hide (And.intro HV0.out.lt (And.intro HP0.out.lt HT0.out.lt))
  have p0 := HP0.out.cell 0; have p1 := HP0.out.cell 1; have p2 := HP0.out.cell 2; have p3 := HP0.out.cell 3; have p4 := HP0.out.cell 4; have p5 := HP0.out.cell 5; have p6 := HP0.out.cell 6; have p7 := HP0.out.cell 7; have p8 := HP0.out.cell 8; have p9 := HP0.out.cell 9; have p10 := HP0.out.cell 10
  obtain ⟨t0, t1, t2, t3, t4, t5, t6⟩ := Blk.c7 (show Blk w0 (w.heap.size + 1 + 1) _ #[.int .u8 kd', .bool ng', .slice la' ln' lc', .string tx', .int .i64 nm', .slice ia' im' ic', .slice ta' tn' tc'] from HT0.out)
  go_wp2_with fail
  go_ret
  exact ⟨false, css, v, rfl, H.out.keep HK0.out, fun h => (by cases h), fun _ => HN.out, HOV.out, HK0.out.mono (fun _ _ h => h.elim)⟩
set_option maxRecDepth 100000 in
set_option maxHeartbeats 4000000 in
theorem match_26 (tx : ByteArray) (nm tk : Int) (ng : Bool) (la : Option Addr) (ln lc : Nat) (tt : ByteArray) (tn : Int) (ia : Option Addr) (im ic : Nat) (ta : Option Addr) (tm tc : Nat) (ka : Option Addr) (kn kc : Nat) (kd' : Int) (ng' : Bool) (la' : Option Addr) (ln' lc' : Nat) (tx' : ByteArray) (nm' : Int) (ia' : Option Addr) (im' ic' : Nat) (ta' : Option Addr) (tn' tc' : Nat) (tr : Tm) (kids : List Co) (kcss : List (List Value)) (t : Tm) (v : VSt) (A : Option Addr) (n c : Nat) (D : Option Addr) (m d : Nat) (css : List (List Value)) (w : World) (h : VAt w A n c D m d css v) (hmd : v.made) (hov : okTs v.vals) (hot : okT t) (htr : TermIn w (Off A D) false [.int .u8 tk, .bool ng, .slice la ln lc, .string tt, .int .i64 tn, .slice ia im ic, .slice ta tm tc] tr) (hotr : okT tr) (hkr : Roomy kn 160) (hkids : Reads w (Off A D) false 11 ka kn kcss.flatten) (hkc : CoresIn w (Off A D) false kcss kids) (hokc : okCs kids) (IH : MSaid (Co.size.sizes kids)) (ht : TermIn w (Off A D) false [.int .u8 kd', .bool ng', .slice la' ln' lc', .string tx', .int .i64 nm', .slice ia' im' ic', .slice ta' tn' tc'] t) :
    Calls Tryz.prog 28 #[.agg #[.slice A n c, .slice D m d], .agg #[.int .u8 26, .string tx, .int .i64 nm, .int .u8 tk, .bool ng, .slice la ln lc, .string tt, .int .i64 tn, .slice ia im ic, .slice ta tm tc, .slice ka kn kc], .agg #[.int .u8 kd', .bool ng', .slice la' ln' lc', .string tx', .int .i64 nm', .slice ia' im' ic', .slice ta' tn' tc']] w (MatP w A n c D m d (matchN (.mk 26 tx nm tr kids) t v)) := by
  have HK0 := hide ((((Keeps.refl NoB w).alloc (.cells #[.slice A n c, .slice D m d] 39)).alloc (.cells #[.int .u8 26, .string tx, .int .i64 nm, .int .u8 tk, .bool ng, .slice la ln lc, .string tt, .int .i64 tn, .slice ia im ic, .slice ta tm tc, .slice ka kn kc] 34)).alloc (.cells #[.int .u8 kd', .bool ng', .slice la' ln' lc', .string tx', .int .i64 nm', .slice ia' im' ic', .slice ta' tn' tc'] 26))
  have HV0 := hide (three_tblks w 39 34 26 #[.slice A n c, .slice D m d] #[.int .u8 26, .string tx, .int .i64 nm, .int .u8 tk, .bool ng, .slice la ln lc, .string tt, .int .i64 tn, .slice ia im ic, .slice ta tm tc, .slice ka kn kc] #[.int .u8 kd', .bool ng', .slice la' ln' lc', .string tx', .int .i64 nm', .slice ia' im' ic', .slice ta' tn' tc']).1; have HP0 := hide (three_tblks w 39 34 26 #[.slice A n c, .slice D m d] #[.int .u8 26, .string tx, .int .i64 nm, .int .u8 tk, .bool ng, .slice la ln lc, .string tt, .int .i64 tn, .slice ia im ic, .slice ta tm tc, .slice ka kn kc] #[.int .u8 kd', .bool ng', .slice la' ln' lc', .string tx', .int .i64 nm', .slice ia' im' ic', .slice ta' tn' tc']).2.1; have HT0 := hide (three_tblks w 39 34 26 #[.slice A n c, .slice D m d] #[.int .u8 26, .string tx, .int .i64 nm, .int .u8 tk, .bool ng, .slice la ln lc, .string tt, .int .i64 tn, .slice ia im ic, .slice ta tm tc, .slice ka kn kc] #[.int .u8 kd', .bool ng', .slice la' ln' lc', .string tx', .int .i64 nm', .slice ia' im' ic', .slice ta' tn' tc']).2.2
  have H := hide h; have HMD := hide hmd; have HOV := hide hov; have HOT := hide hot; have HTR := hide htr; have HOTR := hide hotr; have HKR := hide hkr; have HKI := hide hkids; have HKC := hide hkc; have HOKC := hide hokc; have HIH := hide IH; have HT := hide ht
  have HNR := hide (show ∀ k, w.heap.size ≤ k → ¬ Rows2 A D k from fun k hk hr => by rcases hr with hr | hr; have := h.hb.lt hr; omega; have := h.hv.lt hr; omega)
  have HN := hide (show matchN (.mk 26 tx nm tr kids) t v = rowsN kids [t, t] v from by unfold matchN; rfl)
  have HSM := hide (show Roomy 2 104 from by unfold Roomy; omega)
  clear h hmd hov hot htr hotr hkr hkids hkc hokc IH ht
  go_enter Tryz.func28, Tryz.ntmps28
  go_upto_region 2 with fail
  generalize ((w.alloc (.cells #[.slice A n c, .slice D m d] 39)).alloc (.cells #[.int .u8 26, .string tx, .int .i64 nm, .int .u8 tk, .bool ng, .slice la ln lc, .string tt, .int .i64 tn, .slice ia im ic, .slice ta tm tc, .slice ka kn kc] 34)).alloc (.cells #[.int .u8 kd', .bool ng', .slice la' ln' lc', .string tx', .int .i64 nm', .slice ia' im' ic', .slice ta' tn' tc'] 26) = w0 at *
  have HS0 := hide (And.intro HV0.out.lt (And.intro HP0.out.lt HT0.out.lt))
  have HKA := hide (HK0.out.alloc (.cells #[.int .u8 kd', .bool ng', .slice la' ln' lc', .string tx', .int .i64 nm', .slice ia' im' ic', .slice ta' tn' tc', .int .u8 kd', .bool ng', .slice la' ln' lc', .string tx', .int .i64 nm', .slice ia' im' ic', .slice ta' tn' tc'] 26))
  have HBA := hide (Blk.new w0 26 #[.int .u8 kd', .bool ng', .slice la' ln' lc', .string tx', .int .i64 nm', .slice ia' im' ic', .slice ta' tn' tc', .int .u8 kd', .bool ng', .slice la' ln' lc', .string tx', .int .i64 nm', .slice ia' im' ic', .slice ta' tn' tc'])
  have HRA := hide (show Reads (w0.alloc (.cells #[.int .u8 kd', .bool ng', .slice la' ln' lc', .string tx', .int .i64 nm', .slice ia' im' ic', .slice ta' tn' tc', .int .u8 kd', .bool ng', .slice la' ln' lc', .string tx', .int .i64 nm', .slice ia' im' ic', .slice ta' tn' tc'] 26)) (Off A D) false 7 (some ⟨w0.heap.size, 0, none⟩) 2 [[.int .u8 kd', .bool ng', .slice la' ln' lc', .string tx', .int .i64 nm', .slice ia' im' ic', .slice ta' tn' tc'], [.int .u8 kd', .bool ng', .slice la' ln' lc', .string tx', .int .i64 nm', .slice ia' im' ic', .slice ta' tn' tc']].flatten from (two_tm_reads (xs := [.int .u8 kd', .bool ng', .slice la' ln' lc', .string tx', .int .i64 nm', .slice ia' im' ic', .slice ta' tn' tc']) (ys := [.int .u8 kd', .bool ng', .slice la' ln' lc', .string tx', .int .i64 nm', .slice ia' im' ic', .slice ta' tn' tc']) HBA.out rfl rfl).more (fun k _ e => by subst e; exact ⟨fun h => HNR.out _ HK0.out.size (.inl h), fun h => HNR.out _ HK0.out.size (.inr h)⟩))
  have HTA := hide (two_tm_terms (TermIn.keep HKA.out (fun _ _ => id) _ _ HT.out) (TermIn.keep HKA.out (fun _ _ => id) _ _ HT.out))
  have HO2 := hide (show okTs [t, t] from by unfold okTs okTs okTs; exact ⟨HOT.out, HOT.out, trivial⟩)
  have p0 := HP0.out.cell 0; have p1 := HP0.out.cell 1; have p2 := HP0.out.cell 2; have p3 := HP0.out.cell 3; have p4 := HP0.out.cell 4; have p5 := HP0.out.cell 5; have p6 := HP0.out.cell 6; have p7 := HP0.out.cell 7; have p8 := HP0.out.cell 8; have p9 := HP0.out.cell 9; have p10 := HP0.out.cell 10
  obtain ⟨t0, t1, t2, t3, t4, t5, t6⟩ := Blk.c7 (show Blk w0 (w.heap.size + 1 + 1) _ #[.int .u8 kd', .bool ng', .slice la' ln' lc', .string tx', .int .i64 nm', .slice ia' im' ic', .slice ta' tn' tc'] from HT0.out)
  go_wp2_with
    first
    | (go_at_call 45
       refine (rows_any (Co.size.sizes kids) HIH.out kids (Nat.le_refl _) [t, t] v A n c D m d css (w0.alloc (.cells #[.int .u8 kd', .bool ng', .slice la' ln' lc', .string tx', .int .i64 nm', .slice ia' im' ic', .slice ta' tn' tc', .int .u8 kd', .bool ng', .slice la' ln' lc', .string tx', .int .i64 nm', .slice ia' im' ic', .slice ta' tn' tc'] 26)) (H.out.keep HKA.out) HMD.out HOV.out HO2.out HOKC.out w.heap.size (HV0.out.alloc _) ka kn kc kcss (some ⟨w0.heap.size, 0, none⟩) 2 2 [[.int .u8 kd', .bool ng', .slice la' ln' lc', .string tx', .int .i64 nm', .slice ia' im' ic', .slice ta' tn' tc'], [.int .u8 kd', .bool ng', .slice la' ln' lc', .string tx', .int .i64 nm', .slice ia' im' ic', .slice ta' tn' tc']] (HKI.out.keep HKA.out (fun _ _ => id)) (CoresIn.keep HKA.out (fun _ _ => id) _ _ HKC.out) HRA.out HTA.out HKR.out HSM.out).mono ?_
       rintro e w1 ⟨b, css2, v2, rfl, q1, q2, q3, q4, q5⟩
       have HQ1 := hide q1; have HQ2 := hide q2; have HQ3 := hide q3; have HQ4 := hide q4
       have HKF := hide (((HKA.out).mono (fun _ _ h => h.elim) : Keeps (Rows2 A D) w (w0.alloc (.cells #[.int .u8 kd', .bool ng', .slice la' ln' lc', .string tx', .int .i64 nm', .slice ia' im' ic', .slice ta' tn' tc', .int .u8 kd', .bool ng', .slice la' ln' lc', .string tx', .int .i64 nm', .slice ia' im' ic', .slice ta' tn' tc'] 26))).trans' q5 (fun _ _ h => h) (fun _ _ h => h))
       clear q1 q2 q3 q4 q5)
    | fail
  go_ret
  exact ⟨b, css2, v2, rfl, HQ1.out, fun h => HN.out.trans (HQ2.out h), fun h => HN.out.trans (HQ3.out h), HQ4.out, HKF.out⟩
set_option maxRecDepth 100000 in
set_option maxHeartbeats 4000000 in
theorem match_25s (tx : ByteArray) (nm tk : Int) (ng : Bool) (la : Option Addr) (ln lc : Nat) (tt : ByteArray) (tn : Int) (ia : Option Addr) (im ic : Nat) (ta : Option Addr) (tm tc : Nat) (ka : Option Addr) (kn kc : Nat) (kd' : Int) (ng' : Bool) (la' : Option Addr) (ln' lc' : Nat) (tx' : ByteArray) (nm' : Int) (ia' : Option Addr) (im' ic' : Nat) (ta' : Option Addr) (tn' tc' : Nat) (tr : Tm) (kids : List Co) (kcss : List (List Value)) (t : Tm) (v : VSt) (A : Option Addr) (n c : Nat) (D : Option Addr) (m d : Nat) (css : List (List Value)) (w : World) (h : VAt w A n c D m d css v) (hmd : v.made) (hov : okTs v.vals) (hot : okT t) (htr : TermIn w (Off A D) false [.int .u8 tk, .bool ng, .slice la ln lc, .string tt, .int .i64 tn, .slice ia im ic, .slice ta tm tc] tr) (hotr : okT tr) (hkr : Roomy kn 160) (hkids : Reads w (Off A D) false 11 ka kn kcss.flatten) (hkc : CoresIn w (Off A D) false kcss kids) (hokc : okCs kids) (IH : MSaid (Co.size.sizes kids)) (ht : TermIn w (Off A D) false [.int .u8 kd', .bool ng', .slice la' ln' lc', .string tx', .int .i64 nm', .slice ia' im' ic', .slice ta' tn' tc'] t) (hh rr : Tm) (hs : splitT t = some (hh, rr)) (hoh : okT hh) (hor : okT rr) :
    Calls Tryz.prog 28 #[.agg #[.slice A n c, .slice D m d], .agg #[.int .u8 25, .string tx, .int .i64 nm, .int .u8 tk, .bool ng, .slice la ln lc, .string tt, .int .i64 tn, .slice ia im ic, .slice ta tm tc, .slice ka kn kc], .agg #[.int .u8 kd', .bool ng', .slice la' ln' lc', .string tx', .int .i64 nm', .slice ia' im' ic', .slice ta' tn' tc']] w (MatP w A n c D m d (matchN (.mk 25 tx nm tr kids) t v)) := by
  have HK0 := hide ((((Keeps.refl NoB w).alloc (.cells #[.slice A n c, .slice D m d] 39)).alloc (.cells #[.int .u8 25, .string tx, .int .i64 nm, .int .u8 tk, .bool ng, .slice la ln lc, .string tt, .int .i64 tn, .slice ia im ic, .slice ta tm tc, .slice ka kn kc] 34)).alloc (.cells #[.int .u8 kd', .bool ng', .slice la' ln' lc', .string tx', .int .i64 nm', .slice ia' im' ic', .slice ta' tn' tc'] 26))
  have HV0 := hide (three_tblks w 39 34 26 #[.slice A n c, .slice D m d] #[.int .u8 25, .string tx, .int .i64 nm, .int .u8 tk, .bool ng, .slice la ln lc, .string tt, .int .i64 tn, .slice ia im ic, .slice ta tm tc, .slice ka kn kc] #[.int .u8 kd', .bool ng', .slice la' ln' lc', .string tx', .int .i64 nm', .slice ia' im' ic', .slice ta' tn' tc']).1; have HP0 := hide (three_tblks w 39 34 26 #[.slice A n c, .slice D m d] #[.int .u8 25, .string tx, .int .i64 nm, .int .u8 tk, .bool ng, .slice la ln lc, .string tt, .int .i64 tn, .slice ia im ic, .slice ta tm tc, .slice ka kn kc] #[.int .u8 kd', .bool ng', .slice la' ln' lc', .string tx', .int .i64 nm', .slice ia' im' ic', .slice ta' tn' tc']).2.1; have HT0 := hide (three_tblks w 39 34 26 #[.slice A n c, .slice D m d] #[.int .u8 25, .string tx, .int .i64 nm, .int .u8 tk, .bool ng, .slice la ln lc, .string tt, .int .i64 tn, .slice ia im ic, .slice ta tm tc, .slice ka kn kc] #[.int .u8 kd', .bool ng', .slice la' ln' lc', .string tx', .int .i64 nm', .slice ia' im' ic', .slice ta' tn' tc']).2.2
  have H := hide h; have HMD := hide hmd; have HOV := hide hov; have HOT := hide hot; have HTR := hide htr; have HOTR := hide hotr; have HKR := hide hkr; have HKI := hide hkids; have HKC := hide hkc; have HOKC := hide hokc; have HIH := hide IH; have HT := hide ht
  have HNR := hide (show ∀ k, w.heap.size ≤ k → ¬ Rows2 A D k from fun k hk hr => by rcases hr with hr | hr; have := h.hb.lt hr; omega; have := h.hv.lt hr; omega)
  have HN := hide (show matchN (.mk 25 tx nm tr kids) t v = rowsN kids [hh, rr] v from by unfold matchN; rw [if_neg (by decide), if_neg (by decide), if_neg (by decide), if_neg (by decide), if_neg (by decide), if_pos rfl, hs])
  have HSM := hide (show Roomy 2 104 from by unfold Roomy; omega)
  have HSP := hide hs; have HO2 := hide (show okTs [hh, rr] from by unfold okTs okTs okTs; exact ⟨hoh, hor, trivial⟩)
  clear hs hoh hor
  clear h hmd hov hot htr hotr hkr hkids hkc hokc IH ht
  go_enter Tryz.func28, Tryz.ntmps28
  go_upto_region 2 with fail
  generalize ((w.alloc (.cells #[.slice A n c, .slice D m d] 39)).alloc (.cells #[.int .u8 25, .string tx, .int .i64 nm, .int .u8 tk, .bool ng, .slice la ln lc, .string tt, .int .i64 tn, .slice ia im ic, .slice ta tm tc, .slice ka kn kc] 34)).alloc (.cells #[.int .u8 kd', .bool ng', .slice la' ln' lc', .string tx', .int .i64 nm', .slice ia' im' ic', .slice ta' tn' tc'] 26) = w0 at *
  have HS0 := hide (And.intro HV0.out.lt (And.intro HP0.out.lt HT0.out.lt))
  have z0 := HP0.out.cell 0; have z1 := HP0.out.cell 1; have z2 := HP0.out.cell 2; have z3 := HP0.out.cell 3; have z4 := HP0.out.cell 4; have z5 := HP0.out.cell 5; have z6 := HP0.out.cell 6; have z7 := HP0.out.cell 7; have z8 := HP0.out.cell 8; have z9 := HP0.out.cell 9; have z10 := HP0.out.cell 10
  obtain ⟨t0, t1, t2, t3, t4, t5, t6⟩ := Blk.c7 (show Blk w0 (w.heap.size + 1 + 1) _ #[.int .u8 kd', .bool ng', .slice la' ln' lc', .string tx', .int .i64 nm', .slice ia' im' ic', .slice ta' tn' tc'] from HT0.out)
  go_upto_region 19 with
    first
    | (go_at_call 25
       refine (split_some t hh rr HSP.out w0 _ _ _ _ _ _ _ _ _ _ _ _ _ _ _ (TermIn.keep HK0.out (fun _ _ => id) _ _ HT.out)).mono ?_
       rintro e w1 ⟨k1, g1, a1, n1, c1, s1, m1, a2, n2, c2, a3, n3, c3, k2, g2, b1, p1, d1, s2, m2, b2, p2, d2, b3, p3, d3, rfl, hth, htr2, hk1⟩
       have HTH := hide hth; have HTR2 := hide htr2; have HK1 := hide hk1
       clear hth htr2 hk1)
    | fail
  have HB1 := hide (two_tblks w1 26 26 #[.int .u8 k1, .bool g1, .slice a1 n1 c1, .string s1, .int .i64 m1, .slice a2 n2 c2, .slice a3 n3 c3] #[.int .u8 k2, .bool g2, .slice b1 p1 d1, .string s2, .int .i64 m2, .slice b2 p2 d2, .slice b3 p3 d3]).1; have HB2 := hide (two_tblks w1 26 26 #[.int .u8 k1, .bool g1, .slice a1 n1 c1, .string s1, .int .i64 m1, .slice a2 n2 c2, .slice a3 n3 c3] #[.int .u8 k2, .bool g2, .slice b1 p1 d1, .string s2, .int .i64 m2, .slice b2 p2 d2, .slice b3 p3 d3]).2
  have HK2 := hide (((Keeps.refl NoB w1).alloc (.cells #[.int .u8 k1, .bool g1, .slice a1 n1 c1, .string s1, .int .i64 m1, .slice a2 n2 c2, .slice a3 n3 c3] 26)).alloc (.cells #[.int .u8 k2, .bool g2, .slice b1 p1 d1, .string s2, .int .i64 m2, .slice b2 p2 d2, .slice b3 p3 d3] 26))
  generalize (w1.alloc (.cells #[.int .u8 k1, .bool g1, .slice a1 n1 c1, .string s1, .int .i64 m1, .slice a2 n2 c2, .slice a3 n3 c3] 26)).alloc (.cells #[.int .u8 k2, .bool g2, .slice b1 p1 d1, .string s2, .int .i64 m2, .slice b2 p2 d2, .slice b3 p3 d3] 26) = w2 at *
  have HKB := hide ((HK0.out.trans' HK1.out (fun _ _ => id) (fun _ _ => id) : Keeps NoB w w1).trans' HK2.out (fun _ _ => id) (fun _ _ => id) : Keeps NoB w w2)
  have HKA := hide (HKB.out.alloc (.cells #[.int .u8 k1, .bool g1, .slice a1 n1 c1, .string s1, .int .i64 m1, .slice a2 n2 c2, .slice a3 n3 c3, .int .u8 k2, .bool g2, .slice b1 p1 d1, .string s2, .int .i64 m2, .slice b2 p2 d2, .slice b3 p3 d3] 26))
  have HBA := hide (Blk.new w2 26 #[.int .u8 k1, .bool g1, .slice a1 n1 c1, .string s1, .int .i64 m1, .slice a2 n2 c2, .slice a3 n3 c3, .int .u8 k2, .bool g2, .slice b1 p1 d1, .string s2, .int .i64 m2, .slice b2 p2 d2, .slice b3 p3 d3])
  have hoff : ∀ k, Above w0 k → Off A D k := fun k hk => by have hz := HK0.out.size; unfold Above at hk; exact ⟨fun h => HNR.out _ (by omega) (.inl h), fun h => HNR.out _ (by omega) (.inr h)⟩
  have HRA := hide (show Reads (w2.alloc (.cells #[.int .u8 k1, .bool g1, .slice a1 n1 c1, .string s1, .int .i64 m1, .slice a2 n2 c2, .slice a3 n3 c3, .int .u8 k2, .bool g2, .slice b1 p1 d1, .string s2, .int .i64 m2, .slice b2 p2 d2, .slice b3 p3 d3] 26)) (Off A D) false 7 (some ⟨w2.heap.size, 0, none⟩) 2 [[.int .u8 k1, .bool g1, .slice a1 n1 c1, .string s1, .int .i64 m1, .slice a2 n2 c2, .slice a3 n3 c3], [.int .u8 k2, .bool g2, .slice b1 p1 d1, .string s2, .int .i64 m2, .slice b2 p2 d2, .slice b3 p3 d3]].flatten from (two_tm_reads (xs := [.int .u8 k1, .bool g1, .slice a1 n1 c1, .string s1, .int .i64 m1, .slice a2 n2 c2, .slice a3 n3 c3]) (ys := [.int .u8 k2, .bool g2, .slice b1 p1 d1, .string s2, .int .i64 m2, .slice b2 p2 d2, .slice b3 p3 d3]) HBA.out rfl rfl).more (fun k _ e => by subst e; exact ⟨fun h => HNR.out _ HKB.out.size (.inl h), fun h => HNR.out _ HKB.out.size (.inr h)⟩))
  have HTA := hide (two_tm_terms (TermIn.more (fun k _ hk => hoff k hk) _ _ (TermIn.keep (HK2.out.alloc (.cells #[.int .u8 k1, .bool g1, .slice a1 n1 c1, .string s1, .int .i64 m1, .slice a2 n2 c2, .slice a3 n3 c3, .int .u8 k2, .bool g2, .slice b1 p1 d1, .string s2, .int .i64 m2, .slice b2 p2 d2, .slice b3 p3 d3] 26)) (fun _ _ => id) _ _ HTH.out)) (TermIn.more (fun k _ hk => hoff k hk) _ _ (TermIn.keep (HK2.out.alloc (.cells #[.int .u8 k1, .bool g1, .slice a1 n1 c1, .string s1, .int .i64 m1, .slice a2 n2 c2, .slice a3 n3 c3, .int .u8 k2, .bool g2, .slice b1 p1 d1, .string s2, .int .i64 m2, .slice b2 p2 d2, .slice b3 p3 d3] 26)) (fun _ _ => id) _ _ HTR2.out)))
  have HVV := hide ((HV0.out.keep HK1.out id).keep HK2.out id); have HPP := hide ((HP0.out.keep HK1.out id).keep HK2.out id)
  clear hoff z0 z1 z2 z3 z4 z5 z6 z7 z8 z9 z10 t0 t1 t2 t3 t4 t5 t6
  have p10 := HPP.out.cell 10
  obtain ⟨x0, x1, x2, x3, x4, x5, x6⟩ := Blk.c7 (show Blk w2 (w1.heap.size) _ #[.int .u8 k1, .bool g1, .slice a1 n1 c1, .string s1, .int .i64 m1, .slice a2 n2 c2, .slice a3 n3 c3] from HB1.out)
  obtain ⟨y0, y1, y2, y3, y4, y5, y6⟩ := Blk.c7 (show Blk w2 (w1.heap.size + 1) _ #[.int .u8 k2, .bool g2, .slice b1 p1 d1, .string s2, .int .i64 m2, .slice b2 p2 d2, .slice b3 p3 d3] from HB2.out)
  go_wp2_with
    first
    | (go_at_call 45
       refine (rows_any (Co.size.sizes kids) HIH.out kids (Nat.le_refl _) [hh, rr] v A n c D m d css (w2.alloc (.cells #[.int .u8 k1, .bool g1, .slice a1 n1 c1, .string s1, .int .i64 m1, .slice a2 n2 c2, .slice a3 n3 c3, .int .u8 k2, .bool g2, .slice b1 p1 d1, .string s2, .int .i64 m2, .slice b2 p2 d2, .slice b3 p3 d3] 26)) (H.out.keep HKA.out) HMD.out HOV.out HO2.out HOKC.out w.heap.size (HVV.out.alloc _) ka kn kc kcss (some ⟨w2.heap.size, 0, none⟩) 2 2 [[.int .u8 k1, .bool g1, .slice a1 n1 c1, .string s1, .int .i64 m1, .slice a2 n2 c2, .slice a3 n3 c3], [.int .u8 k2, .bool g2, .slice b1 p1 d1, .string s2, .int .i64 m2, .slice b2 p2 d2, .slice b3 p3 d3]] (HKI.out.keep HKA.out (fun _ _ => id)) (CoresIn.keep HKA.out (fun _ _ => id) _ _ HKC.out) HRA.out HTA.out HKR.out HSM.out).mono ?_
       rintro e w3 ⟨b, css2, v2, rfl, q1, q2, q3, q4, q5⟩
       have HQ1 := hide q1; have HQ2 := hide q2; have HQ3 := hide q3; have HQ4 := hide q4
       have HKF := hide (((HKA.out).mono (fun _ _ h => h.elim) : Keeps (Rows2 A D) w (w2.alloc (.cells #[.int .u8 k1, .bool g1, .slice a1 n1 c1, .string s1, .int .i64 m1, .slice a2 n2 c2, .slice a3 n3 c3, .int .u8 k2, .bool g2, .slice b1 p1 d1, .string s2, .int .i64 m2, .slice b2 p2 d2, .slice b3 p3 d3] 26))).trans' q5 (fun _ _ h => h) (fun _ _ h => h))
       clear q1 q2 q3 q4 q5)
    | fail
  go_ret
  exact ⟨b, css2, v2, rfl, HQ1.out, fun h => HN.out.trans (HQ2.out h), fun h => HN.out.trans (HQ3.out h), HQ4.out, HKF.out⟩
set_option maxRecDepth 100000 in
set_option maxHeartbeats 4000000 in
theorem match_25n (tx : ByteArray) (nm tk : Int) (ng : Bool) (la : Option Addr) (ln lc : Nat) (tt : ByteArray) (tn : Int) (ia : Option Addr) (im ic : Nat) (ta : Option Addr) (tm tc : Nat) (ka : Option Addr) (kn kc : Nat) (kd' : Int) (ng' : Bool) (la' : Option Addr) (ln' lc' : Nat) (tx' : ByteArray) (nm' : Int) (ia' : Option Addr) (im' ic' : Nat) (ta' : Option Addr) (tn' tc' : Nat) (tr : Tm) (kids : List Co) (kcss : List (List Value)) (t : Tm) (v : VSt) (A : Option Addr) (n c : Nat) (D : Option Addr) (m d : Nat) (css : List (List Value)) (w : World) (h : VAt w A n c D m d css v) (hmd : v.made) (hov : okTs v.vals) (hot : okT t) (htr : TermIn w (Off A D) false [.int .u8 tk, .bool ng, .slice la ln lc, .string tt, .int .i64 tn, .slice ia im ic, .slice ta tm tc] tr) (hotr : okT tr) (hkr : Roomy kn 160) (hkids : Reads w (Off A D) false 11 ka kn kcss.flatten) (hkc : CoresIn w (Off A D) false kcss kids) (hokc : okCs kids) (IH : MSaid (Co.size.sizes kids)) (ht : TermIn w (Off A D) false [.int .u8 kd', .bool ng', .slice la' ln' lc', .string tx', .int .i64 nm', .slice ia' im' ic', .slice ta' tn' tc'] t) (hs : splitT t = none) :
    Calls Tryz.prog 28 #[.agg #[.slice A n c, .slice D m d], .agg #[.int .u8 25, .string tx, .int .i64 nm, .int .u8 tk, .bool ng, .slice la ln lc, .string tt, .int .i64 tn, .slice ia im ic, .slice ta tm tc, .slice ka kn kc], .agg #[.int .u8 kd', .bool ng', .slice la' ln' lc', .string tx', .int .i64 nm', .slice ia' im' ic', .slice ta' tn' tc']] w (MatP w A n c D m d (matchN (.mk 25 tx nm tr kids) t v)) := by
  have HK0 := hide ((((Keeps.refl NoB w).alloc (.cells #[.slice A n c, .slice D m d] 39)).alloc (.cells #[.int .u8 25, .string tx, .int .i64 nm, .int .u8 tk, .bool ng, .slice la ln lc, .string tt, .int .i64 tn, .slice ia im ic, .slice ta tm tc, .slice ka kn kc] 34)).alloc (.cells #[.int .u8 kd', .bool ng', .slice la' ln' lc', .string tx', .int .i64 nm', .slice ia' im' ic', .slice ta' tn' tc'] 26))
  have HV0 := hide (three_tblks w 39 34 26 #[.slice A n c, .slice D m d] #[.int .u8 25, .string tx, .int .i64 nm, .int .u8 tk, .bool ng, .slice la ln lc, .string tt, .int .i64 tn, .slice ia im ic, .slice ta tm tc, .slice ka kn kc] #[.int .u8 kd', .bool ng', .slice la' ln' lc', .string tx', .int .i64 nm', .slice ia' im' ic', .slice ta' tn' tc']).1; have HP0 := hide (three_tblks w 39 34 26 #[.slice A n c, .slice D m d] #[.int .u8 25, .string tx, .int .i64 nm, .int .u8 tk, .bool ng, .slice la ln lc, .string tt, .int .i64 tn, .slice ia im ic, .slice ta tm tc, .slice ka kn kc] #[.int .u8 kd', .bool ng', .slice la' ln' lc', .string tx', .int .i64 nm', .slice ia' im' ic', .slice ta' tn' tc']).2.1; have HT0 := hide (three_tblks w 39 34 26 #[.slice A n c, .slice D m d] #[.int .u8 25, .string tx, .int .i64 nm, .int .u8 tk, .bool ng, .slice la ln lc, .string tt, .int .i64 tn, .slice ia im ic, .slice ta tm tc, .slice ka kn kc] #[.int .u8 kd', .bool ng', .slice la' ln' lc', .string tx', .int .i64 nm', .slice ia' im' ic', .slice ta' tn' tc']).2.2
  have H := hide h; have HMD := hide hmd; have HOV := hide hov; have HOT := hide hot; have HTR := hide htr; have HOTR := hide hotr; have HKR := hide hkr; have HKI := hide hkids; have HKC := hide hkc; have HOKC := hide hokc; have HIH := hide IH; have HT := hide ht
  have HNR := hide (show ∀ k, w.heap.size ≤ k → ¬ Rows2 A D k from fun k hk hr => by rcases hr with hr | hr; have := h.hb.lt hr; omega; have := h.hv.lt hr; omega)
  have HN := hide (show matchN (.mk 25 tx nm tr kids) t v = none from by unfold matchN; rw [if_neg (by decide), if_neg (by decide), if_neg (by decide), if_neg (by decide), if_neg (by decide), if_pos rfl, hs])
  have HSP := hide hs
  clear hs
  clear h hmd hov hot htr hotr hkr hkids hkc hokc IH ht
  go_enter Tryz.func28, Tryz.ntmps28
  go_upto_region 2 with fail
  generalize ((w.alloc (.cells #[.slice A n c, .slice D m d] 39)).alloc (.cells #[.int .u8 25, .string tx, .int .i64 nm, .int .u8 tk, .bool ng, .slice la ln lc, .string tt, .int .i64 tn, .slice ia im ic, .slice ta tm tc, .slice ka kn kc] 34)).alloc (.cells #[.int .u8 kd', .bool ng', .slice la' ln' lc', .string tx', .int .i64 nm', .slice ia' im' ic', .slice ta' tn' tc'] 26) = w0 at *
  have HS0 := hide (And.intro HV0.out.lt (And.intro HP0.out.lt HT0.out.lt))
  have p0 := HP0.out.cell 0; have p1 := HP0.out.cell 1; have p2 := HP0.out.cell 2; have p3 := HP0.out.cell 3; have p4 := HP0.out.cell 4; have p5 := HP0.out.cell 5; have p6 := HP0.out.cell 6; have p7 := HP0.out.cell 7; have p8 := HP0.out.cell 8; have p9 := HP0.out.cell 9; have p10 := HP0.out.cell 10
  obtain ⟨t0, t1, t2, t3, t4, t5, t6⟩ := Blk.c7 (show Blk w0 (w.heap.size + 1 + 1) _ #[.int .u8 kd', .bool ng', .slice la' ln' lc', .string tx', .int .i64 nm', .slice ia' im' ic', .slice ta' tn' tc'] from HT0.out)
  go_wp2_with
    first
    | (go_at_call 25
       refine (split_none t HSP.out w0 _ _ _ _ _ _ _ _ _ _ _ _ _ _ _ (TermIn.keep HK0.out (fun _ _ => id) _ _ HT.out)).mono ?_
       rintro e w1 ⟨rfl, hk1⟩
       have HK1 := hide (((HK0.out.trans' hk1 (fun _ _ => id) (fun _ _ => id) : Keeps NoB w w1).alloc (.cells #[.int .u8 0, .bool false, .slice none 0 0, .string ⟨#[]⟩, .int .i64 0, .slice none 0 0, .slice none 0 0] 26)).alloc (.cells #[.int .u8 0, .bool false, .slice none 0 0, .string ⟨#[]⟩, .int .i64 0, .slice none 0 0, .slice none 0 0] 26))
       clear hk1)
    | fail
  go_ret
  exact ⟨false, css, v, rfl, H.out.keep HK1.out, fun h => (by cases h), fun _ => HN.out, HOV.out, HK1.out.mono (fun _ _ h => h.elim)⟩
end Go.Proofs.YtjdbjjjbgibpaaaGreatDoor
