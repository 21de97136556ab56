/- match: a pattern that binds; all kinds. Printed by mkmatb.py. match.Match. Printed by mkmatt.py. -/
import Derived.Test.YtjdbjjjbgibpaaaGreatDoorMatMJn
namespace Go.Proofs.YtjdbjjjbgibpaaaGreatDoor
open Go.RowKit

theorem okTs_set : ∀ {ts : List Tm} (i : Nat) {t : Tm}, okTs ts → okT t → okTs (ts.set i t)
  | [], _, _, h, _ => by simpa using h
  | u :: ts, 0, t, h, h2 => by unfold okTs at h; rw [List.set_cons_zero]; unfold okTs; exact ⟨h2, h.2⟩
  | u :: ts, i + 1, t, h, h2 => by unfold okTs at h; rw [List.set_cons_succ]; unfold okTs; exact ⟨h.1, okTs_set i h.2 h2⟩
set_option maxRecDepth 100000 in
set_option maxHeartbeats 4000000 in
theorem match_21a (tx : ByteArray) (nm tk : Int) (ng : Bool) (la : Option Addr) (ln lc : Nat) (tt : ByteArray) (tn : Int) (ia : Option Addr) (im ic : Nat) (ta : Option Addr) (tm tc : Nat) (ka : Option Addr) (kn kc : Nat) (kd' : Int) (ng' : Bool) (la' : Option Addr) (ln' lc' : Nat) (tx' : ByteArray) (nm' : Int) (ia' : Option Addr) (im' ic' : Nat) (ta' : Option Addr) (tn' tc' : Nat) (tr : Tm) (kids : List Co) (kcss : List (List Value)) (t : Tm) (v : VSt) (A : Option Addr) (n c : Nat) (D : Option Addr) (m d : Nat) (css : List (List Value)) (w : World) (h : VAt w A n c D m d css v) (hmd : v.made) (hov : okTs v.vals) (hot : okT t) (htr : TermIn w (Off A D) false [.int .u8 tk, .bool ng, .slice la ln lc, .string tt, .int .i64 tn, .slice ia im ic, .slice ta tm tc] tr) (hotr : okT tr) (hkr : Roomy kn 160) (hkids : Reads w (Off A D) false 11 ka kn kcss.flatten) (hkc : CoresIn w (Off A D) false kcss kids) (hokc : okCs kids) (IH : MSaid (Co.size.sizes kids)) (ht : TermIn w (Off A D) false [.int .u8 kd', .bool ng', .slice la' ln' lc', .string tx', .int .i64 nm', .slice ia' im' ic', .slice ta' tn' tc'] t) (hlow : nm < 0) :
    Calls Tryz.prog 28 #[.agg #[.slice A n c, .slice D m d], .agg #[.int .u8 21, .string tx, .int .i64 nm, .int .u8 tk, .bool ng, .slice la ln lc, .string tt, .int .i64 tn, .slice ia im ic, .slice ta tm tc, .slice ka kn kc], .agg #[.int .u8 kd', .bool ng', .slice la' ln' lc', .string tx', .int .i64 nm', .slice ia' im' ic', .slice ta' tn' tc']] w (MatP w A n c D m d (matchN (.mk 21 tx nm tr kids) t v)) := by
  have HK0 := hide ((((Keeps.refl NoB w).alloc (.cells #[.slice A n c, .slice D m d] 39)).alloc (.cells #[.int .u8 21, .string tx, .int .i64 nm, .int .u8 tk, .bool ng, .slice la ln lc, .string tt, .int .i64 tn, .slice ia im ic, .slice ta tm tc, .slice ka kn kc] 34)).alloc (.cells #[.int .u8 kd', .bool ng', .slice la' ln' lc', .string tx', .int .i64 nm', .slice ia' im' ic', .slice ta' tn' tc'] 26))
  have HV0 := hide (three_tblks w 39 34 26 #[.slice A n c, .slice D m d] #[.int .u8 21, .string tx, .int .i64 nm, .int .u8 tk, .bool ng, .slice la ln lc, .string tt, .int .i64 tn, .slice ia im ic, .slice ta tm tc, .slice ka kn kc] #[.int .u8 kd', .bool ng', .slice la' ln' lc', .string tx', .int .i64 nm', .slice ia' im' ic', .slice ta' tn' tc']).1; have HP0 := hide (three_tblks w 39 34 26 #[.slice A n c, .slice D m d] #[.int .u8 21, .string tx, .int .i64 nm, .int .u8 tk, .bool ng, .slice la ln lc, .string tt, .int .i64 tn, .slice ia im ic, .slice ta tm tc, .slice ka kn kc] #[.int .u8 kd', .bool ng', .slice la' ln' lc', .string tx', .int .i64 nm', .slice ia' im' ic', .slice ta' tn' tc']).2.1; have HT0 := hide (three_tblks w 39 34 26 #[.slice A n c, .slice D m d] #[.int .u8 21, .string tx, .int .i64 nm, .int .u8 tk, .bool ng, .slice la ln lc, .string tt, .int .i64 tn, .slice ia im ic, .slice ta tm tc, .slice ka kn kc] #[.int .u8 kd', .bool ng', .slice la' ln' lc', .string tx', .int .i64 nm', .slice ia' im' ic', .slice ta' tn' tc']).2.2
  have H := hide h; have HMD := hide hmd; have HOV := hide hov; have HOT := hide hot; have HTR := hide htr; have HOTR := hide hotr; have HKR := hide hkr; have HKI := hide hkids; have HKC := hide hkc; have HOKC := hide hokc; have HIH := hide IH; have HT := hide ht
  have HNR := hide (show ∀ k, w.heap.size ≤ k → ¬ Rows2 A D k from fun k hk hr => by rcases hr with hr | hr; have := h.hb.lt hr; omega; have := h.hv.lt hr; omega)
  have HN := hide (show matchN (.mk 21 tx nm tr kids) t v = none from by unfold matchN; rw [if_neg (by decide), if_pos rfl]; exact if_pos (.inl hlow))
  clear h hmd hov hot htr hotr hkr hkids hkc hokc IH ht
  go_enter Tryz.func28, Tryz.ntmps28
  go_upto_region 2 with fail
  generalize ((w.alloc (.cells #[.slice A n c, .slice D m d] 39)).alloc (.cells #[.int .u8 21, .string tx, .int .i64 nm, .int .u8 tk, .bool ng, .slice la ln lc, .string tt, .int .i64 tn, .slice ia im ic, .slice ta tm tc, .slice ka kn kc] 34)).alloc (.cells #[.int .u8 kd', .bool ng', .slice la' ln' lc', .string tx', .int .i64 nm', .slice ia' im' ic', .slice ta' tn' tc'] 26) = w0 at *
  have HS0 := hide (And.intro HV0.out.lt (And.intro HP0.out.lt HT0.out.lt))
  have p0 := HP0.out.cell 0; have p1 := HP0.out.cell 1; have p2 := HP0.out.cell 2; have p3 := HP0.out.cell 3; have p4 := HP0.out.cell 4; have p5 := HP0.out.cell 5; have p6 := HP0.out.cell 6; have p7 := HP0.out.cell 7; have p8 := HP0.out.cell 8; have p9 := HP0.out.cell 9; have p10 := HP0.out.cell 10
  have v0 := HV0.out.cell 0; have v1 := HV0.out.cell 1
  go_wp2_with fail
  go_ret
  exact ⟨false, css, v, rfl, H.out.keep HK0.out, fun h => (by cases h), fun _ => HN.out, HOV.out, HK0.out.mono (fun _ _ h => h.elim)⟩
set_option maxRecDepth 100000 in
set_option maxHeartbeats 4000000 in
theorem match_21b (tx : ByteArray) (nm tk : Int) (ng : Bool) (la : Option Addr) (ln lc : Nat) (tt : ByteArray) (tn : Int) (ia : Option Addr) (im ic : Nat) (ta : Option Addr) (tm tc : Nat) (ka : Option Addr) (kn kc : Nat) (kd' : Int) (ng' : Bool) (la' : Option Addr) (ln' lc' : Nat) (tx' : ByteArray) (nm' : Int) (ia' : Option Addr) (im' ic' : Nat) (ta' : Option Addr) (tn' tc' : Nat) (tr : Tm) (kids : List Co) (kcss : List (List Value)) (t : Tm) (v : VSt) (A : Option Addr) (n c : Nat) (D : Option Addr) (m d : Nat) (css : List (List Value)) (w : World) (h : VAt w A n c D m d css v) (hmd : v.made) (hov : okTs v.vals) (hot : okT t) (htr : TermIn w (Off A D) false [.int .u8 tk, .bool ng, .slice la ln lc, .string tt, .int .i64 tn, .slice ia im ic, .slice ta tm tc] tr) (hotr : okT tr) (hkr : Roomy kn 160) (hkids : Reads w (Off A D) false 11 ka kn kcss.flatten) (hkc : CoresIn w (Off A D) false kcss kids) (hokc : okCs kids) (IH : MSaid (Co.size.sizes kids)) (ht : TermIn w (Off A D) false [.int .u8 kd', .bool ng', .slice la' ln' lc', .string tx', .int .i64 nm', .slice ia' im' ic', .slice ta' tn' tc'] t) (hlow : ¬ nm < 0) (hbig : (n : Int) ≤ nm) :
    Calls Tryz.prog 28 #[.agg #[.slice A n c, .slice D m d], .agg #[.int .u8 21, .string tx, .int .i64 nm, .int .u8 tk, .bool ng, .slice la ln lc, .string tt, .int .i64 tn, .slice ia im ic, .slice ta tm tc, .slice ka kn kc], .agg #[.int .u8 kd', .bool ng', .slice la' ln' lc', .string tx', .int .i64 nm', .slice ia' im' ic', .slice ta' tn' tc']] w (MatP w A n c D m d (matchN (.mk 21 tx nm tr kids) t v)) := by
  have hn63 : n ≤ 9223372036854775807 := by have := h.r1; unfold Roomy at this; omega
  have HK0 := hide ((((Keeps.refl NoB w).alloc (.cells #[.slice A n c, .slice D m d] 39)).alloc (.cells #[.int .u8 21, .string tx, .int .i64 nm, .int .u8 tk, .bool ng, .slice la ln lc, .string tt, .int .i64 tn, .slice ia im ic, .slice ta tm tc, .slice ka kn kc] 34)).alloc (.cells #[.int .u8 kd', .bool ng', .slice la' ln' lc', .string tx', .int .i64 nm', .slice ia' im' ic', .slice ta' tn' tc'] 26))
  have HV0 := hide (three_tblks w 39 34 26 #[.slice A n c, .slice D m d] #[.int .u8 21, .string tx, .int .i64 nm, .int .u8 tk, .bool ng, .slice la ln lc, .string tt, .int .i64 tn, .slice ia im ic, .slice ta tm tc, .slice ka kn kc] #[.int .u8 kd', .bool ng', .slice la' ln' lc', .string tx', .int .i64 nm', .slice ia' im' ic', .slice ta' tn' tc']).1; have HP0 := hide (three_tblks w 39 34 26 #[.slice A n c, .slice D m d] #[.int .u8 21, .string tx, .int .i64 nm, .int .u8 tk, .bool ng, .slice la ln lc, .string tt, .int .i64 tn, .slice ia im ic, .slice ta tm tc, .slice ka kn kc] #[.int .u8 kd', .bool ng', .slice la' ln' lc', .string tx', .int .i64 nm', .slice ia' im' ic', .slice ta' tn' tc']).2.1; have HT0 := hide (three_tblks w 39 34 26 #[.slice A n c, .slice D m d] #[.int .u8 21, .string tx, .int .i64 nm, .int .u8 tk, .bool ng, .slice la ln lc, .string tt, .int .i64 tn, .slice ia im ic, .slice ta tm tc, .slice ka kn kc] #[.int .u8 kd', .bool ng', .slice la' ln' lc', .string tx', .int .i64 nm', .slice ia' im' ic', .slice ta' tn' tc']).2.2
  have H := hide h; have HMD := hide hmd; have HOV := hide hov; have HOT := hide hot; have HTR := hide htr; have HOTR := hide hotr; have HKR := hide hkr; have HKI := hide hkids; have HKC := hide hkc; have HOKC := hide hokc; have HIH := hide IH; have HT := hide ht
  have HNR := hide (show ∀ k, w.heap.size ≤ k → ¬ Rows2 A D k from fun k hk hr => by rcases hr with hr | hr; have := h.hb.lt hr; omega; have := h.hv.lt hr; omega)
  have HN := hide (show matchN (.mk 21 tx nm tr kids) t v = none from by unfold matchN; rw [if_neg (by decide), if_pos rfl]; exact if_pos (.inr (by have := H.out.nh; omega)))
  clear h hmd hov hot htr hotr hkr hkids hkc hokc IH ht
  go_enter Tryz.func28, Tryz.ntmps28
  go_upto_region 2 with fail
  generalize ((w.alloc (.cells #[.slice A n c, .slice D m d] 39)).alloc (.cells #[.int .u8 21, .string tx, .int .i64 nm, .int .u8 tk, .bool ng, .slice la ln lc, .string tt, .int .i64 tn, .slice ia im ic, .slice ta tm tc, .slice ka kn kc] 34)).alloc (.cells #[.int .u8 kd', .bool ng', .slice la' ln' lc', .string tx', .int .i64 nm', .slice ia' im' ic', .slice ta' tn' tc'] 26) = w0 at *
  have HS0 := hide (And.intro HV0.out.lt (And.intro HP0.out.lt HT0.out.lt))
  have p0 := HP0.out.cell 0; have p1 := HP0.out.cell 1; have p2 := HP0.out.cell 2; have p3 := HP0.out.cell 3; have p4 := HP0.out.cell 4; have p5 := HP0.out.cell 5; have p6 := HP0.out.cell 6; have p7 := HP0.out.cell 7; have p8 := HP0.out.cell 8; have p9 := HP0.out.cell 9; have p10 := HP0.out.cell 10
  have v0 := HV0.out.cell 0; have v1 := HV0.out.cell 1
  go_wp2_with fail
  go_ret
  exact ⟨false, css, v, rfl, H.out.keep HK0.out, fun h => (by cases h), fun _ => HN.out, HOV.out, HK0.out.mono (fun _ _ h => h.elim)⟩
set_option maxRecDepth 100000 in
set_option maxHeartbeats 4000000 in
theorem match_21c (tx : ByteArray) (tk : Int) (ng : Bool) (la : Option Addr) (ln lc : Nat) (tt : ByteArray) (tn : Int) (ia : Option Addr) (im ic : Nat) (ta : Option Addr) (tm tc : Nat) (ka : Option Addr) (kn kc : Nat) (kd' : Int) (ng' : Bool) (la' : Option Addr) (ln' lc' : Nat) (tx' : ByteArray) (nm' : Int) (ia' : Option Addr) (im' ic' : Nat) (ta' : Option Addr) (tn' tc' : Nat) (tr : Tm) (kids : List Co) (kcss : List (List Value)) (t : Tm) (v : VSt) (A : Option Addr) (n c : Nat) (D : Option Addr) (m d : Nat) (css : List (List Value)) (w : World) (h : VAt w A n c D m d css v) (hmd : v.made) (hov : okTs v.vals) (hot : okT t) (htr : TermIn w (Off A D) false [.int .u8 tk, .bool ng, .slice la ln lc, .string tt, .int .i64 tn, .slice ia im ic, .slice ta tm tc] tr) (hotr : okT tr) (hkr : Roomy kn 160) (hkids : Reads w (Off A D) false 11 ka kn kcss.flatten) (hkc : CoresIn w (Off A D) false kcss kids) (hokc : okCs kids) (IH : MSaid (Co.size.sizes kids)) (ht : TermIn w (Off A D) false [.int .u8 kd', .bool ng', .slice la' ln' lc', .string tx', .int .i64 nm', .slice ia' im' ic', .slice ta' tn' tc'] t) (i : Nat) (hi : i < n) :
    Calls Tryz.prog 28 #[.agg #[.slice A n c, .slice D m d], .agg #[.int .u8 21, .string tx, .int .i64 i, .int .u8 tk, .bool ng, .slice la ln lc, .string tt, .int .i64 tn, .slice ia im ic, .slice ta tm tc, .slice ka kn kc], .agg #[.int .u8 kd', .bool ng', .slice la' ln' lc', .string tx', .int .i64 nm', .slice ia' im' ic', .slice ta' tn' tc']] w (MatP w A n c D m d (matchN (.mk 21 tx i tr kids) t v)) := by
  obtain rfl : n = m := by have h1 := h.nh; have h2 := h.nv; unfold VSt.made at hmd; omega
  have hn63 : n ≤ 9223372036854775807 := by have := h.r1; unfold Roomy at this; omega
  have HK0 := hide ((((Keeps.refl NoB w).alloc (.cells #[.slice A n c, .slice D n d] 39)).alloc (.cells #[.int .u8 21, .string tx, .int .i64 i, .int .u8 tk, .bool ng, .slice la ln lc, .string tt, .int .i64 tn, .slice ia im ic, .slice ta tm tc, .slice ka kn kc] 34)).alloc (.cells #[.int .u8 kd', .bool ng', .slice la' ln' lc', .string tx', .int .i64 nm', .slice ia' im' ic', .slice ta' tn' tc'] 26))
  have HV0 := hide (three_tblks w 39 34 26 #[.slice A n c, .slice D n d] #[.int .u8 21, .string tx, .int .i64 i, .int .u8 tk, .bool ng, .slice la ln lc, .string tt, .int .i64 tn, .slice ia im ic, .slice ta tm tc, .slice ka kn kc] #[.int .u8 kd', .bool ng', .slice la' ln' lc', .string tx', .int .i64 nm', .slice ia' im' ic', .slice ta' tn' tc']).1; have HP0 := hide (three_tblks w 39 34 26 #[.slice A n c, .slice D n d] #[.int .u8 21, .string tx, .int .i64 i, .int .u8 tk, .bool ng, .slice la ln lc, .string tt, .int .i64 tn, .slice ia im ic, .slice ta tm tc, .slice ka kn kc] #[.int .u8 kd', .bool ng', .slice la' ln' lc', .string tx', .int .i64 nm', .slice ia' im' ic', .slice ta' tn' tc']).2.1; have HT0 := hide (three_tblks w 39 34 26 #[.slice A n c, .slice D n d] #[.int .u8 21, .string tx, .int .i64 i, .int .u8 tk, .bool ng, .slice la ln lc, .string tt, .int .i64 tn, .slice ia im ic, .slice ta tm tc, .slice ka kn kc] #[.int .u8 kd', .bool ng', .slice la' ln' lc', .string tx', .int .i64 nm', .slice ia' im' ic', .slice ta' tn' tc']).2.2
  have H := hide h; have HMD := hide hmd; have HOV := hide hov; have HOT := hide hot; have HTR := hide htr; have HOTR := hide hotr; have HKR := hide hkr; have HKI := hide hkids; have HKC := hide hkc; have HOKC := hide hokc; have HIH := hide IH; have HT := hide ht
  have HNR := hide (show ∀ k, w.heap.size ≤ k → ¬ Rows2 A D k from fun k hk hr => by rcases hr with hr | hr; have := h.hb.lt hr; omega; have := h.hv.lt hr; omega)
  have HN := hide (show matchN (.mk 21 tx i tr kids) t v = some (v.bind i t) from by unfold matchN; rw [if_neg (by decide), if_pos rfl]; exact if_neg (by have := H.out.nh; omega))
  have hi0 : (0 : Int) ≤ i := by omega
  have hi1 : ¬ (i : Int) < 0 := by omega
  have hi2 : ¬ (n : Int) ≤ i := by omega
  have hi3 : (i : Int) < n := by omega
  obtain ⟨ab, ao, hA⟩ : ∃ ab ao, A = some ⟨ab, ao, none⟩ := by obtain ⟨ad, e, hs, _⟩ := h.hb.reads.2 (by omega); exact ⟨ad.block, ad.off, by rw [e]; cases ad; simp only at hs; subst hs; rfl⟩
  obtain ⟨Db, Do, hD⟩ : ∃ Db Do, D = some ⟨Db, Do, none⟩ := by obtain ⟨ad, e, hs, _⟩ := h.hv.reads.2 (by omega); exact ⟨ad.block, ad.off, by rw [e]; cases ad; simp only at hs; subst hs; rfl⟩
  subst hA hD
  clear h hmd hov hot htr hotr hkr hkids hkc hokc IH ht
  go_enter Tryz.func28, Tryz.ntmps28
  go_upto_region 2 with fail
  generalize ((w.alloc (.cells #[.slice (some ⟨ab, ao, none⟩) n c, .slice (some ⟨Db, Do, none⟩) n d] 39)).alloc (.cells #[.int .u8 21, .string tx, .int .i64 i, .int .u8 tk, .bool ng, .slice la ln lc, .string tt, .int .i64 tn, .slice ia im ic, .slice ta tm tc, .slice ka kn kc] 34)).alloc (.cells #[.int .u8 kd', .bool ng', .slice la' ln' lc', .string tx', .int .i64 nm', .slice ia' im' ic', .slice ta' tn' tc'] 26) = w0 at *
  have HS0 := hide (And.intro HV0.out.lt (And.intro HP0.out.lt HT0.out.lt))
  have p0 := HP0.out.cell 0; have p1 := HP0.out.cell 1; have p2 := HP0.out.cell 2; have p3 := HP0.out.cell 3; have p4 := HP0.out.cell 4; have p5 := HP0.out.cell 5; have p6 := HP0.out.cell 6; have p7 := HP0.out.cell 7; have p8 := HP0.out.cell 8; have p9 := HP0.out.cell 9; have p10 := HP0.out.cell 10
  have v0 := HV0.out.cell 0; have v1 := HV0.out.cell 1
  go_upto_region 8 with fail
  clear p0 p1 p2 p3 p4 p5 p6 p7 p8 p9 p10 v0 v1
  have hna : ∀ k, w.heap.size ≤ k → ¬ rowB (some ⟨ab, ao, none⟩) k := fun k hk hr => HNR.out k hk (.inl hr)
  have HNA := hide hna; clear hna
  refine order_begin (fun W => Keeps (rowB (some ⟨ab, ao, none⟩)) w0 W) (fun j => !(j == 13)) (by kernel_rfl) 14 rfl ?_
  have HS : Keeps (rowB (some ⟨ab, ao, none⟩)) w0 w0.drew := (Keeps.refl _ _).drew
  refine order_pure (i := 0) rfl (by kernel_rfl) (fun _ _ _ h => h) (.inl ⟨rfl, fun _ => by go_simp; rfl⟩) ?_
  try simp only [Act.put, List.setIfInBounds_toArray, List.set_cons_succ, List.set_cons_zero]
  refine order_held (i := 1) rfl (by kernel_rfl) (fun _ _ _ h => h) (.inl ⟨rfl, fun W hW => by
    have q0 : W.cell? ⟨w.heap.size, 0, none⟩ = some (.slice (some ⟨ab, ao, none⟩) n c) := hW.cell (HNA.out _ (Nat.le_refl _)) (HV0.out.cell 0)
    go_simp; rfl⟩) HS ?_
  try simp only [Act.put, List.setIfInBounds_toArray, List.set_cons_succ, List.set_cons_zero]
  refine order_pure (i := 2) rfl (by kernel_rfl) (fun _ _ _ h => h) (.inl ⟨rfl, fun _ => by go_simp; rfl⟩) ?_
  try simp only [Act.put, List.setIfInBounds_toArray, List.set_cons_succ, List.set_cons_zero]
  refine order_held (i := 3) rfl (by kernel_rfl) (fun _ _ _ h => h) (.inl ⟨rfl, fun W hW => by
    have q0 : W.cell? ⟨w.heap.size + 1, 2, none⟩ = some (.int .i64 i) := hW.cell (HNA.out (w.heap.size + 1) (by omega)) (HP0.out.cell 2)
    go_simp; rfl⟩) HS ?_
  try simp only [Act.put, List.setIfInBounds_toArray, List.set_cons_succ, List.set_cons_zero]
  refine order_pure (i := 4) rfl (by kernel_rfl) (fun _ _ _ h => h) (.inl ⟨rfl, fun _ => by go_simp; rfl⟩) ?_
  try simp only [Act.put, List.setIfInBounds_toArray, List.set_cons_succ, List.set_cons_zero]
  refine order_held (i := 5) rfl (by kernel_rfl) (fun _ _ _ h => h) (.inl ⟨rfl, fun W hW => by
    have q0 : W.cell? ⟨w.heap.size, 1, none⟩ = some (.slice (some ⟨Db, Do, none⟩) n d) := hW.cell (HNA.out _ (Nat.le_refl _)) (HV0.out.cell 1)
    go_simp; rfl⟩) HS ?_
  try simp only [Act.put, List.setIfInBounds_toArray, List.set_cons_succ, List.set_cons_zero]
  refine order_pure (i := 6) rfl (by kernel_rfl) (fun _ _ _ h => h) (.inl ⟨rfl, fun _ => by go_simp; rfl⟩) ?_
  try simp only [Act.put, List.setIfInBounds_toArray, List.set_cons_succ, List.set_cons_zero]
  refine order_held (i := 7) rfl (by kernel_rfl) (fun _ _ _ h => h) (.inl ⟨rfl, fun W hW => by
    have q0 : W.cell? ⟨w.heap.size + 1, 2, none⟩ = some (.int .i64 i) := hW.cell (HNA.out (w.heap.size + 1) (by omega)) (HP0.out.cell 2)
    go_simp; rfl⟩) HS ?_
  try simp only [Act.put, List.setIfInBounds_toArray, List.set_cons_succ, List.set_cons_zero]
  refine order_held (i := 8) rfl (by kernel_rfl) (fun _ _ _ h => h) (.inl ⟨rfl, fun W hW => by
    have q0 : W.cell? ⟨w.heap.size + 1 + 1, 0, none⟩ = some (.int .u8 kd') := hW.cell (HNA.out (w.heap.size + 1 + 1) (by omega)) (HT0.out.cell 0)
    have q1 : W.cell? ⟨w.heap.size + 1 + 1, 1, none⟩ = some (.bool ng') := hW.cell (HNA.out (w.heap.size + 1 + 1) (by omega)) (HT0.out.cell 1)
    have q2 : W.cell? ⟨w.heap.size + 1 + 1, 2, none⟩ = some (.slice la' ln' lc') := hW.cell (HNA.out (w.heap.size + 1 + 1) (by omega)) (HT0.out.cell 2)
    have q3 : W.cell? ⟨w.heap.size + 1 + 1, 3, none⟩ = some (.string tx') := hW.cell (HNA.out (w.heap.size + 1 + 1) (by omega)) (HT0.out.cell 3)
    have q4 : W.cell? ⟨w.heap.size + 1 + 1, 4, none⟩ = some (.int .i64 nm') := hW.cell (HNA.out (w.heap.size + 1 + 1) (by omega)) (HT0.out.cell 4)
    have q5 : W.cell? ⟨w.heap.size + 1 + 1, 5, none⟩ = some (.slice ia' im' ic') := hW.cell (HNA.out (w.heap.size + 1 + 1) (by omega)) (HT0.out.cell 5)
    have q6 : W.cell? ⟨w.heap.size + 1 + 1, 6, none⟩ = some (.slice ta' tn' tc') := hW.cell (HNA.out (w.heap.size + 1 + 1) (by omega)) (HT0.out.cell 6)
    go_simp; rfl⟩) HS ?_
  try simp only [Act.put, List.setIfInBounds_toArray, List.set_cons_succ, List.set_cons_zero]
  clear HS
  have HKD := hide ((Keeps.refl NoB w0).drew)
  generalize w0.drew = W0 at *
  refine order_one (i := 9) rfl (by kernel_rfl) (fun K hK => ?_)
  go_simp
  refine (tm_copy _ t (Nat.le_refl _) W0 _ _ _ _ _ _ _ _ _ _ _ _ _ _ _ (TermIn.keep (HK0.out.trans' HKD.out (fun _ _ => id) (fun _ _ => id) : Keeps NoB w W0) (fun _ _ => id) _ _ HT.out)).mono ?_
  rintro e W5 ⟨la2, lc2, ia2, ic2, ta2, tc2, rfl, hc5, hk5⟩
  have HC5 := hide (TermIn.weak _ _ hc5)
  have HKE := hide (HKD.out.trans' hk5 (fun _ _ => id) (fun _ _ => id) : Keeps NoB w0 W5)
  refine hK _ _ (fun _ hS => hS.trans' hk5 (fun _ _ h => h) (fun _ _ h => h.elim)) ?_
  have HGZ := hide HKD.out.size
  clear hK hc5 hk5
  try simp only [Act.put, List.setIfInBounds_toArray, List.set_cons_succ, List.set_cons_zero]
  refine order_pure (i := 10) rfl (by kernel_rfl) (fun _ _ _ h => h) (.inl ⟨rfl, fun _ => by go_simp; rfl⟩) ?_
  try simp only [Act.put, List.setIfInBounds_toArray, List.set_cons_succ, List.set_cons_zero]
  have HWW := hide (HK0.out.trans' HKE.out (fun _ _ => id) (fun _ _ => id) : Keeps NoB w W5)
  have hsb := (H.out.keep HWW.out)
  obtain ⟨⟨xb, xo, xs⟩, hA, hs, _, _, hcc⟩ := hsb.hb.reads.2 (by omega)
  injection hA with hA; injection hA with hA1 hA2 hA3; subst hA1 hA2
  obtain ⟨x, hx⟩ : ∃ x, v.has[i]? = some x := ⟨_, List.getElem?_eq_getElem (by have := H.out.nh; omega)⟩
  have g0 : W5.cell? ⟨ab, ao + i, none⟩ = some (.bool x) := (hcc i (.bool x) (by rw [List.getElem?_map, hx]; rfl)).1
  have g1 : W5.frozen? ⟨ab, ao + i, none⟩ = false := (hcc i (.bool x) (by rw [List.getElem?_map, hx]; rfl)).2 rfl
  clear hsb hs hcc hA3 hx
  refine order_one (i := 11) rfl (by kernel_rfl) (fun K hK => ?_)
  go_simp
  have hkb : Keeps (rowB (some ⟨ab, ao, none⟩)) W5 (W5.setCell ⟨ab, ao + i, none⟩ (.bool true)) := (Keeps.refl _ W5).setCell (p := ⟨ab, ao + i, none⟩) (.inl ⟨ao, rfl⟩) _
  refine hK _ _ (fun _ hS => hS.trans' hkb (fun _ _ h => h) (fun _ _ h => h)) ?_
  clear hK g0 g1
  try simp only [Act.put, List.setIfInBounds_toArray, List.set_cons_succ, List.set_cons_zero]
  have HSB := hide (show Slab (W5.setCell ⟨ab, ao + i, none⟩ (.bool true)) 4 1 (some ⟨ab, ao, none⟩) n c ((v.has.set i true).map .bool) from by
    have h := (H.out.keep HWW.out).hb.put1 (j := i) (by omega) (.bool true)
    rw [List.map_set]; exact h)
  have HKB := hide hkb
  clear hkb
  generalize W5.setCell ⟨ab, ao + i, none⟩ (.bool true) = W7 at *
  refine order_pure (i := 12) rfl (by kernel_rfl) (fun _ _ _ h => h) (.inl ⟨rfl, fun _ => by go_simp; rfl⟩) ?_
  try simp only [Act.put, List.setIfInBounds_toArray, List.set_cons_succ, List.set_cons_zero]
  have hnd : ∀ k, rowB (some ⟨Db, Do, none⟩) k → ¬ rowB (some ⟨ab, ao, none⟩) k := fun k h1 h2 => H.out.ne h2 h1
  have HND := hide hnd; clear hnd
  have HSV := hide ((H.out.keep HWW.out).hv.keep HKB.out HND.out)
  have hcl : css.flatten.length = n * 7 := HSV.out.1
  obtain ⟨⟨xb, xo, xs⟩, hA, hs, _, _, hcc⟩ := HSV.out.reads.2 (by omega)
  injection hA with hA; injection hA with hA1 hA2 hA3; subst hA1 hA2
  obtain ⟨y0, hy0⟩ : ∃ y0, css.flatten[i * 7]? = some y0 := ⟨_, List.getElem?_eq_getElem (by omega)⟩
  have d0 : W7.cell? ⟨Db, Do + i * 7, none⟩ = some y0 := by have := (hcc _ y0 hy0).1; exact this
  have e0 : W7.frozen? ⟨Db, Do + i * 7, none⟩ = false := by have := (hcc _ y0 hy0).2 rfl; exact this
  clear hy0
  obtain ⟨y1, hy1⟩ : ∃ y1, css.flatten[i * 7 + 1]? = some y1 := ⟨_, List.getElem?_eq_getElem (by omega)⟩
  have d1 : W7.cell? ⟨Db, Do + i * 7 + 1, none⟩ = some y1 := by have := (hcc _ y1 hy1).1; rw [← Nat.add_assoc] at this; exact this
  have e1 : W7.frozen? ⟨Db, Do + i * 7 + 1, none⟩ = false := by have := (hcc _ y1 hy1).2 rfl; rw [← Nat.add_assoc] at this; exact this
  clear hy1
  obtain ⟨y2, hy2⟩ : ∃ y2, css.flatten[i * 7 + 2]? = some y2 := ⟨_, List.getElem?_eq_getElem (by omega)⟩
  have d2 : W7.cell? ⟨Db, Do + i * 7 + 2, none⟩ = some y2 := by have := (hcc _ y2 hy2).1; rw [← Nat.add_assoc] at this; exact this
  have e2 : W7.frozen? ⟨Db, Do + i * 7 + 2, none⟩ = false := by have := (hcc _ y2 hy2).2 rfl; rw [← Nat.add_assoc] at this; exact this
  clear hy2
  obtain ⟨y3, hy3⟩ : ∃ y3, css.flatten[i * 7 + 3]? = some y3 := ⟨_, List.getElem?_eq_getElem (by omega)⟩
  have d3 : W7.cell? ⟨Db, Do + i * 7 + 3, none⟩ = some y3 := by have := (hcc _ y3 hy3).1; rw [← Nat.add_assoc] at this; exact this
  have e3 : W7.frozen? ⟨Db, Do + i * 7 + 3, none⟩ = false := by have := (hcc _ y3 hy3).2 rfl; rw [← Nat.add_assoc] at this; exact this
  clear hy3
  obtain ⟨y4, hy4⟩ : ∃ y4, css.flatten[i * 7 + 4]? = some y4 := ⟨_, List.getElem?_eq_getElem (by omega)⟩
  have d4 : W7.cell? ⟨Db, Do + i * 7 + 4, none⟩ = some y4 := by have := (hcc _ y4 hy4).1; rw [← Nat.add_assoc] at this; exact this
  have e4 : W7.frozen? ⟨Db, Do + i * 7 + 4, none⟩ = false := by have := (hcc _ y4 hy4).2 rfl; rw [← Nat.add_assoc] at this; exact this
  clear hy4
  obtain ⟨y5, hy5⟩ : ∃ y5, css.flatten[i * 7 + 5]? = some y5 := ⟨_, List.getElem?_eq_getElem (by omega)⟩
  have d5 : W7.cell? ⟨Db, Do + i * 7 + 5, none⟩ = some y5 := by have := (hcc _ y5 hy5).1; rw [← Nat.add_assoc] at this; exact this
  have e5 : W7.frozen? ⟨Db, Do + i * 7 + 5, none⟩ = false := by have := (hcc _ y5 hy5).2 rfl; rw [← Nat.add_assoc] at this; exact this
  clear hy5
  obtain ⟨y6, hy6⟩ : ∃ y6, css.flatten[i * 7 + 6]? = some y6 := ⟨_, List.getElem?_eq_getElem (by omega)⟩
  have d6 : W7.cell? ⟨Db, Do + i * 7 + 6, none⟩ = some y6 := by have := (hcc _ y6 hy6).1; rw [← Nat.add_assoc] at this; exact this
  have e6 : W7.frozen? ⟨Db, Do + i * 7 + 6, none⟩ = false := by have := (hcc _ y6 hy6).2 rfl; rw [← Nat.add_assoc] at this; exact this
  clear hy6
  clear hcc hcl hs hA3
  refine order_one (i := 13) rfl (by kernel_rfl) (fun K hK => ?_)
  go_simp
  refine hK _ _ (fun h => absurd h (by decide)) ?_
  clear hK
  try simp only [Act.put, List.setIfInBounds_toArray, List.set_cons_succ, List.set_cons_zero]
  refine order_done (by kernel_rfl) ?_
  have hks : Keeps (fun k => k = Db) W7 (((((((W7.setCell ⟨Db, Do + i * 7, none⟩ (.int .u8 kd')).setCell ⟨Db, Do + i * 7 + 1, none⟩ (.bool ng')).setCell ⟨Db, Do + i * 7 + 2, none⟩ (.slice la2 ln' lc2)).setCell ⟨Db, Do + i * 7 + 3, none⟩ (.string tx')).setCell ⟨Db, Do + i * 7 + 4, none⟩ (.int .i64 nm')).setCell ⟨Db, Do + i * 7 + 5, none⟩ (.slice ia2 im' ic2)).setCell ⟨Db, Do + i * 7 + 6, none⟩ (.slice ta2 tn' tc2)) := ((((((((Keeps.refl (fun k => k = Db) W7).setCell (p := ⟨Db, Do + i * 7, none⟩) (.inl rfl) (.int .u8 kd')).setCell (p := ⟨Db, Do + i * 7 + 1, none⟩) (.inl rfl) (.bool ng')).setCell (p := ⟨Db, Do + i * 7 + 2, none⟩) (.inl rfl) (.slice la2 ln' lc2)).setCell (p := ⟨Db, Do + i * 7 + 3, none⟩) (.inl rfl) (.string tx')).setCell (p := ⟨Db, Do + i * 7 + 4, none⟩) (.inl rfl) (.int .i64 nm')).setCell (p := ⟨Db, Do + i * 7 + 5, none⟩) (.inl rfl) (.slice ia2 im' ic2)).setCell (p := ⟨Db, Do + i * 7 + 6, none⟩) (.inl rfl) (.slice ta2 tn' tc2))
  have HKS := hide hks
  have HSV2 := hide (HSV.out.set7 H.out.ht.lens.2 hi (.int .u8 kd') (.bool ng') (.slice la2 ln' lc2) (.string tx') (.int .i64 nm') (.slice ia2 im' ic2) (.slice ta2 tn' tc2))
  clear hks d0 e0 d1 e1 d2 e2 d3 e3 d4 e4 d5 e5 d6 e6
  generalize (((((((W7.setCell ⟨Db, Do + i * 7, none⟩ (.int .u8 kd')).setCell ⟨Db, Do + i * 7 + 1, none⟩ (.bool ng')).setCell ⟨Db, Do + i * 7 + 2, none⟩ (.slice la2 ln' lc2)).setCell ⟨Db, Do + i * 7 + 3, none⟩ (.string tx')).setCell ⟨Db, Do + i * 7 + 4, none⟩ (.int .i64 nm')).setCell ⟨Db, Do + i * 7 + 5, none⟩ (.slice ia2 im' ic2)).setCell ⟨Db, Do + i * 7 + 6, none⟩ (.slice ta2 tn' tc2)) = W9 at *
  go_wp2_with fail
  go_ret
  have hrow : ∀ k, k = Db → rowB (some ⟨Db, Do, none⟩) k := fun k e => ⟨Do, by rw [e]⟩
  have hK7 : Keeps (rowB (some ⟨ab, ao, none⟩)) w W7 := (HWW.out.mono (fun _ _ h => h.elim) : Keeps (rowB (some ⟨ab, ao, none⟩)) w W5).trans' HKB.out (fun _ _ h => h) (fun _ _ h => h)
  have hnew : ∀ k, Above W0 k → Off (some ⟨ab, ao, none⟩) (some ⟨Db, Do, none⟩) k := fun k hk => by
    have h1 := HK0.out.size; have h2 := HGZ.out; unfold Above at hk
    exact ⟨fun h => HNR.out k (by omega) (.inl h), fun h => HNR.out k (by omega) (.inr h)⟩
  refine ⟨true, css.set i [.int .u8 kd', .bool ng', .slice la2 ln' lc2, .string tx', .int .i64 nm', .slice ia2 im' ic2, .slice ta2 tn' tc2], v.bind i t, rfl, ⟨?_, HSV2.out, ?_, H.out.r1, H.out.r2⟩, fun _ => HN.out, fun h => (by cases h), okTs_set _ HOV.out HOT.out, (hK7.mono (fun _ _ h => .inl h) : Keeps (Rows2 (some ⟨ab, ao, none⟩) (some ⟨Db, Do, none⟩)) w W7).trans' HKS.out (fun _ _ h => h) (fun k _ e => .inr (hrow k e))⟩
  · exact HSB.out.keep HKS.out (fun k hk e => HND.out k (hrow k e) hk)
  · have q1 := TermsIn.keep HKS.out (fun k (hk : Off (some ⟨ab, ao, none⟩) (some ⟨Db, Do, none⟩) k) e => hk.2 (hrow k e)) _ _ (TermsIn.keep HKB.out (fun k (hk : Off (some ⟨ab, ao, none⟩) (some ⟨Db, Do, none⟩) k) e => hk.1 e) _ _ (H.out.keep HWW.out).ht)
    have q2 := TermIn.keep HKS.out (fun k (hk : Off (some ⟨ab, ao, none⟩) (some ⟨Db, Do, none⟩) k) e => hk.2 (hrow k e)) _ _ (TermIn.keep HKB.out (fun k (hk : Off (some ⟨ab, ao, none⟩) (some ⟨Db, Do, none⟩) k) e => hk.1 e) _ _ (TermIn.more (fun k _ hk => hnew k hk) _ _ HC5.out))
    exact TermsIn.set i q1 q2
end Go.Proofs.YtjdbjjjbgibpaaaGreatDoor
namespace Go.Proofs.YtjdbjjjbgibpaaaGreatDoor
open Go.RowKit

theorem okT_get {v : VSt} {z : Int} {u : Tm} (h : v.get z = some u) (ho : okTs v.vals) : okT u := by
  unfold VSt.get at h
  split at h
  · exact okTs_at ho h
  · cases h
theorem okT_rest : ∀ {l : List Tm}, okTs l → okT (restT l)
  | [], _ => by unfold restT nilT okT okTs; exact ⟨by omega, (fun _ h => by cases h), by show (0 : Nat) ≤ _; omega, by omega, trivial, trivial⟩
  | x :: l, h => by unfold okTs at h; exact h.1
theorem okT_split {t h r : Tm} (hs : splitT t = some (h, r)) (ho : okT t) : okT h ∧ okT r := by
  obtain ⟨k, neg, limbs, text, num, items, tail⟩ := t
  unfold okT at ho
  obtain ⟨_, _, _, _, h1, h2⟩ := ho
  unfold splitT at hs
  split at hs
  · have e : (Tm.mk k neg limbs text num items tail).items = items := rfl
    have e2 : (Tm.mk k neg limbs text num items tail).tail = tail := rfl
    rw [e, e2] at hs
    rcases items with _ | ⟨x, _ | ⟨y, l⟩⟩
    · cases hs
    · injection hs with hs; injection hs with q1 q2; subst q1 q2
      unfold okTs at h1
      exact ⟨h1.1, okT_rest h2⟩
    · injection hs with hs; injection hs with q1 q2; subst q1 q2
      unfold okTs at h1
      refine ⟨h1.1, ?_⟩
      unfold okT
      exact ⟨by omega, (fun _ h => by cases h), by show (0 : Nat) ≤ _; omega, by omega, h1.2, h2⟩
  · cases hs
theorem match_all (M : Nat) : MSaid M := by
  induction M using Nat.strongRecOn with
  | ind M IH =>
  intro p hM t v A n c D m d css w h hmd hov hot hoc kd tx nm tk ng la ln lc tt tn ia im ic ta tm tc ka kn kc kd' ng' la' ln' lc' tx' nm' ia' im' ic' ta' tn' tc' hp ht
  obtain ⟨_, _, _, _, _, _, _, _, _, _, _, _, _, _, _, _, _, _, _, tr, kids, kcss, rfl, e, htr, hkr, hkids, hkc, hkl⟩ := hp.opened
  simp only [List.cons.injEq, Value.int.injEq, Value.bool.injEq, Value.slice.injEq, Value.string.injEq, true_and, and_true] at e
  obtain ⟨rfl, rfl, rfl, rfl, rfl, ⟨rfl, rfl, rfl⟩, rfl, rfl, ⟨rfl, rfl, rfl⟩, ⟨rfl, rfl, rfl⟩, rfl, rfl, rfl⟩ := e
  unfold okC at hoc
  obtain ⟨_, _, _, hotr, hokc⟩ := hoc
  have IHK : MSaid (Co.size.sizes kids) := IH _ (by simp only [Co.size] at hM; omega)
  by_cases k0 : kd = 20
  · subst k0; exact match_20 _ _ _ _ _ _ _ _ _ _ _ _ _ _ _ _ _ _ _ _ _ _ _ _ _ _ _ _ _ _ _ _ _ _ _ _ _ _ _ _ _ _ _ _ h hmd hov hot htr hotr hkr hkids hkc hokc IHK ht
  by_cases k1 : kd = 21
  · subst k1
    by_cases hlow : nm < 0
    · exact match_21a _ _ _ _ _ _ _ _ _ _ _ _ _ _ _ _ _ _ _ _ _ _ _ _ _ _ _ _ _ _ _ _ _ _ _ _ _ _ _ _ _ _ _ _ h hmd hov hot htr hotr hkr hkids hkc hokc IHK ht hlow
    · by_cases hbig : (n : Int) ≤ nm
      · exact match_21b _ _ _ _ _ _ _ _ _ _ _ _ _ _ _ _ _ _ _ _ _ _ _ _ _ _ _ _ _ _ _ _ _ _ _ _ _ _ _ _ _ _ _ _ h hmd hov hot htr hotr hkr hkids hkc hokc IHK ht hlow hbig
      · obtain ⟨i, rfl⟩ : ∃ i : Nat, nm = i := ⟨nm.toNat, by omega⟩
        exact match_21c _ _ _ _ _ _ _ _ _ _ _ _ _ _ _ _ _ _ _ _ _ _ _ _ _ _ _ _ _ _ _ _ _ _ _ _ _ _ _ _ _ _ _ h hmd hov hot htr hotr hkr hkids hkc hokc IHK ht i (by omega)
  by_cases k2 : kd = 22
  · subst k2
    cases hg : v.get nm with
    | none => exact match_22n _ _ _ _ _ _ _ _ _ _ _ _ _ _ _ _ _ _ _ _ _ _ _ _ _ _ _ _ _ _ _ _ _ _ _ _ _ _ _ _ _ _ _ _ h hmd hov hot htr hotr hkr hkids hkc hokc IHK ht hg
    | some u => exact match_22s _ _ _ _ _ _ _ _ _ _ _ _ _ _ _ _ _ _ _ _ _ _ _ _ _ _ _ _ _ _ _ _ _ _ _ _ _ _ _ _ _ _ _ _ h hmd hov hot htr hotr hkr hkids hkc hokc IHK ht u hg (okT_get hg hov)
  by_cases k3 : kd = 23
  · subst k3; exact match_23 _ _ _ _ _ _ _ _ _ _ _ _ _ _ _ _ _ _ _ _ _ _ _ _ _ _ _ _ _ _ _ _ _ _ _ _ _ _ _ _ _ _ _ _ h hmd hov hot htr hotr hkr hkids hkc hokc IHK ht
  by_cases k4 : kd = 24
  · subst k4
    by_cases h6 : kd' = 6
    · subst h6; exact match_24 _ _ _ _ _ _ _ _ _ _ _ _ _ _ _ _ _ _ _ _ _ _ _ _ _ _ _ _ _ _ _ _ _ _ _ _ _ _ _ _ _ _ _ h hmd hov hot htr hotr hkr hkids hkc hokc IHK ht
    · exact match_24n _ _ _ _ _ _ _ _ _ _ _ _ _ _ _ _ _ _ _ _ _ _ _ _ _ _ _ _ _ _ _ _ _ _ _ _ _ _ _ _ _ _ _ _ h hmd hov hot htr hotr hkr hkids hkc hokc IHK ht h6
  by_cases k5 : kd = 25
  · subst k5
    cases hs : splitT t with
    | none => exact match_25n _ _ _ _ _ _ _ _ _ _ _ _ _ _ _ _ _ _ _ _ _ _ _ _ _ _ _ _ _ _ _ _ _ _ _ _ _ _ _ _ _ _ _ _ h hmd hov hot htr hotr hkr hkids hkc hokc IHK ht hs
    | some hr => exact match_25s _ _ _ _ _ _ _ _ _ _ _ _ _ _ _ _ _ _ _ _ _ _ _ _ _ _ _ _ _ _ _ _ _ _ _ _ _ _ _ _ _ _ _ _ h hmd hov hot htr hotr hkr hkids hkc hokc IHK ht hr.1 hr.2 hs (okT_split hs hot).1 (okT_split hs hot).2
  by_cases k6 : kd = 26
  · subst k6; exact match_26 _ _ _ _ _ _ _ _ _ _ _ _ _ _ _ _ _ _ _ _ _ _ _ _ _ _ _ _ _ _ _ _ _ _ _ _ _ _ _ _ _ _ _ _ h hmd hov hot htr hotr hkr hkids hkc hokc IHK ht
  exact match_no kd _ _ _ _ _ _ _ _ _ _ _ _ _ _ _ _ _ _ _ _ _ _ _ _ _ _ _ _ _ _ _ _ _ _ _ _ _ _ _ _ _ _ _ _ h hmd hov hot htr hotr hkr hkids hkc hokc IHK ht k0 k1 k2 k3 k4 k5 k6

/-- Where there are but slices no term's list lies. -/
theorem reads_avoid {w : World} {B : Nat → Prop} {F : Bool} {size n g : Nat} {A : Option Addr} {xs : List Value} (h : Reads w B F size A n xs) (h0 : 0 < n → ∃ v, xs[0]? = some v ∧ ∀ o, w.cell? ⟨g, o, none⟩ ≠ some v) : Reads w (fun k => B k ∧ ¬ k = g) F size A n xs := by
  refine ⟨h.1, fun hn => ?_⟩
  obtain ⟨ad, e, hs, hb, hl, hc⟩ := h.2 hn
  obtain ⟨v, hv, hno⟩ := h0 hn
  refine ⟨ad, e, hs, ⟨hb, fun eg => ?_⟩, hl, hc⟩
  have := (hc 0 v hv).1
  rw [eg] at this
  exact hno _ this
def Slices (w : World) (g : Nat) : Prop := ∀ o u, w.cell? ⟨g, o, none⟩ = some u → ∃ a n c, u = .slice a n c
theorem TermsIn.first {w : World} {B : Nat → Prop} {F : Bool} {n g : Nat} {A : Option Addr} {ts : List Tm} {css : List (List Value)} (hg : Slices w g) (hr : Reads w B F 7 A n css.flatten) (ht : TermsIn w B F css ts) (hn : 0 < n) : ∃ v, css.flatten[0]? = some v ∧ ∀ o, w.cell? ⟨g, o, none⟩ ≠ some v := by
  have h1 := hr.1
  rw [flat_len ht.lens.2] at h1
  match css, ts, ht with
  | [], _, _ => simp at h1; omega
  | cs :: css, [], ht => unfold TermsIn at ht; exact ht.elim
  | cs :: css, t :: ts, ht =>
    unfold TermsIn at ht
    obtain ⟨kd, ng, la, ln, lc, tx, nm, ia, im, ic, ta, tn, tc, rfl, _⟩ := ht.1.cells
    exact ⟨.int .u8 kd, rfl, fun o h => by obtain ⟨_, _, _, e⟩ := hg o _ h; cases e⟩
mutual
theorem TermIn.avoid {w : World} {B : Nat → Prop} {F : Bool} {g : Nat} (hg : Slices w g) : ∀ (t : Tm) (cs : List Value), TermIn w B F cs t → TermIn w (fun k => B k ∧ ¬ k = g) F cs t
  | .mk k neg limbs text num items tail, cs, h => by
    unfold TermIn at h ⊢
    obtain ⟨la, ln, lc, ia, im, ic, ta, tn, tc, css, dss, e, hb, h1, h2, h3, h4, h5⟩ := h
    refine ⟨la, ln, lc, ia, im, ic, ta, tn, tc, css, dss, e, hb, ?_, reads_avoid h2 (TermsIn.first hg h2 h3), TermsIn.avoid hg _ _ h3, reads_avoid h4 (TermsIn.first hg h4 h5), TermsIn.avoid hg _ _ h5⟩
    refine reads_avoid h1 (fun hn => ?_)
    have hl := h1.1
    match limbs, hl with
    | [], hl => simp at hl; omega
    | x :: l, _ => exact ⟨.int .u32 x, rfl, fun o h => by obtain ⟨_, _, _, e⟩ := hg o _ h; cases e⟩
theorem TermsIn.avoid {w : World} {B : Nat → Prop} {F : Bool} {g : Nat} (hg : Slices w g) : ∀ (ts : List Tm) (css : List (List Value)), TermsIn w B F css ts → TermsIn w (fun k => B k ∧ ¬ k = g) F css ts
  | [], [], _ => by unfold TermsIn; trivial
  | t :: ts, cs :: css, h => by
    unfold TermsIn at h ⊢
    exact ⟨TermIn.avoid hg t cs h.1, TermsIn.avoid hg ts css h.2⟩
  | [], _ :: _, h => by unfold TermsIn at h; exact h.elim
  | _ :: _, [], h => by unfold TermsIn at h; exact h.elim
end
theorem Blk.slices {w : World} {g : Nat} {t : TypeId} {a b : Option Addr} {n c m d : Nat} (h : Blk w g t #[.slice a n c, .slice b m d]) : Slices w g := by
  intro o u hu
  rw [h.cell] at hu
  match o, hu with
  | 0, hu => injection hu with hu; exact ⟨_, _, _, hu.symm⟩
  | 1, hu => injection hu with hu; exact ⟨_, _, _, hu.symm⟩
  | o + 2, hu => simp at hu
def MatchP (w : World) (r : Option VSt) (e : Ending) (w' : World) : Prop := ∃ A n c D m d css, e = .returned (.tuple #[.agg #[.slice A n c, .slice D m d], .bool r.isSome]) ∧ VIn w' (fun _ => True) A n c D m d css (r.getD noV) ∧ okTs (r.getD noV).vals ∧ (r.getD noV).made ∧ Keeps NoB w w'
theorem results_match (tmps : Array Value) (g4 : Nat) (b : Bool) (v0 v1 : Value) (w : World) (h4 : tmps[6]? = some (.pointer (some ⟨g4, 0, none⟩))) (h5 : tmps[7]? = some (.bool b)) (hB4 : Blk w g4 39 #[v0, v1]) :
    (results Tryz.f10 tmps).run Tryz.prog w = .ok (.tuple #[.agg #[v0, v1], .bool b]) w := by
  have c0 : w.cell? ⟨g4, 0, none⟩ = some v0 := hB4.cell 0
  have c1 : w.cell? ⟨g4, 1, none⟩ = some v1 := hB4.cell 1
  have hr : Tryz.f10.results = #[ResultVar.cell 6 39, ResultVar.tmp 7] := by kernel_rfl
  simp [results, hr, go_sem, h4, h5, c0, c1]
theorem four_blks (w : World) (t0 t1 t2 t3 : TypeId) (c0 c1 c2 c3 : Array Value) : Blk ((((w.alloc (.cells c0 t0)).alloc (.cells c1 t1)).alloc (.cells c2 t2)).alloc (.cells c3 t3)) w.heap.size t0 c0 ∧ Blk ((((w.alloc (.cells c0 t0)).alloc (.cells c1 t1)).alloc (.cells c2 t2)).alloc (.cells c3 t3)) (w.heap.size + 1) t1 c1 ∧ Blk ((((w.alloc (.cells c0 t0)).alloc (.cells c1 t1)).alloc (.cells c2 t2)).alloc (.cells c3 t3)) (w.heap.size + 1 + 1) t2 c2 ∧ Blk ((((w.alloc (.cells c0 t0)).alloc (.cells c1 t1)).alloc (.cells c2 t2)).alloc (.cells c3 t3)) (w.heap.size + 1 + 1 + 1) t3 c3 := by
  obtain ⟨h0, h1, h2⟩ := three_tblks w t0 t1 t2 c0 c1 c2
  refine ⟨h0.alloc _, h1.alloc _, h2.alloc _, ?_⟩
  have h := Blk.new (((w.alloc (.cells c0 t0)).alloc (.cells c1 t1)).alloc (.cells c2 t2)) t3 c3
  simpa using h
set_option maxRecDepth 100000 in
set_option maxHeartbeats 4000000 in
theorem match_top (p : Co) (t : Tm) (v : VSt) (A : Option Addr) (n c : Nat) (D : Option Addr) (m d : Nat) (css : List (List Value)) (w : World) (B : Nat → Prop) (kd : Int) (tx : ByteArray) (nm tk : Int) (ng : Bool) (la : Option Addr) (ln lc : Nat) (tt : ByteArray) (tn : Int) (ia : Option Addr) (im ic : Nat) (ta : Option Addr) (tm tc : Nat) (ka : Option Addr) (kn kc : Nat) (kd' : Int) (ng' : Bool) (la' : Option Addr) (ln' lc' : Nat) (tx' : ByteArray) (nm' : Int) (ia' : Option Addr) (im' ic' : Nat) (ta' : Option Addr) (tn' tc' : Nat) (h : VIn w B A n c D m d css v) (hov : okTs v.vals) (hot : okT t) (hoc : okC p) (hp : CoreIn w B false [.int .u8 kd, .string tx, .int .i64 nm, .int .u8 tk, .bool ng, .slice la ln lc, .string tt, .int .i64 tn, .slice ia im ic, .slice ta tm tc, .slice ka kn kc] p) (ht : TermIn w B false [.int .u8 kd', .bool ng', .slice la' ln' lc', .string tx', .int .i64 nm', .slice ia' im' ic', .slice ta' tn' tc'] t) :
    Calls Tryz.prog 10 #[.agg #[.int .u8 kd, .string tx, .int .i64 nm, .int .u8 tk, .bool ng, .slice la ln lc, .string tt, .int .i64 tn, .slice ia im ic, .slice ta tm tc, .slice ka kn kc], .agg #[.int .u8 kd', .bool ng', .slice la' ln' lc', .string tx', .int .i64 nm', .slice ia' im' ic', .slice ta' tn' tc'], .agg #[.slice A n c, .slice D m d]] w (MatchP w (matchF p t v)) := by
  have HK0 := hide (((((Keeps.refl NoB w).alloc (.cells #[.int .u8 kd, .string tx, .int .i64 nm, .int .u8 tk, .bool ng, .slice la ln lc, .string tt, .int .i64 tn, .slice ia im ic, .slice ta tm tc, .slice ka kn kc] 34)).alloc (.cells #[.int .u8 kd', .bool ng', .slice la' ln' lc', .string tx', .int .i64 nm', .slice ia' im' ic', .slice ta' tn' tc'] 26)).alloc (.cells #[.slice A n c, .slice D m d] 39)).alloc (.cells #[.slice none 0 0, .slice none 0 0] 39))
  have HP0 := hide (four_blks w 34 26 39 39 #[.int .u8 kd, .string tx, .int .i64 nm, .int .u8 tk, .bool ng, .slice la ln lc, .string tt, .int .i64 tn, .slice ia im ic, .slice ta tm tc, .slice ka kn kc] #[.int .u8 kd', .bool ng', .slice la' ln' lc', .string tx', .int .i64 nm', .slice ia' im' ic', .slice ta' tn' tc'] #[.slice A n c, .slice D m d] #[.slice none 0 0, .slice none 0 0]).1; have HT0 := hide (four_blks w 34 26 39 39 #[.int .u8 kd, .string tx, .int .i64 nm, .int .u8 tk, .bool ng, .slice la ln lc, .string tt, .int .i64 tn, .slice ia im ic, .slice ta tm tc, .slice ka kn kc] #[.int .u8 kd', .bool ng', .slice la' ln' lc', .string tx', .int .i64 nm', .slice ia' im' ic', .slice ta' tn' tc'] #[.slice A n c, .slice D m d] #[.slice none 0 0, .slice none 0 0]).2.1; have HV0 := hide (four_blks w 34 26 39 39 #[.int .u8 kd, .string tx, .int .i64 nm, .int .u8 tk, .bool ng, .slice la ln lc, .string tt, .int .i64 tn, .slice ia im ic, .slice ta tm tc, .slice ka kn kc] #[.int .u8 kd', .bool ng', .slice la' ln' lc', .string tx', .int .i64 nm', .slice ia' im' ic', .slice ta' tn' tc'] #[.slice A n c, .slice D m d] #[.slice none 0 0, .slice none 0 0]).2.2.1; have HR0 := hide (four_blks w 34 26 39 39 #[.int .u8 kd, .string tx, .int .i64 nm, .int .u8 tk, .bool ng, .slice la ln lc, .string tt, .int .i64 tn, .slice ia im ic, .slice ta tm tc, .slice ka kn kc] #[.int .u8 kd', .bool ng', .slice la' ln' lc', .string tx', .int .i64 nm', .slice ia' im' ic', .slice ta' tn' tc'] #[.slice A n c, .slice D m d] #[.slice none 0 0, .slice none 0 0]).2.2.2
  have H := hide h.old; have HOV := hide hov; have HOT := hide hot; have HOC := hide hoc
  have HP := hide (CoreIn.more (B' := fun k => k < w.heap.size) (fun k hk _ => hk) _ _ hp); have HT := hide (TermIn.more (B' := fun k => k < w.heap.size) (fun k hk _ => hk) _ _ ht)
  have HNH := hide h.nh; have HNV := hide h.nv
  have hn63 : n ≤ 9223372036854775807 := by have := h.r1.1; unfold Roomy at this; omega
  have hm63 : m ≤ 9223372036854775807 := by have := h.r2.1; unfold Roomy at this; omega
  clear h hov hot hoc hp ht
  have hno : ∀ (wx : World), Keeps NoB w wx → Blk wx (w.heap.size + 1 + 1 + 1) 39 #[.slice none 0 0, .slice none 0 0] → matchF p t v = none → MatchP w (matchF p t v) (.returned (.tuple #[.agg #[.slice none 0 0, .slice none 0 0], .bool false])) ((wx.setCell ⟨w.heap.size + 1 + 1 + 1, 0, none⟩ (.slice none 0 0)).setCell ⟨w.heap.size + 1 + 1 + 1, 1, none⟩ (.slice none 0 0)) := by
    intro wx hk hb e
    rw [e]
    refine ⟨none, 0, 0, none, 0, 0, [], rfl, ⟨Reads.zero _ _ _ _ _, Reads.zero _ _ _ _ _, by unfold noV TermsIn; trivial, RoomC.zero _, RoomC.zero _⟩, by unfold noV okTs; trivial, rfl, ?_⟩
    exact hk.trans' (((Keeps.refl (fun k => k = w.heap.size + 1 + 1 + 1) wx).setCell (p := ⟨w.heap.size + 1 + 1 + 1, 0, none⟩) (.inl rfl) _).setCell (p := ⟨w.heap.size + 1 + 1 + 1, 1, none⟩) (.inl rfl) _) (fun _ _ => id) (fun k hk e => by omega)
  have hbz : ∀ (wx : World), Blk wx (w.heap.size + 1 + 1 + 1) 39 #[.slice none 0 0, .slice none 0 0] → Blk ((wx.setCell ⟨w.heap.size + 1 + 1 + 1, 0, none⟩ (.slice none 0 0)).setCell ⟨w.heap.size + 1 + 1 + 1, 1, none⟩ (.slice none 0 0)) (w.heap.size + 1 + 1 + 1) 39 #[.slice none 0 0, .slice none 0 0] := fun wx hb => by simpa using (hb.put 0 (.slice none 0 0)).put 1 (.slice none 0 0)
  have HNO := hide hno; have HBZ := hide hbz
  clear hno hbz
  go_enter Tryz.func10, Tryz.ntmps10
  go_upto_region 1 with fail
  generalize (((w.alloc (.cells #[.int .u8 kd, .string tx, .int .i64 nm, .int .u8 tk, .bool ng, .slice la ln lc, .string tt, .int .i64 tn, .slice ia im ic, .slice ta tm tc, .slice ka kn kc] 34)).alloc (.cells #[.int .u8 kd', .bool ng', .slice la' ln' lc', .string tx', .int .i64 nm', .slice ia' im' ic', .slice ta' tn' tc'] 26)).alloc (.cells #[.slice A n c, .slice D m d] 39)).alloc (.cells #[.slice none 0 0, .slice none 0 0] 39) = w0 at *
  obtain ⟨t0, t1, t2, t3, t4, t5, t6⟩ := Blk.c7 (show Blk w0 (w.heap.size + 1) _ #[.int .u8 kd', .bool ng', .slice la' ln' lc', .string tx', .int .i64 nm', .slice ia' im' ic', .slice ta' tn' tc'] from HT0.out)
  cases hr : rightT t with
  | false =>
    have HR := hide hr; have HF := hide (show matchF p t v = none from by unfold matchF; rw [if_neg (by rw [hr]; simp)])
    clear hr
    go_wp2_with
      first
      | (go_at_call 7
         refine (tm_right t w0 _ _ _ _ _ _ _ _ _ _ _ _ _ _ _ (TermIn.keep HK0.out (fun _ _ => id) _ _ HT.out)).mono ?_
         rintro e w1 ⟨rfl, hk1⟩
         rw [HR.out]
         have HK1 := hide (HK0.out.trans' hk1 (fun _ _ => id) (fun _ _ => id) : Keeps NoB w w1); have HR1 := hide (HR0.out.keep hk1 id)
         have r0 := HR1.out.cell 0; have r1 := HR1.out.cell 1
         have s0 : w1.frozen? ⟨w.heap.size + 1 + 1 + 1, 0, none⟩ = false := HR1.out.free 0; have s1 : w1.frozen? ⟨w.heap.size + 1 + 1 + 1, 1, none⟩ = false := HR1.out.free 1
         clear hk1)
      | fail
    refine bodyPost_ret (results_match _ _ _ _ _ _ rfl rfl (HBZ.out w1 HR1.out)) rfl ?_
    exact HNO.out w1 HK1.out HR1.out HF.out
  | true =>
    have HR := hide hr
    by_cases hnm : n = m
    · have HMA := hide (show v.made from by unfold VSt.made; have := HNH.out; have := HNV.out; omega)
      have HD := hide (show decide (n = m) = true from by simpa using hnm)
      have HF := hide (show matchF p t v = matchN p t v from by unfold matchF; rw [if_pos ⟨hr, HMA.out⟩])
      clear hr hnm
      go_upto_region 4 with
        first
        | (go_at_call 7
           refine (tm_right t w0 _ _ _ _ _ _ _ _ _ _ _ _ _ _ _ (TermIn.keep HK0.out (fun _ _ => id) _ _ HT.out)).mono ?_
           rintro e w1 ⟨rfl, hk1⟩
           rw [HR.out]
           have HK1 := hide (HK0.out.trans' hk1 (fun _ _ => id) (fun _ _ => id) : Keeps NoB w w1); have HV1 := hide (HV0.out.keep hk1 id); have HP1 := hide (HP0.out.keep hk1 id); have HT1 := hide (HT0.out.keep hk1 id); have HR1 := hide (HR0.out.keep hk1 id)
           have v0 := HV1.out.cell 0; have v1 := HV1.out.cell 1
           clear hk1)
        | (go_at_call 26
           refine (vmade_any A n c D m d w1 hn63 hm63).mono ?_
           rintro e w2 ⟨rfl, hk2⟩
           rw [HD.out]
           have HK2 := hide (HK1.out.trans' hk2 (fun _ _ => id) (fun _ _ => id) : Keeps NoB w w2); have HV2 := hide (HV1.out.keep hk2 id); have HP2 := hide (HP1.out.keep hk2 id); have HT2 := hide (HT1.out.keep hk2 id); have HR2 := hide (HR1.out.keep hk2 id)
           have u0 := HV2.out.cell 0; have u1 := HV2.out.cell 1
           clear hk2)
        | (go_at_call 27
           refine (own_vars A n c D m d css v _ w2 (H.out.keep HK2.out (fun _ _ => id))).mono ?_
           rintro e w3 ⟨A3, c3, D3, d3, css3, rfl, hv3, hf3, _, hk3⟩
           have HVA := hide hv3; have HFR := hide hf3
           have HK3 := hide (HK2.out.trans' hk3 (fun _ _ => id) (fun _ _ => id) : Keeps NoB w w3); have HP3 := hide (HP2.out.keep hk3 id); have HT3 := hide (HT2.out.keep hk3 id); have HR3 := hide (HR2.out.keep hk3 id)
           have HZ2 := hide HK2.out.size
           clear hk3 hv3 hf3)
        | fail
      have HB4 := hide (Blk.new w3 39 #[.slice A3 n c3, .slice D3 m d3])
      have HK4 := hide ((Keeps.refl NoB w3).alloc (.cells #[.slice A3 n c3, .slice D3 m d3] 39))
      generalize w3.alloc (.cells #[.slice A3 n c3, .slice D3 m d3] 39) = w4 at *
      clear t0 t1 t2 t3 t4 t5 t6
      have v0 := HB4.out.cell 0; have v1 := HB4.out.cell 1
      have p0 := (HP3.out.keep HK4.out id).cell 0; have p1 := (HP3.out.keep HK4.out id).cell 1; have p2 := (HP3.out.keep HK4.out id).cell 2; have p3 := (HP3.out.keep HK4.out id).cell 3; have p4 := (HP3.out.keep HK4.out id).cell 4; have p5 := (HP3.out.keep HK4.out id).cell 5; have p6 := (HP3.out.keep HK4.out id).cell 6; have p7 := (HP3.out.keep HK4.out id).cell 7; have p8 := (HP3.out.keep HK4.out id).cell 8; have p9 := (HP3.out.keep HK4.out id).cell 9; have p10 := (HP3.out.keep HK4.out id).cell 10
      obtain ⟨y0, y1, y2, y3, y4, y5, y6⟩ := Blk.c7 (show Blk w4 (w.heap.size + 1) _ #[.int .u8 kd', .bool ng', .slice la' ln' lc', .string tx', .int .i64 nm', .slice ia' im' ic', .slice ta' tn' tc'] from HT3.out.keep HK4.out id)
      have HKW := hide (HK3.out.trans' HK4.out (fun _ _ => id) (fun _ _ => id) : Keeps NoB w w4)
      have hlow : ∀ k, k < w.heap.size → Off A3 D3 k := fun k hk => ⟨fun h => by have := HFR.out k (.inl h); have := HZ2.out; omega, fun h => by have := HFR.out k (.inr h); have := HZ2.out; omega⟩
      have HPW := hide (CoreIn.more (fun k _ hk => hlow k hk) _ _ (CoreIn.keep HKW.out (fun _ _ => id) _ _ HP.out)); have HTW := hide (TermIn.more (fun k _ hk => hlow k hk) _ _ (TermIn.keep HKW.out (fun _ _ => id) _ _ HT.out))
      have HGR := hide (show ∀ k, Rows2 A3 D3 k → ¬ k = w.heap.size + 1 + 1 + 1 from fun k hk e => by have := HFR.out k hk; have := HR2.out.lt; omega)
      have HG8 := hide (show ∀ k, Rows2 A3 D3 k → ¬ k = w3.heap.size from fun k hk e => by rcases hk with hk | hk; have := HVA.out.hb.lt hk; omega; have := HVA.out.hv.lt hk; omega)
      clear hlow
      go_wp2_with
        first
        | (go_at_call 28
           refine (match_all _ p (Nat.le_refl _) t v A3 n c3 D3 m d3 css3 w4 (HVA.out.keep HK4.out) HMA.out HOV.out HOT.out HOC.out _ _ _ _ _ _ _ _ _ _ _ _ _ _ _ _ _ _ _ _ _ _ _ _ _ _ _ _ _ _ _ _ HPW.out HTW.out).mono ?_
           rintro e w5 ⟨b, css5, v5, rfl, q1, q2, q3, q4, q5⟩
           have HQ1 := hide q1; have HQ4 := hide q4
           have HKF := hide (HKW.out.trans' q5 (fun _ _ => id) (fun k hk h => by have := HFR.out k h; have := HZ2.out; omega) : Keeps NoB w w5)
           have HR5 := hide ((HR3.out.keep HK4.out id).keep q5 (fun h => HGR.out _ h rfl))
           have HB5 := hide (HB4.out.keep q5 (fun h => HG8.out _ h rfl))
           have r0 := HR5.out.cell 0; have r1 := HR5.out.cell 1
           have s0 : w5.frozen? ⟨w.heap.size + 1 + 1 + 1, 0, none⟩ = false := HR5.out.free 0; have s1 : w5.frozen? ⟨w.heap.size + 1 + 1 + 1, 1, none⟩ = false := HR5.out.free 1
           have z0 := HB5.out.cell 0; have z1 := HB5.out.cell 1
           have HNF : Hid (b = false → matchF p t v = none) := hide (fun h => HF.out.trans (q3 h))
           have HNT : Hid (b = true → matchF p t v = some v5) := hide (fun h => HF.out.trans (q2 h))
           clear q1 q2 q3 q4 q5)
        | fail
      · rename_i hb
        have hbf : b = false := by simpa using hb
        have hm := HNF.out hbf
        refine bodyPost_ret (results_match _ _ _ _ _ _ rfl rfl (HBZ.out w5 HR5.out)) rfl ?_
        exact HNO.out w5 HKF.out HR5.out hm
      · rename_i hb
        have hbt : b = true := by simpa using hb
        have hm := HNT.out hbt
        have hb2 : Blk ((w5.setCell ⟨w.heap.size + 1 + 1 + 1, 0, none⟩ (.slice A3 n c3)).setCell ⟨w.heap.size + 1 + 1 + 1, 1, none⟩ (.slice D3 m d3)) (w.heap.size + 1 + 1 + 1) 39 #[.slice A3 n c3, .slice D3 m d3] := by simpa using (HR5.out.put 0 (.slice A3 n c3)).put 1 (.slice D3 m d3)
        have hkb := (((Keeps.refl (fun k => k = w.heap.size + 1 + 1 + 1) w5).setCell (p := ⟨w.heap.size + 1 + 1 + 1, 0, none⟩) (.inl rfl) (.slice A3 n c3)).setCell (p := ⟨w.heap.size + 1 + 1 + 1, 1, none⟩) (.inl rfl) (.slice D3 m d3))
        refine bodyPost_ret (results_match _ _ _ _ _ _ rfl rfl hb2) rfl ?_
        rw [hm]
        refine ⟨A3, n, c3, D3, m, d3, css5, rfl, ⟨?_, ?_, ?_, ⟨HQ1.out.r1, HQ1.out.hb.2.1, HQ1.out.hb.2.2.1⟩, ⟨HQ1.out.r2, HQ1.out.hv.2.1, HQ1.out.hv.2.2.1⟩⟩, HQ4.out, (HVA.out.keep HK4.out).made HQ1.out HMA.out, HKF.out.trans' hkb (fun _ _ => id) (fun k hk e => by omega)⟩
        · exact ((HQ1.out.hb.keep hkb (fun k hk e => HGR.out k (.inl hk) e)).reads.more (fun _ _ _ => trivial)).weak
        · exact ((HQ1.out.hv.keep hkb (fun k hk e => HGR.out k (.inr hk) e)).reads.more (fun _ _ _ => trivial)).weak
        · exact TermsIn.more (fun _ _ _ => trivial) _ _ (TermsIn.keep hkb (fun k hk e => hk.2 e) _ _ (TermsIn.avoid HR5.out.slices _ _ HQ1.out.ht))
    · have HD := hide (show decide (n = m) = false from by simpa using hnm)
      have HF := hide (show matchF p t v = none from by unfold matchF; rw [if_neg (fun h => hnm (by have := h.2; have := HNH.out; have := HNV.out; omega))])
      clear hr hnm
      go_wp2_with
        first
        | (go_at_call 7
           refine (tm_right t w0 _ _ _ _ _ _ _ _ _ _ _ _ _ _ _ (TermIn.keep HK0.out (fun _ _ => id) _ _ HT.out)).mono ?_
           rintro e w1 ⟨rfl, hk1⟩
           rw [HR.out]
           have HK1 := hide (HK0.out.trans' hk1 (fun _ _ => id) (fun _ _ => id) : Keeps NoB w w1); have HV1 := hide (HV0.out.keep hk1 id); have HR1 := hide (HR0.out.keep hk1 id)
           have v0 := HV1.out.cell 0; have v1 := HV1.out.cell 1
           clear hk1)
        | (go_at_call 26
           refine (vmade_any A n c D m d w1 hn63 hm63).mono ?_
           rintro e w2 ⟨rfl, hk2⟩
           rw [HD.out]
           have HK2 := hide (HK1.out.trans' hk2 (fun _ _ => id) (fun _ _ => id) : Keeps NoB w w2); have HR2 := hide (HR1.out.keep hk2 id)
           have r0 := HR2.out.cell 0; have r1 := HR2.out.cell 1
           have s0 : w2.frozen? ⟨w.heap.size + 1 + 1 + 1, 0, none⟩ = false := HR2.out.free 0; have s1 : w2.frozen? ⟨w.heap.size + 1 + 1 + 1, 1, none⟩ = false := HR2.out.free 1
           clear hk2)
        | fail
      refine bodyPost_ret (results_match _ _ _ _ _ _ rfl rfl (HBZ.out w2 HR2.out)) rfl ?_
      exact HNO.out w2 HK2.out HR2.out HF.out
end Go.Proofs.YtjdbjjjbgibpaaaGreatDoor
