/- match: values of a guard's expressions. Printed by mkmatv.py. -/
import Derived.Test.YtjdbjjjbgibpaaaGreatDoorMatTJn
import Derived.Test.YtjdbjjjbgibpaaaGreatDoorRowJn
namespace Go.Proofs.YtjdbjjjbgibpaaaGreatDoor
open Go.RowKit

def GValP (N : Nat) (w : World) (t : Tm) (ok : Bool) (e : Ending) (w' : World) : Prop := ∃ (k1 : Int) (g1 : Bool) (a1 : Option Addr) (n1 c1 : Nat) (s1 : ByteArray) (m1 : Int) (a2 : Option Addr) (n2 c2 : Nat) (a3 : Option Addr) (n3 c3 : Nat), e = .returned (.tuple #[.agg #[.int .u8 k1, .bool g1, .slice a1 n1 c1, .string s1, .int .i64 m1, .slice a2 n2 c2, .slice a3 n3 c3], .bool ok]) ∧ TermIn w' (ResB N w) false [.int .u8 k1, .bool g1, .slice a1 n1 c1, .string s1, .int .i64 m1, .slice a2 n2 c2, .slice a3 n3 c3] t ∧ Keeps NoB w w'
theorem results_val (tmps : Array Value) (g4 : Nat) (b : Bool) (v0 v1 v2 v3 v4 v5 v6 : Value) (w : World) (h4 : tmps[4]? = some (.pointer (some ⟨g4, 0, none⟩))) (h5 : tmps[5]? = some (.bool b)) (hB4 : Blk w g4 26 #[v0, v1, v2, v3, v4, v5, v6]) :
    (results Tryz.f34 tmps).run Tryz.prog w = .ok (.tuple #[.agg #[v0, v1, v2, v3, v4, v5, v6], .bool b]) w := by
  obtain ⟨c0, c1, c2, c3, c4, c5, c6⟩ := Blk.c7 hB4
  have hr : Tryz.f34.results = #[ResultVar.cell 4 26, ResultVar.tmp 5] := by kernel_rfl
  simp [results, hr, go_sem, h4, h5, c0, c1, c2, c3, c4, c5, c6]
set_option maxRecDepth 100000 in
set_option maxHeartbeats 4000000 in
theorem val_const (A : Option Addr) (n c : Nat) (D : Option Addr) (m d : Nat) (tx : ByteArray) (nm tk : Int) (ng : Bool) (la : Option Addr) (ln lc : Nat) (tt : ByteArray) (tn : Int) (ia : Option Addr) (im ic : Nat) (ta : Option Addr) (tm tc : Nat) (ka : Option Addr) (kn kc : Nat) (tr : Tm) (N : Nat) (w : World) (hN : N ≤ w.heap.size) (htr : TermIn w (fun k => k < N) false [.int .u8 tk, .bool ng, .slice la ln lc, .string tt, .int .i64 tn, .slice ia im ic, .slice ta tm tc] tr) :
    Calls Tryz.prog 34 #[.agg #[.slice A n c, .slice D m d], .agg #[.int .u8 1, .string tx, .int .i64 nm, .int .u8 tk, .bool ng, .slice la ln lc, .string tt, .int .i64 tn, .slice ia im ic, .slice ta tm tc, .slice ka kn kc]] w (GValP N w tr (rightT tr)) := by
  have HK0 := hide ((((Keeps.refl NoB w).alloc (.cells #[.slice A n c, .slice D m d] 39)).alloc (.cells #[.int .u8 1, .string tx, .int .i64 nm, .int .u8 tk, .bool ng, .slice la ln lc, .string tt, .int .i64 tn, .slice ia im ic, .slice ta tm tc, .slice ka kn kc] 34)).alloc (.cells #[.int .u8 0, .bool false, .slice none 0 0, .string ⟨#[]⟩, .int .i64 0, .slice none 0 0, .slice none 0 0] 26))
  have HV0 := hide (three_tblks w 39 34 26 #[.slice A n c, .slice D m d] #[.int .u8 1, .string tx, .int .i64 nm, .int .u8 tk, .bool ng, .slice la ln lc, .string tt, .int .i64 tn, .slice ia im ic, .slice ta tm tc, .slice ka kn kc] #[.int .u8 0, .bool false, .slice none 0 0, .string ⟨#[]⟩, .int .i64 0, .slice none 0 0, .slice none 0 0]).1; have HP0 := hide (three_tblks w 39 34 26 #[.slice A n c, .slice D m d] #[.int .u8 1, .string tx, .int .i64 nm, .int .u8 tk, .bool ng, .slice la ln lc, .string tt, .int .i64 tn, .slice ia im ic, .slice ta tm tc, .slice ka kn kc] #[.int .u8 0, .bool false, .slice none 0 0, .string ⟨#[]⟩, .int .i64 0, .slice none 0 0, .slice none 0 0]).2.1; have HR0 := hide (three_tblks w 39 34 26 #[.slice A n c, .slice D m d] #[.int .u8 1, .string tx, .int .i64 nm, .int .u8 tk, .bool ng, .slice la ln lc, .string tt, .int .i64 tn, .slice ia im ic, .slice ta tm tc, .slice ka kn kc] #[.int .u8 0, .bool false, .slice none 0 0, .string ⟨#[]⟩, .int .i64 0, .slice none 0 0, .slice none 0 0]).2.2
  have HT := hide htr
  clear htr
  go_enter Tryz.func34, Tryz.ntmps34
  go_upto_region 1 with fail
  generalize ((w.alloc (.cells #[.slice A n c, .slice D m d] 39)).alloc (.cells #[.int .u8 1, .string tx, .int .i64 nm, .int .u8 tk, .bool ng, .slice la ln lc, .string tt, .int .i64 tn, .slice ia im ic, .slice ta tm tc, .slice ka kn kc] 34)).alloc (.cells #[.int .u8 0, .bool false, .slice none 0 0, .string ⟨#[]⟩, .int .i64 0, .slice none 0 0, .slice none 0 0] 26) = w0 at *
  have p0 := HP0.out.cell 0
  go_upto_region 4 with fail
  refine order_begin (fun W => Keeps NoB w0 W) (fun i => !(i == 5)) (by kernel_rfl) 7 rfl ?_
  have HS : Keeps NoB w0 w0.drew := (Keeps.refl _ _).drew
  refine order_pure (i := 0) rfl (by kernel_rfl) (fun _ _ _ h => h) (.inl ⟨rfl, fun _ => by go_simp; rfl⟩) ?_
  try simp only [Act.put, List.setIfInBounds_toArray, List.set_cons_succ, List.set_cons_zero]
  refine order_held (i := 1) rfl (by kernel_rfl) (fun _ _ _ h => h) (.inl ⟨rfl, fun W hW => by
    have q0 : W.cell? ⟨w.heap.size + 1, 3, none⟩ = some (.int .u8 tk) := hW.cell id (HP0.out.cell 3)
    have q1 : W.cell? ⟨w.heap.size + 1, 4, none⟩ = some (.bool ng) := hW.cell id (HP0.out.cell 4)
    have q2 : W.cell? ⟨w.heap.size + 1, 5, none⟩ = some (.slice la ln lc) := hW.cell id (HP0.out.cell 5)
    have q3 : W.cell? ⟨w.heap.size + 1, 6, none⟩ = some (.string tt) := hW.cell id (HP0.out.cell 6)
    have q4 : W.cell? ⟨w.heap.size + 1, 7, none⟩ = some (.int .i64 tn) := hW.cell id (HP0.out.cell 7)
    have q5 : W.cell? ⟨w.heap.size + 1, 8, none⟩ = some (.slice ia im ic) := hW.cell id (HP0.out.cell 8)
    have q6 : W.cell? ⟨w.heap.size + 1, 9, none⟩ = some (.slice ta tm tc) := hW.cell id (HP0.out.cell 9)
    go_simp; rfl⟩) HS ?_
  try simp only [Act.put, List.setIfInBounds_toArray, List.set_cons_succ, List.set_cons_zero]
  refine order_pure (i := 2) rfl (by kernel_rfl) (fun _ _ _ h => h) (.inl ⟨rfl, fun _ => by go_simp; rfl⟩) ?_
  try simp only [Act.put, List.setIfInBounds_toArray, List.set_cons_succ, List.set_cons_zero]
  refine order_held (i := 3) rfl (by kernel_rfl) (fun _ _ _ h => h) (.inl ⟨rfl, fun W hW => by
    have q0 : W.cell? ⟨w.heap.size + 1, 3, none⟩ = some (.int .u8 tk) := hW.cell id (HP0.out.cell 3)
    have q1 : W.cell? ⟨w.heap.size + 1, 4, none⟩ = some (.bool ng) := hW.cell id (HP0.out.cell 4)
    have q2 : W.cell? ⟨w.heap.size + 1, 5, none⟩ = some (.slice la ln lc) := hW.cell id (HP0.out.cell 5)
    have q3 : W.cell? ⟨w.heap.size + 1, 6, none⟩ = some (.string tt) := hW.cell id (HP0.out.cell 6)
    have q4 : W.cell? ⟨w.heap.size + 1, 7, none⟩ = some (.int .i64 tn) := hW.cell id (HP0.out.cell 7)
    have q5 : W.cell? ⟨w.heap.size + 1, 8, none⟩ = some (.slice ia im ic) := hW.cell id (HP0.out.cell 8)
    have q6 : W.cell? ⟨w.heap.size + 1, 9, none⟩ = some (.slice ta tm tc) := hW.cell id (HP0.out.cell 9)
    go_simp; rfl⟩) HS ?_
  try simp only [Act.put, List.setIfInBounds_toArray, List.set_cons_succ, List.set_cons_zero]
  refine order_one (i := 4) rfl (by kernel_rfl) (fun K hK => ?_)
  go_simp
  refine (tm_right tr _ _ _ _ _ _ _ _ _ _ _ _ _ _ _ _ (TermIn.keep (HK0.out.trans' HS (fun _ _ => id) (fun _ _ => id) : Keeps NoB w _) (fun _ _ => id) _ _ HT.out)).mono ?_
  rintro e w1 ⟨rfl, hk1⟩
  have HS1 : Keeps NoB w0 w1 := HS.trans' hk1 (fun _ _ => id) (fun _ _ => id)
  refine hK _ _ (fun _ _ => HS1) ?_
  have HKS := hide HS1
  clear hK HS hk1 HS1 p0
  try simp only [Act.put, List.setIfInBounds_toArray, List.set_cons_succ, List.set_cons_zero]
  have HR1 := hide (HR0.out.keep HKS.out id)
  obtain ⟨q0, q1, q2, q3, q4, q5, q6⟩ := Blk.c7 (show Blk w1 (w.heap.size + 1 + 1) _ #[.int .u8 0, .bool false, .slice none 0 0, .string ⟨#[]⟩, .int .i64 0, .slice none 0 0, .slice none 0 0] from HR1.out)
  obtain ⟨f0, f1, f2, f3, f4, f5, f6⟩ := Blk.f7 (w := w1) (g := w.heap.size + 1 + 1) HR1.out
  refine order_one (i := 5) rfl (by kernel_rfl) (fun K hK => ?_)
  go_simp
  refine hK _ _ (fun h => absurd h (by decide)) ?_
  clear hK
  try simp only [Act.put, List.setIfInBounds_toArray, List.set_cons_succ, List.set_cons_zero]
  clear q0 f0 q1 f1 q2 f2 q3 f3 q4 f4 q5 f5 q6 f6
  refine order_pure (i := 6) rfl (by kernel_rfl) (fun _ _ _ h => h) (.inl ⟨rfl, fun _ => by go_simp; rfl⟩) ?_
  try simp only [Act.put, List.setIfInBounds_toArray, List.set_cons_succ, List.set_cons_zero]
  refine order_done (by kernel_rfl) ?_
  go_wp2_with fail
  have hA := HR1.out.tput7 (.int .u8 tk) (.bool ng) (.slice la ln lc) (.string tt) (.int .i64 tn) (.slice ia im ic) (.slice ta tm tc)
  have hk := keeps_tput7 w1 (w.heap.size + 1 + 1) (.int .u8 tk) (.bool ng) (.slice la ln lc) (.string tt) (.int .i64 tn) (.slice ia im ic) (.slice ta tm tc)
  refine bodyPost_ret (results_val _ _ _ _ _ _ _ _ _ _ _ rfl rfl hA) rfl ?_
  exact ⟨tk, ng, la, ln, lc, tt, tn, ia, im, ic, ta, tm, tc, rfl, TermIn.more (fun k _ hk => .inl hk) _ _ (TermIn.keep hk (fun j (hj : j < N) e => by omega) _ _ (TermIn.keep (HK0.out.trans' HKS.out (fun _ _ => id) (fun _ _ => id) : Keeps NoB w w1) (fun _ _ => id) _ _ HT.out)), (HK0.out.trans' HKS.out (fun _ _ => id) (fun _ _ => id) : Keeps NoB w w1).trans' hk (fun _ _ => id) (fun j hj e => by omega)⟩
/-- The first kid's cells, where they lie. -/
theorem kid_zero {w : World} {B : Nat → Prop} {F : Bool} {n : Nat} {A : Option Addr} {cs : List Value} {css : List (List Value)} (h : Reads w B F 11 A n (cs :: css).flatten) (h1 : cs.length = 11) (hn : 0 < n) : ∃ b o, A = some ⟨b, o, none⟩ ∧ ∀ j v, cs[j]? = some v → w.cell? ⟨b, o + j, none⟩ = some v := by
  obtain ⟨⟨b, o, sp⟩, e, hs, _, _, hc⟩ := h.2 hn
  simp only at hs
  subst hs
  refine ⟨b, o, e, fun j v hv => (hc j v ?_).1⟩
  rw [List.flatten_cons, List.getElem?_append_left (by have := (List.getElem?_eq_some_iff.1 hv).1; omega)]
  exact hv
set_option maxRecDepth 100000 in
set_option maxHeartbeats 4000000 in
theorem val_all_no (A : Option Addr) (n c : Nat) (D : Option Addr) (m d : Nat) (tx : ByteArray) (nm tk : Int) (ng : Bool) (la : Option Addr) (ln lc : Nat) (tt : ByteArray) (tn : Int) (ia : Option Addr) (im ic : Nat) (ta : Option Addr) (tm tc : Nat) (ka : Option Addr) (kn kc : Nat) (k0 : Int) (tx0 : ByteArray) (nm0 tk0 : Int) (ng0 : Bool) (la0 : Option Addr) (ln0 lc0 : Nat) (tt0 : ByteArray) (tn0 : Int) (ia0 : Option Addr) (im0 ic0 : Nat) (ta0 : Option Addr) (tm0 tc0 : Nat) (ka0 : Option Addr) (kn0 kc0 : Nat) (kcss : List (List Value)) (t0 : Tm) (N : Nat) (w : World) (hN : N ≤ w.heap.size) (hk : Reads w (fun _ => True) false 11 ka kn ([.int .u8 k0, .string tx0, .int .i64 nm0, .int .u8 tk0, .bool ng0, .slice la0 ln0 lc0, .string tt0, .int .i64 tn0, .slice ia0 im0 ic0, .slice ta0 tm0 tc0, .slice ka0 kn0 kc0] :: kcss).flatten) (hkn : 0 < kn) (hr : Roomy kn 160)
    (hv : ∀ w', Keeps NoB w w' → Calls Tryz.prog 34 #[.agg #[.slice A n c, .slice D m d], .agg #[.int .u8 k0, .string tx0, .int .i64 nm0, .int .u8 tk0, .bool ng0, .slice la0 ln0 lc0, .string tt0, .int .i64 tn0, .slice ia0 im0 ic0, .slice ta0 tm0 tc0, .slice ka0 kn0 kc0]] w' (GValP N w' t0 false)) :
    Calls Tryz.prog 34 #[.agg #[.slice A n c, .slice D m d], .agg #[.int .u8 30, .string tx, .int .i64 nm, .int .u8 tk, .bool ng, .slice la ln lc, .string tt, .int .i64 tn, .slice ia im ic, .slice ta tm tc, .slice ka kn kc]] w (GValP N w t0 false) := by
  obtain ⟨kb, ko, hka, hkc⟩ := kid_zero hk rfl (by omega)
  subst hka
  have HK0 := hide ((((Keeps.refl NoB w).alloc (.cells #[.slice A n c, .slice D m d] 39)).alloc (.cells #[.int .u8 30, .string tx, .int .i64 nm, .int .u8 tk, .bool ng, .slice la ln lc, .string tt, .int .i64 tn, .slice ia im ic, .slice ta tm tc, .slice (some ⟨kb, ko, none⟩) kn kc] 34)).alloc (.cells #[.int .u8 0, .bool false, .slice none 0 0, .string ⟨#[]⟩, .int .i64 0, .slice none 0 0, .slice none 0 0] 26))
  have HV0 := hide (three_tblks w 39 34 26 #[.slice A n c, .slice D m d] #[.int .u8 30, .string tx, .int .i64 nm, .int .u8 tk, .bool ng, .slice la ln lc, .string tt, .int .i64 tn, .slice ia im ic, .slice ta tm tc, .slice (some ⟨kb, ko, none⟩) kn kc] #[.int .u8 0, .bool false, .slice none 0 0, .string ⟨#[]⟩, .int .i64 0, .slice none 0 0, .slice none 0 0]).1; have HP0 := hide (three_tblks w 39 34 26 #[.slice A n c, .slice D m d] #[.int .u8 30, .string tx, .int .i64 nm, .int .u8 tk, .bool ng, .slice la ln lc, .string tt, .int .i64 tn, .slice ia im ic, .slice ta tm tc, .slice (some ⟨kb, ko, none⟩) kn kc] #[.int .u8 0, .bool false, .slice none 0 0, .string ⟨#[]⟩, .int .i64 0, .slice none 0 0, .slice none 0 0]).2.1; have HR0 := hide (three_tblks w 39 34 26 #[.slice A n c, .slice D m d] #[.int .u8 30, .string tx, .int .i64 nm, .int .u8 tk, .bool ng, .slice la ln lc, .string tt, .int .i64 tn, .slice ia im ic, .slice ta tm tc, .slice (some ⟨kb, ko, none⟩) kn kc] #[.int .u8 0, .bool false, .slice none 0 0, .string ⟨#[]⟩, .int .i64 0, .slice none 0 0, .slice none 0 0]).2.2
  have HKC := hide hkc; have HV := hide hv
  have hk63 : kn ≤ 9223372036854775807 := by unfold Roomy at hr; omega
  have hlt : (0 : Int) < (kn : Int) := by omega
  clear hk hr hv hkc
  go_enter Tryz.func34, Tryz.ntmps34
  go_upto_region 1 with fail
  generalize ((w.alloc (.cells #[.slice A n c, .slice D m d] 39)).alloc (.cells #[.int .u8 30, .string tx, .int .i64 nm, .int .u8 tk, .bool ng, .slice la ln lc, .string tt, .int .i64 tn, .slice ia im ic, .slice ta tm tc, .slice (some ⟨kb, ko, none⟩) kn kc] 34)).alloc (.cells #[.int .u8 0, .bool false, .slice none 0 0, .string ⟨#[]⟩, .int .i64 0, .slice none 0 0, .slice none 0 0] 26) = w0 at *
  have p0 := HP0.out.cell 0
  have p10 := HP0.out.cell 10
  go_wp2_with fail
  go_loopg [43] kn (fun gg s43 wx => kn = gg ∧ s43 = .int .i64 0 ∧ Keeps NoB w0 wx)
  case atStart => exact ⟨rfl, rfl, Keeps.refl _ _⟩
  case round =>
    obtain ⟨rfl, rfl, hkw⟩ := hrel
    have HKW := hide hkw
    have HKF := hide (HK0.out.trans' hkw (fun _ _ => id) (fun _ _ => id) : Keeps NoB w wr)
    clear hkw
    have j0 : wr.cell? ⟨kb, ko, none⟩ = some (.int .u8 k0) := HKF.out.cell id (HKC.out 0 _ rfl); have j1 : wr.cell? ⟨kb, ko + 1, none⟩ = some (.string tx0) := HKF.out.cell id (HKC.out 1 _ rfl); have j2 : wr.cell? ⟨kb, ko + 2, none⟩ = some (.int .i64 nm0) := HKF.out.cell id (HKC.out 2 _ rfl); have j3 : wr.cell? ⟨kb, ko + 3, none⟩ = some (.int .u8 tk0) := HKF.out.cell id (HKC.out 3 _ rfl); have j4 : wr.cell? ⟨kb, ko + 4, none⟩ = some (.bool ng0) := HKF.out.cell id (HKC.out 4 _ rfl); have j5 : wr.cell? ⟨kb, ko + 5, none⟩ = some (.slice la0 ln0 lc0) := HKF.out.cell id (HKC.out 5 _ rfl); have j6 : wr.cell? ⟨kb, ko + 6, none⟩ = some (.string tt0) := HKF.out.cell id (HKC.out 6 _ rfl); have j7 : wr.cell? ⟨kb, ko + 7, none⟩ = some (.int .i64 tn0) := HKF.out.cell id (HKC.out 7 _ rfl); have j8 : wr.cell? ⟨kb, ko + 8, none⟩ = some (.slice ia0 im0 ic0) := HKF.out.cell id (HKC.out 8 _ rfl); have j9 : wr.cell? ⟨kb, ko + 9, none⟩ = some (.slice ta0 tm0 tc0) := HKF.out.cell id (HKC.out 9 _ rfl); have j10 : wr.cell? ⟨kb, ko + 10, none⟩ = some (.slice ka0 kn0 kc0) := HKF.out.cell id (HKC.out 10 _ rfl)
    have HBK := hide (Blk.new wr 34 #[.int .u8 k0, .string tx0, .int .i64 nm0, .int .u8 tk0, .bool ng0, .slice la0 ln0 lc0, .string tt0, .int .i64 tn0, .slice ia0 im0 ic0, .slice ta0 tm0 tc0, .slice ka0 kn0 kc0])
    have HKA := hide ((Keeps.refl NoB wr).alloc (.cells #[.int .u8 k0, .string tx0, .int .i64 nm0, .int .u8 tk0, .bool ng0, .slice la0 ln0 lc0, .string tt0, .int .i64 tn0, .slice ia0 im0 ic0, .slice ta0 tm0 tc0, .slice ka0 kn0 kc0] 34))
    have e0 : (wr.alloc (.cells #[.int .u8 k0, .string tx0, .int .i64 nm0, .int .u8 tk0, .bool ng0, .slice la0 ln0 lc0, .string tt0, .int .i64 tn0, .slice ia0 im0 ic0, .slice ta0 tm0 tc0, .slice ka0 kn0 kc0] 34)).cell? ⟨wr.heap.size, 0, none⟩ = some (.int .u8 k0) := HBK.out.cell 0; have e1 : (wr.alloc (.cells #[.int .u8 k0, .string tx0, .int .i64 nm0, .int .u8 tk0, .bool ng0, .slice la0 ln0 lc0, .string tt0, .int .i64 tn0, .slice ia0 im0 ic0, .slice ta0 tm0 tc0, .slice ka0 kn0 kc0] 34)).cell? ⟨wr.heap.size, 1, none⟩ = some (.string tx0) := HBK.out.cell 1; have e2 : (wr.alloc (.cells #[.int .u8 k0, .string tx0, .int .i64 nm0, .int .u8 tk0, .bool ng0, .slice la0 ln0 lc0, .string tt0, .int .i64 tn0, .slice ia0 im0 ic0, .slice ta0 tm0 tc0, .slice ka0 kn0 kc0] 34)).cell? ⟨wr.heap.size, 2, none⟩ = some (.int .i64 nm0) := HBK.out.cell 2; have e3 : (wr.alloc (.cells #[.int .u8 k0, .string tx0, .int .i64 nm0, .int .u8 tk0, .bool ng0, .slice la0 ln0 lc0, .string tt0, .int .i64 tn0, .slice ia0 im0 ic0, .slice ta0 tm0 tc0, .slice ka0 kn0 kc0] 34)).cell? ⟨wr.heap.size, 3, none⟩ = some (.int .u8 tk0) := HBK.out.cell 3; have e4 : (wr.alloc (.cells #[.int .u8 k0, .string tx0, .int .i64 nm0, .int .u8 tk0, .bool ng0, .slice la0 ln0 lc0, .string tt0, .int .i64 tn0, .slice ia0 im0 ic0, .slice ta0 tm0 tc0, .slice ka0 kn0 kc0] 34)).cell? ⟨wr.heap.size, 4, none⟩ = some (.bool ng0) := HBK.out.cell 4; have e5 : (wr.alloc (.cells #[.int .u8 k0, .string tx0, .int .i64 nm0, .int .u8 tk0, .bool ng0, .slice la0 ln0 lc0, .string tt0, .int .i64 tn0, .slice ia0 im0 ic0, .slice ta0 tm0 tc0, .slice ka0 kn0 kc0] 34)).cell? ⟨wr.heap.size, 5, none⟩ = some (.slice la0 ln0 lc0) := HBK.out.cell 5; have e6 : (wr.alloc (.cells #[.int .u8 k0, .string tx0, .int .i64 nm0, .int .u8 tk0, .bool ng0, .slice la0 ln0 lc0, .string tt0, .int .i64 tn0, .slice ia0 im0 ic0, .slice ta0 tm0 tc0, .slice ka0 kn0 kc0] 34)).cell? ⟨wr.heap.size, 6, none⟩ = some (.string tt0) := HBK.out.cell 6; have e7 : (wr.alloc (.cells #[.int .u8 k0, .string tx0, .int .i64 nm0, .int .u8 tk0, .bool ng0, .slice la0 ln0 lc0, .string tt0, .int .i64 tn0, .slice ia0 im0 ic0, .slice ta0 tm0 tc0, .slice ka0 kn0 kc0] 34)).cell? ⟨wr.heap.size, 7, none⟩ = some (.int .i64 tn0) := HBK.out.cell 7; have e8 : (wr.alloc (.cells #[.int .u8 k0, .string tx0, .int .i64 nm0, .int .u8 tk0, .bool ng0, .slice la0 ln0 lc0, .string tt0, .int .i64 tn0, .slice ia0 im0 ic0, .slice ta0 tm0 tc0, .slice ka0 kn0 kc0] 34)).cell? ⟨wr.heap.size, 8, none⟩ = some (.slice ia0 im0 ic0) := HBK.out.cell 8; have e9 : (wr.alloc (.cells #[.int .u8 k0, .string tx0, .int .i64 nm0, .int .u8 tk0, .bool ng0, .slice la0 ln0 lc0, .string tt0, .int .i64 tn0, .slice ia0 im0 ic0, .slice ta0 tm0 tc0, .slice ka0 kn0 kc0] 34)).cell? ⟨wr.heap.size, 9, none⟩ = some (.slice ta0 tm0 tc0) := HBK.out.cell 9; have e10 : (wr.alloc (.cells #[.int .u8 k0, .string tx0, .int .i64 nm0, .int .u8 tk0, .bool ng0, .slice la0 ln0 lc0, .string tt0, .int .i64 tn0, .slice ia0 im0 ic0, .slice ta0 tm0 tc0, .slice ka0 kn0 kc0] 34)).cell? ⟨wr.heap.size, 10, none⟩ = some (.slice ka0 kn0 kc0) := HBK.out.cell 10
    have v0 : (wr.alloc (.cells #[.int .u8 k0, .string tx0, .int .i64 nm0, .int .u8 tk0, .bool ng0, .slice la0 ln0 lc0, .string tt0, .int .i64 tn0, .slice ia0 im0 ic0, .slice ta0 tm0 tc0, .slice ka0 kn0 kc0] 34)).cell? ⟨w.heap.size, 0, none⟩ = some (.slice A n c) := ((HV0.out.keep HKW.out id).keep HKA.out id).cell 0
    have v1 : (wr.alloc (.cells #[.int .u8 k0, .string tx0, .int .i64 nm0, .int .u8 tk0, .bool ng0, .slice la0 ln0 lc0, .string tt0, .int .i64 tn0, .slice ia0 im0 ic0, .slice ta0 tm0 tc0, .slice ka0 kn0 kc0] 34)).cell? ⟨w.heap.size, 1, none⟩ = some (.slice D m d) := ((HV0.out.keep HKW.out id).keep HKA.out id).cell 1
    go_upto_region 14 with
      first
      | (go_at_call 34
         refine (HV.out _ (HKF.out.trans' HKA.out (fun _ _ => id) (fun _ _ => id))).mono ?_
         rintro e w2 ⟨k1, g1, a1, n1, c1, s1, m1, a2, n2, c2, a3, n3, c3, rfl, ht2, hk2⟩
         have HT2 := hide ht2
         have HK2 := hide (HKA.out.trans' hk2 (fun _ _ => id) (fun _ _ => id) : Keeps NoB wr w2)
         clear hk2 ht2)
      | fail
    clear j0 e0 j1 e1 j2 e2 j3 e3 j4 e4 j5 e5 j6 e6 j7 e7 j8 e8 j9 e9 j10 e10 v0 v1
    have HBT := hide (Blk.new w2 26 #[.int .u8 k1, .bool g1, .slice a1 n1 c1, .string s1, .int .i64 m1, .slice a2 n2 c2, .slice a3 n3 c3])
    have HKT := hide ((Keeps.refl NoB w2).alloc (.cells #[.int .u8 k1, .bool g1, .slice a1 n1 c1, .string s1, .int .i64 m1, .slice a2 n2 c2, .slice a3 n3 c3] 26))
    generalize w2.alloc (.cells #[.int .u8 k1, .bool g1, .slice a1 n1 c1, .string s1, .int .i64 m1, .slice a2 n2 c2, .slice a3 n3 c3] 26) = w3 at *
    have HK3 := hide ((HKW.out.trans' HK2.out (fun _ _ => id) (fun _ _ => id) : Keeps NoB w0 w2).trans' HKT.out (fun _ _ => id) (fun _ _ => id) : Keeps NoB w0 w3)
    refine order_begin (fun W => Keeps NoB w3 W) (fun _ => true) (by kernel_rfl) 18 rfl ?_
    have HS : Keeps NoB w3 w3.drew := (Keeps.refl _ _).drew
    have HP3 := hide (HP0.out.keep HK3.out id)
    refine order_pure (i := 0) rfl (by kernel_rfl) (fun _ _ _ h => h) (.inl ⟨rfl, fun _ => by go_simp; rfl⟩) ?_
    try simp only [Act.put, List.setIfInBounds_toArray, List.set_cons_succ, List.set_cons_zero]
    refine order_pure (i := 1) rfl (by kernel_rfl) (fun _ _ _ h => h) (.inl ⟨rfl, fun _ => by go_simp; rfl⟩) ?_
    try simp only [Act.put, List.setIfInBounds_toArray, List.set_cons_succ, List.set_cons_zero]
    refine order_pure (i := 2) rfl (by kernel_rfl) (fun _ _ _ h => h) (.inl ⟨rfl, fun _ => by go_simp; rfl⟩) ?_
    try simp only [Act.put, List.setIfInBounds_toArray, List.set_cons_succ, List.set_cons_zero]
    refine order_skip (i := 3) rfl (by kernel_rfl) (fun _ _ _ h => h) (by kernel_rfl) ?_
    try simp only [Act.put, List.setIfInBounds_toArray, List.set_cons_succ, List.set_cons_zero]
    refine order_skip (i := 4) rfl (by kernel_rfl) (fun _ _ _ h => h) (by kernel_rfl) ?_
    try simp only [Act.put, List.setIfInBounds_toArray, List.set_cons_succ, List.set_cons_zero]
    refine order_skip (i := 5) rfl (by kernel_rfl) (fun _ _ _ h => h) (by kernel_rfl) ?_
    try simp only [Act.put, List.setIfInBounds_toArray, List.set_cons_succ, List.set_cons_zero]
    refine order_skip (i := 6) rfl (by kernel_rfl) (fun _ _ _ h => h) (by kernel_rfl) ?_
    try simp only [Act.put, List.setIfInBounds_toArray, List.set_cons_succ, List.set_cons_zero]
    refine order_skip (i := 7) rfl (by kernel_rfl) (fun _ _ _ h => h) (by kernel_rfl) ?_
    try simp only [Act.put, List.setIfInBounds_toArray, List.set_cons_succ, List.set_cons_zero]
    refine order_skip (i := 8) rfl (by kernel_rfl) (fun _ _ _ h => h) (by kernel_rfl) ?_
    try simp only [Act.put, List.setIfInBounds_toArray, List.set_cons_succ, List.set_cons_zero]
    refine order_pure (i := 9) rfl (by kernel_rfl) (fun _ _ _ h => h) (.inl ⟨rfl, fun _ => by go_simp; rfl⟩) ?_
    try simp only [Act.put, List.setIfInBounds_toArray, List.set_cons_succ, List.set_cons_zero]
    refine order_pure (i := 10) rfl (by kernel_rfl) (fun _ _ _ h => h) (.inl ⟨rfl, fun _ => by go_simp; rfl⟩) ?_
    try simp only [Act.put, List.setIfInBounds_toArray, List.set_cons_succ, List.set_cons_zero]
    refine order_skip (i := 11) rfl (by kernel_rfl) (fun _ _ _ h => h) (by kernel_rfl) ?_
    try simp only [Act.put, List.setIfInBounds_toArray, List.set_cons_succ, List.set_cons_zero]
    refine order_skip (i := 12) rfl (by kernel_rfl) (fun _ _ _ h => h) (by kernel_rfl) ?_
    try simp only [Act.put, List.setIfInBounds_toArray, List.set_cons_succ, List.set_cons_zero]
    refine order_skip (i := 13) rfl (by kernel_rfl) (fun _ _ _ h => h) (by kernel_rfl) ?_
    try simp only [Act.put, List.setIfInBounds_toArray, List.set_cons_succ, List.set_cons_zero]
    refine order_skip (i := 14) rfl (by kernel_rfl) (fun _ _ _ h => h) (by kernel_rfl) ?_
    try simp only [Act.put, List.setIfInBounds_toArray, List.set_cons_succ, List.set_cons_zero]
    refine order_skip (i := 15) rfl (by kernel_rfl) (fun _ _ _ h => h) (by kernel_rfl) ?_
    try simp only [Act.put, List.setIfInBounds_toArray, List.set_cons_succ, List.set_cons_zero]
    refine order_pure (i := 16) rfl (by kernel_rfl) (fun _ _ _ h => h) (.inl ⟨rfl, fun _ => by go_simp; rfl⟩) ?_
    try simp only [Act.put, List.setIfInBounds_toArray, List.set_cons_succ, List.set_cons_zero]
    refine order_pure (i := 17) rfl (by kernel_rfl) (fun _ _ _ h => h) (.inl ⟨rfl, fun _ => by go_simp; rfl⟩) ?_
    try simp only [Act.put, List.setIfInBounds_toArray, List.set_cons_succ, List.set_cons_zero]
    refine order_done (by kernel_rfl) ?_
    have HKD := hide HS
    clear HS hlt hk63
    have HR4 := hide ((HR0.out.keep HK3.out id).keep HKD.out id)
    generalize w3.drew = w4 at *
    obtain ⟨x0, x1, x2, x3, x4, x5, x6⟩ := Blk.c7 (show Blk w4 (w2.heap.size) _ #[.int .u8 k1, .bool g1, .slice a1 n1 c1, .string s1, .int .i64 m1, .slice a2 n2 c2, .slice a3 n3 c3] from HBT.out.keep HKD.out id)
    obtain ⟨q0, q1, q2, q3, q4, q5, q6⟩ := Blk.c7 (show Blk w4 (w.heap.size + 1 + 1) _ #[.int .u8 0, .bool false, .slice none 0 0, .string ⟨#[]⟩, .int .i64 0, .slice none 0 0, .slice none 0 0] from HR4.out)
    obtain ⟨f0, f1, f2, f3, f4, f5, f6⟩ := Blk.f7 (w := w4) (g := w.heap.size + 1 + 1) HR4.out
    go_wp2_with fail
    have hA := HR4.out.tput7 (.int .u8 k1) (.bool g1) (.slice a1 n1 c1) (.string s1) (.int .i64 m1) (.slice a2 n2 c2) (.slice a3 n3 c3)
    have hk := keeps_tput7 w4 (w.heap.size + 1 + 1) (.int .u8 k1) (.bool g1) (.slice a1 n1 c1) (.string s1) (.int .i64 m1) (.slice a2 n2 c2) (.slice a3 n3 c3)
    refine bodyPost_ret (results_val _ _ _ _ _ _ _ _ _ _ _ rfl rfl hA) rfl ?_
    refine ⟨k1, g1, a1, n1, c1, s1, m1, a2, n2, c2, a3, n3, c3, rfl, ?_, ?_⟩
    · have hz := HK0.out.size; have hz2 := HKW.out.size; have hz3 := HKA.out.size; have hz4 := HR0.out.lt
      refine TermIn.more (fun k _ hk2 => ?_) _ _ (TermIn.keep hk (fun j hj e => ?_) _ _ (TermIn.keep HKD.out (fun _ _ => id) _ _ (TermIn.keep HKT.out (fun _ _ => id) _ _ HT2.out)))
      · rcases hk2 with h | h
        · exact .inl h
        · exact .inr (by omega)
      · rcases hj with h | h
        · omega
        · omega
    · exact ((HK0.out.trans' HK3.out (fun _ _ => id) (fun _ _ => id) : Keeps NoB w w3).trans' HKD.out (fun _ _ => id) (fun _ _ => id)).trans' hk (fun _ _ => id) (fun j hj e => by omega)
set_option maxRecDepth 100000 in
set_option maxHeartbeats 4000000 in
theorem val_any_no (A : Option Addr) (n c : Nat) (D : Option Addr) (m d : Nat) (tx : ByteArray) (nm tk : Int) (ng : Bool) (la : Option Addr) (ln lc : Nat) (tt : ByteArray) (tn : Int) (ia : Option Addr) (im ic : Nat) (ta : Option Addr) (tm tc : Nat) (ka : Option Addr) (kn kc : Nat) (k0 : Int) (tx0 : ByteArray) (nm0 tk0 : Int) (ng0 : Bool) (la0 : Option Addr) (ln0 lc0 : Nat) (tt0 : ByteArray) (tn0 : Int) (ia0 : Option Addr) (im0 ic0 : Nat) (ta0 : Option Addr) (tm0 tc0 : Nat) (ka0 : Option Addr) (kn0 kc0 : Nat) (kcss : List (List Value)) (t0 : Tm) (N : Nat) (w : World) (hN : N ≤ w.heap.size) (hk : Reads w (fun _ => True) false 11 ka kn ([.int .u8 k0, .string tx0, .int .i64 nm0, .int .u8 tk0, .bool ng0, .slice la0 ln0 lc0, .string tt0, .int .i64 tn0, .slice ia0 im0 ic0, .slice ta0 tm0 tc0, .slice ka0 kn0 kc0] :: kcss).flatten) (hkn : 0 < kn) (hr : Roomy kn 160)
    (hv : ∀ w', Keeps NoB w w' → Calls Tryz.prog 34 #[.agg #[.slice A n c, .slice D m d], .agg #[.int .u8 k0, .string tx0, .int .i64 nm0, .int .u8 tk0, .bool ng0, .slice la0 ln0 lc0, .string tt0, .int .i64 tn0, .slice ia0 im0 ic0, .slice ta0 tm0 tc0, .slice ka0 kn0 kc0]] w' (GValP N w' t0 false)) :
    Calls Tryz.prog 34 #[.agg #[.slice A n c, .slice D m d], .agg #[.int .u8 31, .string tx, .int .i64 nm, .int .u8 tk, .bool ng, .slice la ln lc, .string tt, .int .i64 tn, .slice ia im ic, .slice ta tm tc, .slice ka kn kc]] w (GValP N w t0 false) := by
  obtain ⟨kb, ko, hka, hkc⟩ := kid_zero hk rfl (by omega)
  subst hka
  have HK0 := hide ((((Keeps.refl NoB w).alloc (.cells #[.slice A n c, .slice D m d] 39)).alloc (.cells #[.int .u8 31, .string tx, .int .i64 nm, .int .u8 tk, .bool ng, .slice la ln lc, .string tt, .int .i64 tn, .slice ia im ic, .slice ta tm tc, .slice (some ⟨kb, ko, none⟩) kn kc] 34)).alloc (.cells #[.int .u8 0, .bool false, .slice none 0 0, .string ⟨#[]⟩, .int .i64 0, .slice none 0 0, .slice none 0 0] 26))
  have HV0 := hide (three_tblks w 39 34 26 #[.slice A n c, .slice D m d] #[.int .u8 31, .string tx, .int .i64 nm, .int .u8 tk, .bool ng, .slice la ln lc, .string tt, .int .i64 tn, .slice ia im ic, .slice ta tm tc, .slice (some ⟨kb, ko, none⟩) kn kc] #[.int .u8 0, .bool false, .slice none 0 0, .string ⟨#[]⟩, .int .i64 0, .slice none 0 0, .slice none 0 0]).1; have HP0 := hide (three_tblks w 39 34 26 #[.slice A n c, .slice D m d] #[.int .u8 31, .string tx, .int .i64 nm, .int .u8 tk, .bool ng, .slice la ln lc, .string tt, .int .i64 tn, .slice ia im ic, .slice ta tm tc, .slice (some ⟨kb, ko, none⟩) kn kc] #[.int .u8 0, .bool false, .slice none 0 0, .string ⟨#[]⟩, .int .i64 0, .slice none 0 0, .slice none 0 0]).2.1; have HR0 := hide (three_tblks w 39 34 26 #[.slice A n c, .slice D m d] #[.int .u8 31, .string tx, .int .i64 nm, .int .u8 tk, .bool ng, .slice la ln lc, .string tt, .int .i64 tn, .slice ia im ic, .slice ta tm tc, .slice (some ⟨kb, ko, none⟩) kn kc] #[.int .u8 0, .bool false, .slice none 0 0, .string ⟨#[]⟩, .int .i64 0, .slice none 0 0, .slice none 0 0]).2.2
  have HKC := hide hkc; have HV := hide hv
  have hk63 : kn ≤ 9223372036854775807 := by unfold Roomy at hr; omega
  have hlt : (0 : Int) < (kn : Int) := by omega
  clear hk hr hv hkc
  go_enter Tryz.func34, Tryz.ntmps34
  go_upto_region 1 with fail
  generalize ((w.alloc (.cells #[.slice A n c, .slice D m d] 39)).alloc (.cells #[.int .u8 31, .string tx, .int .i64 nm, .int .u8 tk, .bool ng, .slice la ln lc, .string tt, .int .i64 tn, .slice ia im ic, .slice ta tm tc, .slice (some ⟨kb, ko, none⟩) kn kc] 34)).alloc (.cells #[.int .u8 0, .bool false, .slice none 0 0, .string ⟨#[]⟩, .int .i64 0, .slice none 0 0, .slice none 0 0] 26) = w0 at *
  have p0 := HP0.out.cell 0
  have p10 := HP0.out.cell 10
  go_wp2_with fail
  go_loopg [43] kn (fun gg s43 wx => kn = gg ∧ s43 = .int .i64 0 ∧ Keeps NoB w0 wx)
  case atStart => exact ⟨rfl, rfl, Keeps.refl _ _⟩
  case round =>
    obtain ⟨rfl, rfl, hkw⟩ := hrel
    have HKW := hide hkw
    have HKF := hide (HK0.out.trans' hkw (fun _ _ => id) (fun _ _ => id) : Keeps NoB w wr)
    clear hkw
    have j0 : wr.cell? ⟨kb, ko, none⟩ = some (.int .u8 k0) := HKF.out.cell id (HKC.out 0 _ rfl); have j1 : wr.cell? ⟨kb, ko + 1, none⟩ = some (.string tx0) := HKF.out.cell id (HKC.out 1 _ rfl); have j2 : wr.cell? ⟨kb, ko + 2, none⟩ = some (.int .i64 nm0) := HKF.out.cell id (HKC.out 2 _ rfl); have j3 : wr.cell? ⟨kb, ko + 3, none⟩ = some (.int .u8 tk0) := HKF.out.cell id (HKC.out 3 _ rfl); have j4 : wr.cell? ⟨kb, ko + 4, none⟩ = some (.bool ng0) := HKF.out.cell id (HKC.out 4 _ rfl); have j5 : wr.cell? ⟨kb, ko + 5, none⟩ = some (.slice la0 ln0 lc0) := HKF.out.cell id (HKC.out 5 _ rfl); have j6 : wr.cell? ⟨kb, ko + 6, none⟩ = some (.string tt0) := HKF.out.cell id (HKC.out 6 _ rfl); have j7 : wr.cell? ⟨kb, ko + 7, none⟩ = some (.int .i64 tn0) := HKF.out.cell id (HKC.out 7 _ rfl); have j8 : wr.cell? ⟨kb, ko + 8, none⟩ = some (.slice ia0 im0 ic0) := HKF.out.cell id (HKC.out 8 _ rfl); have j9 : wr.cell? ⟨kb, ko + 9, none⟩ = some (.slice ta0 tm0 tc0) := HKF.out.cell id (HKC.out 9 _ rfl); have j10 : wr.cell? ⟨kb, ko + 10, none⟩ = some (.slice ka0 kn0 kc0) := HKF.out.cell id (HKC.out 10 _ rfl)
    have HBK := hide (Blk.new wr 34 #[.int .u8 k0, .string tx0, .int .i64 nm0, .int .u8 tk0, .bool ng0, .slice la0 ln0 lc0, .string tt0, .int .i64 tn0, .slice ia0 im0 ic0, .slice ta0 tm0 tc0, .slice ka0 kn0 kc0])
    have HKA := hide ((Keeps.refl NoB wr).alloc (.cells #[.int .u8 k0, .string tx0, .int .i64 nm0, .int .u8 tk0, .bool ng0, .slice la0 ln0 lc0, .string tt0, .int .i64 tn0, .slice ia0 im0 ic0, .slice ta0 tm0 tc0, .slice ka0 kn0 kc0] 34))
    have e0 : (wr.alloc (.cells #[.int .u8 k0, .string tx0, .int .i64 nm0, .int .u8 tk0, .bool ng0, .slice la0 ln0 lc0, .string tt0, .int .i64 tn0, .slice ia0 im0 ic0, .slice ta0 tm0 tc0, .slice ka0 kn0 kc0] 34)).cell? ⟨wr.heap.size, 0, none⟩ = some (.int .u8 k0) := HBK.out.cell 0; have e1 : (wr.alloc (.cells #[.int .u8 k0, .string tx0, .int .i64 nm0, .int .u8 tk0, .bool ng0, .slice la0 ln0 lc0, .string tt0, .int .i64 tn0, .slice ia0 im0 ic0, .slice ta0 tm0 tc0, .slice ka0 kn0 kc0] 34)).cell? ⟨wr.heap.size, 1, none⟩ = some (.string tx0) := HBK.out.cell 1; have e2 : (wr.alloc (.cells #[.int .u8 k0, .string tx0, .int .i64 nm0, .int .u8 tk0, .bool ng0, .slice la0 ln0 lc0, .string tt0, .int .i64 tn0, .slice ia0 im0 ic0, .slice ta0 tm0 tc0, .slice ka0 kn0 kc0] 34)).cell? ⟨wr.heap.size, 2, none⟩ = some (.int .i64 nm0) := HBK.out.cell 2; have e3 : (wr.alloc (.cells #[.int .u8 k0, .string tx0, .int .i64 nm0, .int .u8 tk0, .bool ng0, .slice la0 ln0 lc0, .string tt0, .int .i64 tn0, .slice ia0 im0 ic0, .slice ta0 tm0 tc0, .slice ka0 kn0 kc0] 34)).cell? ⟨wr.heap.size, 3, none⟩ = some (.int .u8 tk0) := HBK.out.cell 3; have e4 : (wr.alloc (.cells #[.int .u8 k0, .string tx0, .int .i64 nm0, .int .u8 tk0, .bool ng0, .slice la0 ln0 lc0, .string tt0, .int .i64 tn0, .slice ia0 im0 ic0, .slice ta0 tm0 tc0, .slice ka0 kn0 kc0] 34)).cell? ⟨wr.heap.size, 4, none⟩ = some (.bool ng0) := HBK.out.cell 4; have e5 : (wr.alloc (.cells #[.int .u8 k0, .string tx0, .int .i64 nm0, .int .u8 tk0, .bool ng0, .slice la0 ln0 lc0, .string tt0, .int .i64 tn0, .slice ia0 im0 ic0, .slice ta0 tm0 tc0, .slice ka0 kn0 kc0] 34)).cell? ⟨wr.heap.size, 5, none⟩ = some (.slice la0 ln0 lc0) := HBK.out.cell 5; have e6 : (wr.alloc (.cells #[.int .u8 k0, .string tx0, .int .i64 nm0, .int .u8 tk0, .bool ng0, .slice la0 ln0 lc0, .string tt0, .int .i64 tn0, .slice ia0 im0 ic0, .slice ta0 tm0 tc0, .slice ka0 kn0 kc0] 34)).cell? ⟨wr.heap.size, 6, none⟩ = some (.string tt0) := HBK.out.cell 6; have e7 : (wr.alloc (.cells #[.int .u8 k0, .string tx0, .int .i64 nm0, .int .u8 tk0, .bool ng0, .slice la0 ln0 lc0, .string tt0, .int .i64 tn0, .slice ia0 im0 ic0, .slice ta0 tm0 tc0, .slice ka0 kn0 kc0] 34)).cell? ⟨wr.heap.size, 7, none⟩ = some (.int .i64 tn0) := HBK.out.cell 7; have e8 : (wr.alloc (.cells #[.int .u8 k0, .string tx0, .int .i64 nm0, .int .u8 tk0, .bool ng0, .slice la0 ln0 lc0, .string tt0, .int .i64 tn0, .slice ia0 im0 ic0, .slice ta0 tm0 tc0, .slice ka0 kn0 kc0] 34)).cell? ⟨wr.heap.size, 8, none⟩ = some (.slice ia0 im0 ic0) := HBK.out.cell 8; have e9 : (wr.alloc (.cells #[.int .u8 k0, .string tx0, .int .i64 nm0, .int .u8 tk0, .bool ng0, .slice la0 ln0 lc0, .string tt0, .int .i64 tn0, .slice ia0 im0 ic0, .slice ta0 tm0 tc0, .slice ka0 kn0 kc0] 34)).cell? ⟨wr.heap.size, 9, none⟩ = some (.slice ta0 tm0 tc0) := HBK.out.cell 9; have e10 : (wr.alloc (.cells #[.int .u8 k0, .string tx0, .int .i64 nm0, .int .u8 tk0, .bool ng0, .slice la0 ln0 lc0, .string tt0, .int .i64 tn0, .slice ia0 im0 ic0, .slice ta0 tm0 tc0, .slice ka0 kn0 kc0] 34)).cell? ⟨wr.heap.size, 10, none⟩ = some (.slice ka0 kn0 kc0) := HBK.out.cell 10
    have v0 : (wr.alloc (.cells #[.int .u8 k0, .string tx0, .int .i64 nm0, .int .u8 tk0, .bool ng0, .slice la0 ln0 lc0, .string tt0, .int .i64 tn0, .slice ia0 im0 ic0, .slice ta0 tm0 tc0, .slice ka0 kn0 kc0] 34)).cell? ⟨w.heap.size, 0, none⟩ = some (.slice A n c) := ((HV0.out.keep HKW.out id).keep HKA.out id).cell 0
    have v1 : (wr.alloc (.cells #[.int .u8 k0, .string tx0, .int .i64 nm0, .int .u8 tk0, .bool ng0, .slice la0 ln0 lc0, .string tt0, .int .i64 tn0, .slice ia0 im0 ic0, .slice ta0 tm0 tc0, .slice ka0 kn0 kc0] 34)).cell? ⟨w.heap.size, 1, none⟩ = some (.slice D m d) := ((HV0.out.keep HKW.out id).keep HKA.out id).cell 1
    go_upto_region 14 with
      first
      | (go_at_call 34
         refine (HV.out _ (HKF.out.trans' HKA.out (fun _ _ => id) (fun _ _ => id))).mono ?_
         rintro e w2 ⟨k1, g1, a1, n1, c1, s1, m1, a2, n2, c2, a3, n3, c3, rfl, ht2, hk2⟩
         have HT2 := hide ht2
         have HK2 := hide (HKA.out.trans' hk2 (fun _ _ => id) (fun _ _ => id) : Keeps NoB wr w2)
         clear hk2 ht2)
      | fail
    clear j0 e0 j1 e1 j2 e2 j3 e3 j4 e4 j5 e5 j6 e6 j7 e7 j8 e8 j9 e9 j10 e10 v0 v1
    have HBT := hide (Blk.new w2 26 #[.int .u8 k1, .bool g1, .slice a1 n1 c1, .string s1, .int .i64 m1, .slice a2 n2 c2, .slice a3 n3 c3])
    have HKT := hide ((Keeps.refl NoB w2).alloc (.cells #[.int .u8 k1, .bool g1, .slice a1 n1 c1, .string s1, .int .i64 m1, .slice a2 n2 c2, .slice a3 n3 c3] 26))
    generalize w2.alloc (.cells #[.int .u8 k1, .bool g1, .slice a1 n1 c1, .string s1, .int .i64 m1, .slice a2 n2 c2, .slice a3 n3 c3] 26) = w3 at *
    have HK3 := hide ((HKW.out.trans' HK2.out (fun _ _ => id) (fun _ _ => id) : Keeps NoB w0 w2).trans' HKT.out (fun _ _ => id) (fun _ _ => id) : Keeps NoB w0 w3)
    refine order_begin (fun W => Keeps NoB w3 W) (fun _ => true) (by kernel_rfl) 18 rfl ?_
    have HS : Keeps NoB w3 w3.drew := (Keeps.refl _ _).drew
    have HP3 := hide (HP0.out.keep HK3.out id)
    refine order_pure (i := 0) rfl (by kernel_rfl) (fun _ _ _ h => h) (.inl ⟨rfl, fun _ => by go_simp; rfl⟩) ?_
    try simp only [Act.put, List.setIfInBounds_toArray, List.set_cons_succ, List.set_cons_zero]
    refine order_pure (i := 1) rfl (by kernel_rfl) (fun _ _ _ h => h) (.inl ⟨rfl, fun _ => by go_simp; rfl⟩) ?_
    try simp only [Act.put, List.setIfInBounds_toArray, List.set_cons_succ, List.set_cons_zero]
    refine order_pure (i := 2) rfl (by kernel_rfl) (fun _ _ _ h => h) (.inl ⟨rfl, fun _ => by go_simp; rfl⟩) ?_
    try simp only [Act.put, List.setIfInBounds_toArray, List.set_cons_succ, List.set_cons_zero]
    refine order_skip (i := 3) rfl (by kernel_rfl) (fun _ _ _ h => h) (by kernel_rfl) ?_
    try simp only [Act.put, List.setIfInBounds_toArray, List.set_cons_succ, List.set_cons_zero]
    refine order_skip (i := 4) rfl (by kernel_rfl) (fun _ _ _ h => h) (by kernel_rfl) ?_
    try simp only [Act.put, List.setIfInBounds_toArray, List.set_cons_succ, List.set_cons_zero]
    refine order_skip (i := 5) rfl (by kernel_rfl) (fun _ _ _ h => h) (by kernel_rfl) ?_
    try simp only [Act.put, List.setIfInBounds_toArray, List.set_cons_succ, List.set_cons_zero]
    refine order_skip (i := 6) rfl (by kernel_rfl) (fun _ _ _ h => h) (by kernel_rfl) ?_
    try simp only [Act.put, List.setIfInBounds_toArray, List.set_cons_succ, List.set_cons_zero]
    refine order_skip (i := 7) rfl (by kernel_rfl) (fun _ _ _ h => h) (by kernel_rfl) ?_
    try simp only [Act.put, List.setIfInBounds_toArray, List.set_cons_succ, List.set_cons_zero]
    refine order_skip (i := 8) rfl (by kernel_rfl) (fun _ _ _ h => h) (by kernel_rfl) ?_
    try simp only [Act.put, List.setIfInBounds_toArray, List.set_cons_succ, List.set_cons_zero]
    refine order_pure (i := 9) rfl (by kernel_rfl) (fun _ _ _ h => h) (.inl ⟨rfl, fun _ => by go_simp; rfl⟩) ?_
    try simp only [Act.put, List.setIfInBounds_toArray, List.set_cons_succ, List.set_cons_zero]
    refine order_pure (i := 10) rfl (by kernel_rfl) (fun _ _ _ h => h) (.inl ⟨rfl, fun _ => by go_simp; rfl⟩) ?_
    try simp only [Act.put, List.setIfInBounds_toArray, List.set_cons_succ, List.set_cons_zero]
    refine order_skip (i := 11) rfl (by kernel_rfl) (fun _ _ _ h => h) (by kernel_rfl) ?_
    try simp only [Act.put, List.setIfInBounds_toArray, List.set_cons_succ, List.set_cons_zero]
    refine order_skip (i := 12) rfl (by kernel_rfl) (fun _ _ _ h => h) (by kernel_rfl) ?_
    try simp only [Act.put, List.setIfInBounds_toArray, List.set_cons_succ, List.set_cons_zero]
    refine order_skip (i := 13) rfl (by kernel_rfl) (fun _ _ _ h => h) (by kernel_rfl) ?_
    try simp only [Act.put, List.setIfInBounds_toArray, List.set_cons_succ, List.set_cons_zero]
    refine order_skip (i := 14) rfl (by kernel_rfl) (fun _ _ _ h => h) (by kernel_rfl) ?_
    try simp only [Act.put, List.setIfInBounds_toArray, List.set_cons_succ, List.set_cons_zero]
    refine order_skip (i := 15) rfl (by kernel_rfl) (fun _ _ _ h => h) (by kernel_rfl) ?_
    try simp only [Act.put, List.setIfInBounds_toArray, List.set_cons_succ, List.set_cons_zero]
    refine order_pure (i := 16) rfl (by kernel_rfl) (fun _ _ _ h => h) (.inl ⟨rfl, fun _ => by go_simp; rfl⟩) ?_
    try simp only [Act.put, List.setIfInBounds_toArray, List.set_cons_succ, List.set_cons_zero]
    refine order_pure (i := 17) rfl (by kernel_rfl) (fun _ _ _ h => h) (.inl ⟨rfl, fun _ => by go_simp; rfl⟩) ?_
    try simp only [Act.put, List.setIfInBounds_toArray, List.set_cons_succ, List.set_cons_zero]
    refine order_done (by kernel_rfl) ?_
    have HKD := hide HS
    clear HS hlt hk63
    have HR4 := hide ((HR0.out.keep HK3.out id).keep HKD.out id)
    generalize w3.drew = w4 at *
    obtain ⟨x0, x1, x2, x3, x4, x5, x6⟩ := Blk.c7 (show Blk w4 (w2.heap.size) _ #[.int .u8 k1, .bool g1, .slice a1 n1 c1, .string s1, .int .i64 m1, .slice a2 n2 c2, .slice a3 n3 c3] from HBT.out.keep HKD.out id)
    obtain ⟨q0, q1, q2, q3, q4, q5, q6⟩ := Blk.c7 (show Blk w4 (w.heap.size + 1 + 1) _ #[.int .u8 0, .bool false, .slice none 0 0, .string ⟨#[]⟩, .int .i64 0, .slice none 0 0, .slice none 0 0] from HR4.out)
    obtain ⟨f0, f1, f2, f3, f4, f5, f6⟩ := Blk.f7 (w := w4) (g := w.heap.size + 1 + 1) HR4.out
    go_wp2_with fail
    have hA := HR4.out.tput7 (.int .u8 k1) (.bool g1) (.slice a1 n1 c1) (.string s1) (.int .i64 m1) (.slice a2 n2 c2) (.slice a3 n3 c3)
    have hk := keeps_tput7 w4 (w.heap.size + 1 + 1) (.int .u8 k1) (.bool g1) (.slice a1 n1 c1) (.string s1) (.int .i64 m1) (.slice a2 n2 c2) (.slice a3 n3 c3)
    refine bodyPost_ret (results_val _ _ _ _ _ _ _ _ _ _ _ rfl rfl hA) rfl ?_
    refine ⟨k1, g1, a1, n1, c1, s1, m1, a2, n2, c2, a3, n3, c3, rfl, ?_, ?_⟩
    · have hz := HK0.out.size; have hz2 := HKW.out.size; have hz3 := HKA.out.size; have hz4 := HR0.out.lt
      refine TermIn.more (fun k _ hk2 => ?_) _ _ (TermIn.keep hk (fun j hj e => ?_) _ _ (TermIn.keep HKD.out (fun _ _ => id) _ _ (TermIn.keep HKT.out (fun _ _ => id) _ _ HT2.out)))
      · rcases hk2 with h | h
        · exact .inl h
        · exact .inr (by omega)
      · rcases hj with h | h
        · omega
        · omega
    · exact ((HK0.out.trans' HK3.out (fun _ _ => id) (fun _ _ => id) : Keeps NoB w w3).trans' HKD.out (fun _ _ => id) (fun _ _ => id)).trans' hk (fun _ _ => id) (fun j hj e => by omega)
set_option maxRecDepth 100000 in
set_option maxHeartbeats 4000000 in
theorem val_all_one (A : Option Addr) (n c : Nat) (D : Option Addr) (m d : Nat) (tx : ByteArray) (nm tk : Int) (ng : Bool) (la : Option Addr) (ln lc : Nat) (tt : ByteArray) (tn : Int) (ia : Option Addr) (im ic : Nat) (ta : Option Addr) (tm tc : Nat) (ka : Option Addr) (kn kc : Nat) (k0 : Int) (tx0 : ByteArray) (nm0 tk0 : Int) (ng0 : Bool) (la0 : Option Addr) (ln0 lc0 : Nat) (tt0 : ByteArray) (tn0 : Int) (ia0 : Option Addr) (im0 ic0 : Nat) (ta0 : Option Addr) (tm0 tc0 : Nat) (ka0 : Option Addr) (kn0 kc0 : Nat) (kcss : List (List Value)) (t0 : Tm) (N : Nat) (w : World) (hN : N ≤ w.heap.size) (hk : Reads w (fun _ => True) false 11 ka kn ([.int .u8 k0, .string tx0, .int .i64 nm0, .int .u8 tk0, .bool ng0, .slice la0 ln0 lc0, .string tt0, .int .i64 tn0, .slice ia0 im0 ic0, .slice ta0 tm0 tc0, .slice ka0 kn0 kc0] :: kcss).flatten) (hkn : 0 < kn) (hk1 : kn = 1) (hr : Roomy kn 160)
    (hv : ∀ w', Keeps NoB w w' → Calls Tryz.prog 34 #[.agg #[.slice A n c, .slice D m d], .agg #[.int .u8 k0, .string tx0, .int .i64 nm0, .int .u8 tk0, .bool ng0, .slice la0 ln0 lc0, .string tt0, .int .i64 tn0, .slice ia0 im0 ic0, .slice ta0 tm0 tc0, .slice ka0 kn0 kc0]] w' (GValP N w' t0 true)) :
    Calls Tryz.prog 34 #[.agg #[.slice A n c, .slice D m d], .agg #[.int .u8 30, .string tx, .int .i64 nm, .int .u8 tk, .bool ng, .slice la ln lc, .string tt, .int .i64 tn, .slice ia im ic, .slice ta tm tc, .slice ka kn kc]] w (GValP N w t0 true) := by
  obtain ⟨kb, ko, hka, hkc⟩ := kid_zero hk rfl (by omega)
  subst hka
  have HK0 := hide ((((Keeps.refl NoB w).alloc (.cells #[.slice A n c, .slice D m d] 39)).alloc (.cells #[.int .u8 30, .string tx, .int .i64 nm, .int .u8 tk, .bool ng, .slice la ln lc, .string tt, .int .i64 tn, .slice ia im ic, .slice ta tm tc, .slice (some ⟨kb, ko, none⟩) kn kc] 34)).alloc (.cells #[.int .u8 0, .bool false, .slice none 0 0, .string ⟨#[]⟩, .int .i64 0, .slice none 0 0, .slice none 0 0] 26))
  have HV0 := hide (three_tblks w 39 34 26 #[.slice A n c, .slice D m d] #[.int .u8 30, .string tx, .int .i64 nm, .int .u8 tk, .bool ng, .slice la ln lc, .string tt, .int .i64 tn, .slice ia im ic, .slice ta tm tc, .slice (some ⟨kb, ko, none⟩) kn kc] #[.int .u8 0, .bool false, .slice none 0 0, .string ⟨#[]⟩, .int .i64 0, .slice none 0 0, .slice none 0 0]).1; have HP0 := hide (three_tblks w 39 34 26 #[.slice A n c, .slice D m d] #[.int .u8 30, .string tx, .int .i64 nm, .int .u8 tk, .bool ng, .slice la ln lc, .string tt, .int .i64 tn, .slice ia im ic, .slice ta tm tc, .slice (some ⟨kb, ko, none⟩) kn kc] #[.int .u8 0, .bool false, .slice none 0 0, .string ⟨#[]⟩, .int .i64 0, .slice none 0 0, .slice none 0 0]).2.1; have HR0 := hide (three_tblks w 39 34 26 #[.slice A n c, .slice D m d] #[.int .u8 30, .string tx, .int .i64 nm, .int .u8 tk, .bool ng, .slice la ln lc, .string tt, .int .i64 tn, .slice ia im ic, .slice ta tm tc, .slice (some ⟨kb, ko, none⟩) kn kc] #[.int .u8 0, .bool false, .slice none 0 0, .string ⟨#[]⟩, .int .i64 0, .slice none 0 0, .slice none 0 0]).2.2
  have HKC := hide hkc; have HV := hide hv
  have hk63 : kn ≤ 9223372036854775807 := by unfold Roomy at hr; omega
  have hlt : (0 : Int) < (kn : Int) := by omega
  clear hk hr hv hkc
  have hb1 : IntKind.i64.wrap ((kn : Int) - 1) = 0 := by rw [hk1]; rfl
  clear hk1
  go_enter Tryz.func34, Tryz.ntmps34
  go_upto_region 1 with fail
  generalize ((w.alloc (.cells #[.slice A n c, .slice D m d] 39)).alloc (.cells #[.int .u8 30, .string tx, .int .i64 nm, .int .u8 tk, .bool ng, .slice la ln lc, .string tt, .int .i64 tn, .slice ia im ic, .slice ta tm tc, .slice (some ⟨kb, ko, none⟩) kn kc] 34)).alloc (.cells #[.int .u8 0, .bool false, .slice none 0 0, .string ⟨#[]⟩, .int .i64 0, .slice none 0 0, .slice none 0 0] 26) = w0 at *
  have p0 := HP0.out.cell 0
  have p10 := HP0.out.cell 10
  go_wp2_with fail
  go_loopg [43] kn (fun gg s43 wx => kn = gg ∧ s43 = .int .i64 0 ∧ Keeps NoB w0 wx)
  case atStart => exact ⟨rfl, rfl, Keeps.refl _ _⟩
  case round =>
    obtain ⟨rfl, rfl, hkw⟩ := hrel
    have HKW := hide hkw
    have HKF := hide (HK0.out.trans' hkw (fun _ _ => id) (fun _ _ => id) : Keeps NoB w wr)
    clear hkw
    have j0 : wr.cell? ⟨kb, ko, none⟩ = some (.int .u8 k0) := HKF.out.cell id (HKC.out 0 _ rfl); have j1 : wr.cell? ⟨kb, ko + 1, none⟩ = some (.string tx0) := HKF.out.cell id (HKC.out 1 _ rfl); have j2 : wr.cell? ⟨kb, ko + 2, none⟩ = some (.int .i64 nm0) := HKF.out.cell id (HKC.out 2 _ rfl); have j3 : wr.cell? ⟨kb, ko + 3, none⟩ = some (.int .u8 tk0) := HKF.out.cell id (HKC.out 3 _ rfl); have j4 : wr.cell? ⟨kb, ko + 4, none⟩ = some (.bool ng0) := HKF.out.cell id (HKC.out 4 _ rfl); have j5 : wr.cell? ⟨kb, ko + 5, none⟩ = some (.slice la0 ln0 lc0) := HKF.out.cell id (HKC.out 5 _ rfl); have j6 : wr.cell? ⟨kb, ko + 6, none⟩ = some (.string tt0) := HKF.out.cell id (HKC.out 6 _ rfl); have j7 : wr.cell? ⟨kb, ko + 7, none⟩ = some (.int .i64 tn0) := HKF.out.cell id (HKC.out 7 _ rfl); have j8 : wr.cell? ⟨kb, ko + 8, none⟩ = some (.slice ia0 im0 ic0) := HKF.out.cell id (HKC.out 8 _ rfl); have j9 : wr.cell? ⟨kb, ko + 9, none⟩ = some (.slice ta0 tm0 tc0) := HKF.out.cell id (HKC.out 9 _ rfl); have j10 : wr.cell? ⟨kb, ko + 10, none⟩ = some (.slice ka0 kn0 kc0) := HKF.out.cell id (HKC.out 10 _ rfl)
    have HBK := hide (Blk.new wr 34 #[.int .u8 k0, .string tx0, .int .i64 nm0, .int .u8 tk0, .bool ng0, .slice la0 ln0 lc0, .string tt0, .int .i64 tn0, .slice ia0 im0 ic0, .slice ta0 tm0 tc0, .slice ka0 kn0 kc0])
    have HKA := hide ((Keeps.refl NoB wr).alloc (.cells #[.int .u8 k0, .string tx0, .int .i64 nm0, .int .u8 tk0, .bool ng0, .slice la0 ln0 lc0, .string tt0, .int .i64 tn0, .slice ia0 im0 ic0, .slice ta0 tm0 tc0, .slice ka0 kn0 kc0] 34))
    have e0 : (wr.alloc (.cells #[.int .u8 k0, .string tx0, .int .i64 nm0, .int .u8 tk0, .bool ng0, .slice la0 ln0 lc0, .string tt0, .int .i64 tn0, .slice ia0 im0 ic0, .slice ta0 tm0 tc0, .slice ka0 kn0 kc0] 34)).cell? ⟨wr.heap.size, 0, none⟩ = some (.int .u8 k0) := HBK.out.cell 0; have e1 : (wr.alloc (.cells #[.int .u8 k0, .string tx0, .int .i64 nm0, .int .u8 tk0, .bool ng0, .slice la0 ln0 lc0, .string tt0, .int .i64 tn0, .slice ia0 im0 ic0, .slice ta0 tm0 tc0, .slice ka0 kn0 kc0] 34)).cell? ⟨wr.heap.size, 1, none⟩ = some (.string tx0) := HBK.out.cell 1; have e2 : (wr.alloc (.cells #[.int .u8 k0, .string tx0, .int .i64 nm0, .int .u8 tk0, .bool ng0, .slice la0 ln0 lc0, .string tt0, .int .i64 tn0, .slice ia0 im0 ic0, .slice ta0 tm0 tc0, .slice ka0 kn0 kc0] 34)).cell? ⟨wr.heap.size, 2, none⟩ = some (.int .i64 nm0) := HBK.out.cell 2; have e3 : (wr.alloc (.cells #[.int .u8 k0, .string tx0, .int .i64 nm0, .int .u8 tk0, .bool ng0, .slice la0 ln0 lc0, .string tt0, .int .i64 tn0, .slice ia0 im0 ic0, .slice ta0 tm0 tc0, .slice ka0 kn0 kc0] 34)).cell? ⟨wr.heap.size, 3, none⟩ = some (.int .u8 tk0) := HBK.out.cell 3; have e4 : (wr.alloc (.cells #[.int .u8 k0, .string tx0, .int .i64 nm0, .int .u8 tk0, .bool ng0, .slice la0 ln0 lc0, .string tt0, .int .i64 tn0, .slice ia0 im0 ic0, .slice ta0 tm0 tc0, .slice ka0 kn0 kc0] 34)).cell? ⟨wr.heap.size, 4, none⟩ = some (.bool ng0) := HBK.out.cell 4; have e5 : (wr.alloc (.cells #[.int .u8 k0, .string tx0, .int .i64 nm0, .int .u8 tk0, .bool ng0, .slice la0 ln0 lc0, .string tt0, .int .i64 tn0, .slice ia0 im0 ic0, .slice ta0 tm0 tc0, .slice ka0 kn0 kc0] 34)).cell? ⟨wr.heap.size, 5, none⟩ = some (.slice la0 ln0 lc0) := HBK.out.cell 5; have e6 : (wr.alloc (.cells #[.int .u8 k0, .string tx0, .int .i64 nm0, .int .u8 tk0, .bool ng0, .slice la0 ln0 lc0, .string tt0, .int .i64 tn0, .slice ia0 im0 ic0, .slice ta0 tm0 tc0, .slice ka0 kn0 kc0] 34)).cell? ⟨wr.heap.size, 6, none⟩ = some (.string tt0) := HBK.out.cell 6; have e7 : (wr.alloc (.cells #[.int .u8 k0, .string tx0, .int .i64 nm0, .int .u8 tk0, .bool ng0, .slice la0 ln0 lc0, .string tt0, .int .i64 tn0, .slice ia0 im0 ic0, .slice ta0 tm0 tc0, .slice ka0 kn0 kc0] 34)).cell? ⟨wr.heap.size, 7, none⟩ = some (.int .i64 tn0) := HBK.out.cell 7; have e8 : (wr.alloc (.cells #[.int .u8 k0, .string tx0, .int .i64 nm0, .int .u8 tk0, .bool ng0, .slice la0 ln0 lc0, .string tt0, .int .i64 tn0, .slice ia0 im0 ic0, .slice ta0 tm0 tc0, .slice ka0 kn0 kc0] 34)).cell? ⟨wr.heap.size, 8, none⟩ = some (.slice ia0 im0 ic0) := HBK.out.cell 8; have e9 : (wr.alloc (.cells #[.int .u8 k0, .string tx0, .int .i64 nm0, .int .u8 tk0, .bool ng0, .slice la0 ln0 lc0, .string tt0, .int .i64 tn0, .slice ia0 im0 ic0, .slice ta0 tm0 tc0, .slice ka0 kn0 kc0] 34)).cell? ⟨wr.heap.size, 9, none⟩ = some (.slice ta0 tm0 tc0) := HBK.out.cell 9; have e10 : (wr.alloc (.cells #[.int .u8 k0, .string tx0, .int .i64 nm0, .int .u8 tk0, .bool ng0, .slice la0 ln0 lc0, .string tt0, .int .i64 tn0, .slice ia0 im0 ic0, .slice ta0 tm0 tc0, .slice ka0 kn0 kc0] 34)).cell? ⟨wr.heap.size, 10, none⟩ = some (.slice ka0 kn0 kc0) := HBK.out.cell 10
    have v0 : (wr.alloc (.cells #[.int .u8 k0, .string tx0, .int .i64 nm0, .int .u8 tk0, .bool ng0, .slice la0 ln0 lc0, .string tt0, .int .i64 tn0, .slice ia0 im0 ic0, .slice ta0 tm0 tc0, .slice ka0 kn0 kc0] 34)).cell? ⟨w.heap.size, 0, none⟩ = some (.slice A n c) := ((HV0.out.keep HKW.out id).keep HKA.out id).cell 0
    have v1 : (wr.alloc (.cells #[.int .u8 k0, .string tx0, .int .i64 nm0, .int .u8 tk0, .bool ng0, .slice la0 ln0 lc0, .string tt0, .int .i64 tn0, .slice ia0 im0 ic0, .slice ta0 tm0 tc0, .slice ka0 kn0 kc0] 34)).cell? ⟨w.heap.size, 1, none⟩ = some (.slice D m d) := ((HV0.out.keep HKW.out id).keep HKA.out id).cell 1
    go_upto_region 14 with
      first
      | (go_at_call 34
         refine (HV.out _ (HKF.out.trans' HKA.out (fun _ _ => id) (fun _ _ => id))).mono ?_
         rintro e w2 ⟨k1, g1, a1, n1, c1, s1, m1, a2, n2, c2, a3, n3, c3, rfl, ht2, hk2⟩
         have HT2 := hide ht2
         have HK2 := hide (HKA.out.trans' hk2 (fun _ _ => id) (fun _ _ => id) : Keeps NoB wr w2)
         clear hk2 ht2)
      | fail
    clear j0 e0 j1 e1 j2 e2 j3 e3 j4 e4 j5 e5 j6 e6 j7 e7 j8 e8 j9 e9 j10 e10 v0 v1
    have HBT := hide (Blk.new w2 26 #[.int .u8 k1, .bool g1, .slice a1 n1 c1, .string s1, .int .i64 m1, .slice a2 n2 c2, .slice a3 n3 c3])
    have HKT := hide ((Keeps.refl NoB w2).alloc (.cells #[.int .u8 k1, .bool g1, .slice a1 n1 c1, .string s1, .int .i64 m1, .slice a2 n2 c2, .slice a3 n3 c3] 26))
    generalize w2.alloc (.cells #[.int .u8 k1, .bool g1, .slice a1 n1 c1, .string s1, .int .i64 m1, .slice a2 n2 c2, .slice a3 n3 c3] 26) = w3 at *
    have HK3 := hide ((HKW.out.trans' HK2.out (fun _ _ => id) (fun _ _ => id) : Keeps NoB w0 w2).trans' HKT.out (fun _ _ => id) (fun _ _ => id) : Keeps NoB w0 w3)
    refine order_begin (fun W => Keeps NoB w3 W) (fun _ => true) (by kernel_rfl) 18 rfl ?_
    have HS : Keeps NoB w3 w3.drew := (Keeps.refl _ _).drew
    have HP3 := hide (HP0.out.keep HK3.out id)
    refine order_pure (i := 0) rfl (by kernel_rfl) (fun _ _ _ h => h) (.inl ⟨rfl, fun _ => by go_simp; rfl⟩) ?_
    try simp only [Act.put, List.setIfInBounds_toArray, List.set_cons_succ, List.set_cons_zero]
    refine order_pure (i := 1) rfl (by kernel_rfl) (fun _ _ _ h => h) (.inl ⟨rfl, fun _ => by go_simp; rfl⟩) ?_
    try simp only [Act.put, List.setIfInBounds_toArray, List.set_cons_succ, List.set_cons_zero]
    refine order_pure (i := 2) rfl (by kernel_rfl) (fun _ _ _ h => h) (.inl ⟨rfl, fun _ => by go_simp; rfl⟩) ?_
    try simp only [Act.put, List.setIfInBounds_toArray, List.set_cons_succ, List.set_cons_zero]
    refine order_pure (i := 3) rfl (by kernel_rfl) (fun _ _ _ h => h) (.inl ⟨rfl, fun _ => by go_simp; rfl⟩) ?_
    try simp only [Act.put, List.setIfInBounds_toArray, List.set_cons_succ, List.set_cons_zero]
    refine order_pure (i := 4) rfl (by kernel_rfl) (fun _ _ _ h => h) (.inl ⟨rfl, fun _ => by go_simp; rfl⟩) ?_
    try simp only [Act.put, List.setIfInBounds_toArray, List.set_cons_succ, List.set_cons_zero]
    refine order_held (i := 5) rfl (by kernel_rfl) (fun _ _ _ h => h) (.inl ⟨rfl, fun W hW => by
      have q0 : W.cell? ⟨w.heap.size + 1, 10, none⟩ = some (.slice (some ⟨kb, ko, none⟩) kn kc) := hW.cell id (HP3.out.cell 10)
      go_simp; rfl⟩) HS ?_
    try simp only [Act.put, List.setIfInBounds_toArray, List.set_cons_succ, List.set_cons_zero]
    refine order_pure (i := 6) rfl (by kernel_rfl) (fun _ _ _ h => h) (.inl ⟨rfl, fun _ => by go_simp; rfl⟩) ?_
    try simp only [Act.put, List.setIfInBounds_toArray, List.set_cons_succ, List.set_cons_zero]
    refine order_pure (i := 7) rfl (by kernel_rfl) (fun _ _ _ h => h) (.inl ⟨rfl, fun _ => by go_simp; rfl⟩) ?_
    try simp only [Act.put, List.setIfInBounds_toArray, List.set_cons_succ, List.set_cons_zero]
    refine order_pure (i := 8) rfl (by kernel_rfl) (fun _ _ _ h => h) (.inl ⟨rfl, fun _ => by go_simp; rfl⟩) ?_
    try simp only [Act.put, List.setIfInBounds_toArray, List.set_cons_succ, List.set_cons_zero]
    refine order_pure (i := 9) rfl (by kernel_rfl) (fun _ _ _ h => h) (.inl ⟨rfl, fun _ => by go_simp; rfl⟩) ?_
    try simp only [Act.put, List.setIfInBounds_toArray, List.set_cons_succ, List.set_cons_zero]
    refine order_pure (i := 10) rfl (by kernel_rfl) (fun _ _ _ h => h) (.inl ⟨rfl, fun _ => by go_simp; rfl⟩) ?_
    try simp only [Act.put, List.setIfInBounds_toArray, List.set_cons_succ, List.set_cons_zero]
    refine order_skip (i := 11) rfl (by kernel_rfl) (fun _ _ _ h => h) (by kernel_rfl) ?_
    try simp only [Act.put, List.setIfInBounds_toArray, List.set_cons_succ, List.set_cons_zero]
    refine order_skip (i := 12) rfl (by kernel_rfl) (fun _ _ _ h => h) (by kernel_rfl) ?_
    try simp only [Act.put, List.setIfInBounds_toArray, List.set_cons_succ, List.set_cons_zero]
    refine order_skip (i := 13) rfl (by kernel_rfl) (fun _ _ _ h => h) (by kernel_rfl) ?_
    try simp only [Act.put, List.setIfInBounds_toArray, List.set_cons_succ, List.set_cons_zero]
    refine order_skip (i := 14) rfl (by kernel_rfl) (fun _ _ _ h => h) (by kernel_rfl) ?_
    try simp only [Act.put, List.setIfInBounds_toArray, List.set_cons_succ, List.set_cons_zero]
    refine order_skip (i := 15) rfl (by kernel_rfl) (fun _ _ _ h => h) (by kernel_rfl) ?_
    try simp only [Act.put, List.setIfInBounds_toArray, List.set_cons_succ, List.set_cons_zero]
    refine order_pure (i := 16) rfl (by kernel_rfl) (fun _ _ _ h => h) (.inl ⟨rfl, fun _ => by go_simp; rfl⟩) ?_
    try simp only [Act.put, List.setIfInBounds_toArray, List.set_cons_succ, List.set_cons_zero]
    refine order_pure (i := 17) rfl (by kernel_rfl) (fun _ _ _ h => h) (.inl ⟨rfl, fun _ => by go_simp; rfl⟩) ?_
    try simp only [Act.put, List.setIfInBounds_toArray, List.set_cons_succ, List.set_cons_zero]
    refine order_done (by kernel_rfl) ?_
    have HKD := hide HS
    clear HS hlt hk63
    have HR4 := hide ((HR0.out.keep HK3.out id).keep HKD.out id)
    generalize w3.drew = w4 at *
    obtain ⟨x0, x1, x2, x3, x4, x5, x6⟩ := Blk.c7 (show Blk w4 (w2.heap.size) _ #[.int .u8 k1, .bool g1, .slice a1 n1 c1, .string s1, .int .i64 m1, .slice a2 n2 c2, .slice a3 n3 c3] from HBT.out.keep HKD.out id)
    obtain ⟨q0, q1, q2, q3, q4, q5, q6⟩ := Blk.c7 (show Blk w4 (w.heap.size + 1 + 1) _ #[.int .u8 0, .bool false, .slice none 0 0, .string ⟨#[]⟩, .int .i64 0, .slice none 0 0, .slice none 0 0] from HR4.out)
    obtain ⟨f0, f1, f2, f3, f4, f5, f6⟩ := Blk.f7 (w := w4) (g := w.heap.size + 1 + 1) HR4.out
    go_wp2_with fail
    have hA := HR4.out.tput7 (.int .u8 k1) (.bool g1) (.slice a1 n1 c1) (.string s1) (.int .i64 m1) (.slice a2 n2 c2) (.slice a3 n3 c3)
    have hk := keeps_tput7 w4 (w.heap.size + 1 + 1) (.int .u8 k1) (.bool g1) (.slice a1 n1 c1) (.string s1) (.int .i64 m1) (.slice a2 n2 c2) (.slice a3 n3 c3)
    refine bodyPost_ret (results_val _ _ _ _ _ _ _ _ _ _ _ rfl rfl hA) rfl ?_
    refine ⟨k1, g1, a1, n1, c1, s1, m1, a2, n2, c2, a3, n3, c3, rfl, ?_, ?_⟩
    · have hz := HK0.out.size; have hz2 := HKW.out.size; have hz3 := HKA.out.size; have hz4 := HR0.out.lt
      refine TermIn.more (fun k _ hk2 => ?_) _ _ (TermIn.keep hk (fun j hj e => ?_) _ _ (TermIn.keep HKD.out (fun _ _ => id) _ _ (TermIn.keep HKT.out (fun _ _ => id) _ _ HT2.out)))
      · rcases hk2 with h | h
        · exact .inl h
        · exact .inr (by omega)
      · rcases hj with h | h
        · omega
        · omega
    · exact ((HK0.out.trans' HK3.out (fun _ _ => id) (fun _ _ => id) : Keeps NoB w w3).trans' HKD.out (fun _ _ => id) (fun _ _ => id)).trans' hk (fun _ _ => id) (fun j hj e => by omega)
end Go.Proofs.YtjdbjjjbgibpaaaGreatDoor
