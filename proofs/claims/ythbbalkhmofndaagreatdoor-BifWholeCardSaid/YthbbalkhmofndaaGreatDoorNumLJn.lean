/- bif.Call at two arguments, where bif.two answers with a right value. Printed by mkcall.py. law10.call, where bif.Call tells a right value: its contract. law10's list and atom, bif's tuple and list: contracts. Printed by mklit.py. law10.number: its contract. -/
import Derived.Test.YthbbalkhmofndaaGreatDoorKindTJn
import Derived.Test.YthbbalkhmofndaaGreatDoorTmCopyJn
import Derived.Test.YthbbalkhmofndaaGreatDoorCompareJn
namespace Go.Proofs.YthbbalkhmofndaaGreatDoor
open Go.RowKit

theorem two_reads {w : World} {g : Nat} {kd : Int} {ng : Bool} {la : Option Addr} {ln lc : Nat} {tx : ByteArray} {nm : Int} {ia : Option Addr} {im ic : Nat} {ta : Option Addr} {tn tc : Nat} {kd' : Int} {ng' : Bool} {la' : Option Addr} {ln' lc' : Nat} {tx' : ByteArray} {nm' : Int} {ia' : Option Addr} {im' ic' : Nat} {ta' : Option Addr} {tn' tc' : Nat} (h : Blk w g 26 #[.int .u8 kd, .bool ng, .slice la ln lc, .string tx, .int .i64 nm, .slice ia im ic, .slice ta tn tc, .int .u8 kd', .bool ng', .slice la' ln' lc', .string tx', .int .i64 nm', .slice ia' im' ic', .slice ta' tn' tc']) : Reads w (fun _ => True) false 7 (some ⟨g, 0, none⟩) 2 [[.int .u8 kd, .bool ng, .slice la ln lc, .string tx, .int .i64 nm, .slice ia im ic, .slice ta tn tc], [.int .u8 kd', .bool ng', .slice la' ln' lc', .string tx', .int .i64 nm', .slice ia' im' ic', .slice ta' tn' tc']].flatten :=
  ⟨rfl, fun _ => ⟨_, rfl, rfl, trivial, h.lt, fun j u hu => ⟨by rw [h.cell, Nat.zero_add]; simpa using hu, fun h => by cases h⟩⟩⟩
theorem two_terms {w : World} {B : Nat → Prop} {F : Bool} {cs ds : List Value} {a b : Tm} (ha : TermIn w B F cs a) (hb : TermIn w B F ds b) : TermsIn w B F [cs, ds] [a, b] := by
  unfold TermsIn TermsIn TermsIn
  exact ⟨ha, hb, trivial⟩
theorem results_12 (tmps : Array Value) (g4 g5 : Nat) (b : Bool) (v0 v1 v2 v3 v4 v5 v6 u0 u1 u2 u3 u4 u5 u6 : Value) (w : World) (h4 : tmps[4]? = some (.pointer (some ⟨g4, 0, none⟩))) (h5 : tmps[5]? = some (.pointer (some ⟨g5, 0, none⟩))) (h6 : tmps[6]? = some (.bool b)) (hB4 : Blk w g4 26 #[v0, v1, v2, v3, v4, v5, v6]) (hB5 : Blk w g5 26 #[u0, u1, u2, u3, u4, u5, u6]) :
    (results Tryz.f12 tmps).run Tryz.prog w = .ok (.tuple #[.agg #[v0, v1, v2, v3, v4, v5, v6], .agg #[u0, u1, u2, u3, u4, u5, u6], .bool b]) w := by
  have c0 : w.cell? ⟨g4, 0, none⟩ = some v0 := hB4.cell 0
  have d0 : w.cell? ⟨g5, 0, none⟩ = some u0 := hB5.cell 0
  have c1 : w.cell? ⟨g4, 1, none⟩ = some v1 := hB4.cell 1
  have d1 : w.cell? ⟨g5, 1, none⟩ = some u1 := hB5.cell 1
  have c2 : w.cell? ⟨g4, 2, none⟩ = some v2 := hB4.cell 2
  have d2 : w.cell? ⟨g5, 2, none⟩ = some u2 := hB5.cell 2
  have c3 : w.cell? ⟨g4, 3, none⟩ = some v3 := hB4.cell 3
  have d3 : w.cell? ⟨g5, 3, none⟩ = some u3 := hB5.cell 3
  have c4 : w.cell? ⟨g4, 4, none⟩ = some v4 := hB4.cell 4
  have d4 : w.cell? ⟨g5, 4, none⟩ = some u4 := hB5.cell 4
  have c5 : w.cell? ⟨g4, 5, none⟩ = some v5 := hB4.cell 5
  have d5 : w.cell? ⟨g5, 5, none⟩ = some u5 := hB5.cell 5
  have c6 : w.cell? ⟨g4, 6, none⟩ = some v6 := hB4.cell 6
  have d6 : w.cell? ⟨g5, 6, none⟩ = some u6 := hB5.cell 6
  have hr : Tryz.f12.results = #[ResultVar.cell 4 26, ResultVar.cell 5 26, ResultVar.tmp 6] := by kernel_rfl
  simp [results, hr, go_sem, h4, h5, h6, c0, d0, c1, d1, c2, d2, c3, d3, c4, d4, c5, d5, c6, d6]
def CallP (w : World) (v : Tm) (e : Ending) (w' : World) : Prop := ∃ (kv : Int) (gv : Bool) (lv : Option Addr) (lvn lvc : Nat) (sv : ByteArray) (mv : Int) (iv : Option Addr) (ivn ivc : Nat) (tv : Option Addr) (tvn tvc : Nat) (r2 : Option Addr) (r2c : Nat) (r5 : Option Addr) (r5c : Nat) (r6 : Option Addr) (r6c : Nat), e = .returned (.tuple #[.agg #[.int .u8 kv, .bool gv, .slice lv lvn lvc, .string sv, .int .i64 mv, .slice iv ivn ivc, .slice tv tvn tvc], .agg #[.int .u8 0, .bool false, .slice r2 0 r2c, .string ByteArray.empty, .int .i64 0, .slice r5 0 r5c, .slice r6 0 r6c], .bool true]) ∧ TermIn w' (fun k => w.heap.size ≤ k) false [.int .u8 kv, .bool gv, .slice lv lvn lvc, .string sv, .int .i64 mv, .slice iv ivn ivc, .slice tv tvn tvc] v ∧ Keeps NoB w w'
set_option maxRecDepth 100000 in
set_option maxHeartbeats 4000000 in
theorem call_two (s : ByteArray) (hs : s.size ≤ 140737488355328) (kq : Int) (hkq : kq = 1 ∨ kq = 2) (hkn : kindN s.data.toList 2 = kq) (a b v : Tm) (hra : rightT a = true) (hrb : rightT b = true) (hrv : rightT v = true) (w : World) (hL : LaidK w) (ga c : Nat) (kd : Int) (ng : Bool) (la : Option Addr) (ln lc : Nat) (tx : ByteArray) (nm : Int) (ia : Option Addr) (im ic : Nat) (ta : Option Addr) (tn tc : Nat) (kd' : Int) (ng' : Bool) (la' : Option Addr) (ln' lc' : Nat) (tx' : ByteArray) (nm' : Int) (ia' : Option Addr) (im' ic' : Nat) (ta' : Option Addr) (tn' tc' : Nat) (kv : Int) (gv : Bool) (lv : Option Addr) (lvn lvc : Nat) (sv : ByteArray) (mv : Int) (iv : Option Addr) (ivn ivc : Nat) (tv : Option Addr) (tvn tvc : Nat)
    (hA : Blk w ga 26 #[.int .u8 kd, .bool ng, .slice la ln lc, .string tx, .int .i64 nm, .slice ia im ic, .slice ta tn tc, .int .u8 kd', .bool ng', .slice la' ln' lc', .string tx', .int .i64 nm', .slice ia' im' ic', .slice ta' tn' tc']) (ha : TermIn w (fun _ => True) false [.int .u8 kd, .bool ng, .slice la ln lc, .string tx, .int .i64 nm, .slice ia im ic, .slice ta tn tc] a) (hb : TermIn w (fun _ => True) false [.int .u8 kd', .bool ng', .slice la' ln' lc', .string tx', .int .i64 nm', .slice ia' im' ic', .slice ta' tn' tc'] b)
    (hv : ∀ w', Keeps NoB w w' → Calls Tryz.prog 25 #[.string s, .agg #[.int .u8 kd, .bool ng, .slice la ln lc, .string tx, .int .i64 nm, .slice ia im ic, .slice ta tn tc], .agg #[.int .u8 kd', .bool ng', .slice la' ln' lc', .string tx', .int .i64 nm', .slice ia' im' ic', .slice ta' tn' tc']] w' (ValP w' (.agg #[.int .u8 kv, .bool gv, .slice lv lvn lvc, .string sv, .int .i64 mv, .slice iv ivn ivc, .slice tv tvn tvc, .int .u8 0, .bool false, .slice none 0 0, .string ⟨#[]⟩, .int .i64 0, .slice none 0 0, .slice none 0 0])))
    (ht : ∀ w', Keeps NoB w w' → TermIn w' (fun k => k < w.heap.size) false [.int .u8 kv, .bool gv, .slice lv lvn lvc, .string sv, .int .i64 mv, .slice iv ivn ivc, .slice tv tvn tvc] v) :
    Calls Tryz.prog 12 #[.string s, .slice (some ⟨ga, 0, none⟩) 2 c] w (CallP w v) := by
  have HK0 := hide (((Keeps.refl NoB w).alloc (.cells #[.int .u8 0, .bool false, .slice none 0 0, .string ⟨#[]⟩, .int .i64 0, .slice none 0 0, .slice none 0 0] 26)).alloc (.cells #[.int .u8 0, .bool false, .slice none 0 0, .string ⟨#[]⟩, .int .i64 0, .slice none 0 0, .slice none 0 0] 26))
  have H40 := hide (two_tblks w 26 26 #[.int .u8 0, .bool false, .slice none 0 0, .string ⟨#[]⟩, .int .i64 0, .slice none 0 0, .slice none 0 0] #[.int .u8 0, .bool false, .slice none 0 0, .string ⟨#[]⟩, .int .i64 0, .slice none 0 0, .slice none 0 0]).1; have H50 := hide (two_tblks w 26 26 #[.int .u8 0, .bool false, .slice none 0 0, .string ⟨#[]⟩, .int .i64 0, .slice none 0 0, .slice none 0 0] #[.int .u8 0, .bool false, .slice none 0 0, .string ⟨#[]⟩, .int .i64 0, .slice none 0 0, .slice none 0 0]).2
  have HA0 := hide (((hA.alloc (.cells #[.int .u8 0, .bool false, .slice none 0 0, .string ⟨#[]⟩, .int .i64 0, .slice none 0 0, .slice none 0 0] 26)).alloc (.cells #[.int .u8 0, .bool false, .slice none 0 0, .string ⟨#[]⟩, .int .i64 0, .slice none 0 0, .slice none 0 0] 26)))
  have HGA := hide hA.lt
  have HHA := hide ha; have HHB := hide hb; have HV := hide hv; have HT := hide ht; have HKN := hide hkn; have HL := hide hL
  have HRA := hide hra; have HRB := hide hrb; have HRV := hide hrv; have HSS := hide hs
  clear hA ha hb hv ht hkn hL hra hrb hrv hs
  go_enter Tryz.func12, Tryz.ntmps12
  go_upto_region 1 with fail
  generalize (w.alloc (.cells #[.int .u8 0, .bool false, .slice none 0 0, .string ⟨#[]⟩, .int .i64 0, .slice none 0 0, .slice none 0 0] 26)).alloc (.cells #[.int .u8 0, .bool false, .slice none 0 0, .string ⟨#[]⟩, .int .i64 0, .slice none 0 0, .slice none 0 0] 26) = w0 at *
  go_upto_region 2 with
    first
    | (go_at_call 21
       refine (kind_any s 2 w0 (HL.out.keep HK0.out) HSS.out).mono ?_
       rintro e w1 ⟨rfl, rfl⟩
       rw [HKN.out])
    | fail
  go_cut [22] (fun s22 wx => s22 = .bool false ∧ Keeps NoB w0 wx)
  case first =>
    rcases hkq with rfl | rfl
    · skip
      go_wp2_with
        first
        | (go_at_call 22
           refine (contains_right [a, b] [[.int .u8 kd, .bool ng, .slice la ln lc, .string tx, .int .i64 nm, .slice ia im ic, .slice ta tn tc], [.int .u8 kd', .bool ng', .slice la' ln' lc', .string tx', .int .i64 nm', .slice ia' im' ic', .slice ta' tn' tc']] (some ⟨ga, 0, none⟩) 2 c w0 (fun _ => True) false (two_reads HA0.out) (two_terms (TermIn.keep HK0.out (fun _ _ => id) _ _ HHA.out) (TermIn.keep HK0.out (fun _ _ => id) _ _ HHB.out)) (by omega)).mono ?_
           rintro e w2 ⟨rfl, hk2⟩
           rw [show (![a, b].all rightT) = false from by simp [HRA.out, HRB.out]]
           have HK2 := hide hk2
           clear hk2)
        | fail
      go_meet
      exact ⟨rfl, HK2.out⟩
    · skip
      go_wp2_with
        first
        | (go_at_call 22
           refine (contains_right [a, b] [[.int .u8 kd, .bool ng, .slice la ln lc, .string tx, .int .i64 nm, .slice ia im ic, .slice ta tn tc], [.int .u8 kd', .bool ng', .slice la' ln' lc', .string tx', .int .i64 nm', .slice ia' im' ic', .slice ta' tn' tc']] (some ⟨ga, 0, none⟩) 2 c w0 (fun _ => True) false (two_reads HA0.out) (two_terms (TermIn.keep HK0.out (fun _ _ => id) _ _ HHA.out) (TermIn.keep HK0.out (fun _ _ => id) _ _ HHB.out)) (by omega)).mono ?_
           rintro e w2 ⟨rfl, hk2⟩
           rw [show (![a, b].all rightT) = false from by simp [HRA.out, HRB.out]]
           have HK2 := hide hk2
           clear hk2)
        | fail
      go_meet
      exact ⟨rfl, HK2.out⟩
  case rest =>
    obtain ⟨rfl, hkc⟩ := hcut
    obtain ⟨w2, rfl⟩ : ∃ w2, w2 = wc := ⟨_, rfl⟩
    have HK2 := hide (HK0.out.trans' hkc (fun _ _ => id) (fun _ _ => id) : Keeps NoB w w2)
    have H42 := hide (H40.out.keep hkc id); have H52 := hide (H50.out.keep hkc id); have HA2 := hide (HA0.out.keep hkc id)
    have HS0 := hide (show w.heap.size + 1 < w2.heap.size from H52.out.lt)
    clear hkc H40 H50 HA0 HK0
    go_upto_block 0 with fail
    have HR3 := hide (Blk.new w2 48 #[.int .u8 0, .bool false, .slice none 0 0, .string ⟨#[]⟩, .int .i64 0, .slice none 0 0, .slice none 0 0, .int .u8 0, .bool false, .slice none 0 0, .string ⟨#[]⟩, .int .i64 0, .slice none 0 0, .slice none 0 0]); have H43 := hide (H42.out.alloc (.cells #[.int .u8 0, .bool false, .slice none 0 0, .string ⟨#[]⟩, .int .i64 0, .slice none 0 0, .slice none 0 0, .int .u8 0, .bool false, .slice none 0 0, .string ⟨#[]⟩, .int .i64 0, .slice none 0 0, .slice none 0 0] 48)); have H53 := hide (H52.out.alloc (.cells #[.int .u8 0, .bool false, .slice none 0 0, .string ⟨#[]⟩, .int .i64 0, .slice none 0 0, .slice none 0 0, .int .u8 0, .bool false, .slice none 0 0, .string ⟨#[]⟩, .int .i64 0, .slice none 0 0, .slice none 0 0] 48)); have HA3 := hide (HA2.out.alloc (.cells #[.int .u8 0, .bool false, .slice none 0 0, .string ⟨#[]⟩, .int .i64 0, .slice none 0 0, .slice none 0 0, .int .u8 0, .bool false, .slice none 0 0, .string ⟨#[]⟩, .int .i64 0, .slice none 0 0, .slice none 0 0] 48))
    have HK3 := hide (HK2.out.alloc (.cells #[.int .u8 0, .bool false, .slice none 0 0, .string ⟨#[]⟩, .int .i64 0, .slice none 0 0, .slice none 0 0, .int .u8 0, .bool false, .slice none 0 0, .string ⟨#[]⟩, .int .i64 0, .slice none 0 0, .slice none 0 0] 48))
    clear H42 H52 HA2 HK2
    generalize w2.alloc (.cells #[.int .u8 0, .bool false, .slice none 0 0, .string ⟨#[]⟩, .int .i64 0, .slice none 0 0, .slice none 0 0, .int .u8 0, .bool false, .slice none 0 0, .string ⟨#[]⟩, .int .i64 0, .slice none 0 0, .slice none 0 0] 48) = w3 at *
    generalize w2.heap.size = g8 at *
    go_cut [] (fun wx => Keeps (fun k => k = g8) w3 wx ∧ Blk wx g8 48 #[.int .u8 kv, .bool gv, .slice lv lvn lvc, .string sv, .int .i64 mv, .slice iv ivn ivc, .slice tv tvn tvc, .int .u8 0, .bool false, .slice none 0 0, .string ⟨#[]⟩, .int .i64 0, .slice none 0 0, .slice none 0 0])
    case first =>
      go_wp2_with fail
      refine order_begin (fun W => Keeps NoB w3 W) (fun i => !(i == 8)) (by kernel_rfl) 9 rfl ?_
      have HS : Keeps NoB w3 w3.drew := (Keeps.refl _ _).drew
      refine order_pure (i := 0) rfl (by kernel_rfl) (fun _ _ _ h => h) (.inl ⟨rfl, fun _ => by go_simp; rfl⟩) ?_
      try simp only [Act.put, List.setIfInBounds_toArray, List.set_cons_succ, List.set_cons_zero]
      refine order_pure (i := 1) rfl (by kernel_rfl) (fun _ _ _ h => h) (.inl ⟨rfl, fun _ => by go_simp; rfl⟩) ?_
      try simp only [Act.put, List.setIfInBounds_toArray, List.set_cons_succ, List.set_cons_zero]
      refine order_pure (i := 2) rfl (by kernel_rfl) (fun _ _ _ h => h) (.inl ⟨rfl, fun _ => by go_simp; rfl⟩) ?_
      try simp only [Act.put, List.setIfInBounds_toArray, List.set_cons_succ, List.set_cons_zero]
      refine order_held (i := 3) rfl (by kernel_rfl) (fun _ _ _ h => h) (.inl ⟨rfl, fun W hW => by
        have q0 : W.cell? ⟨ga, 0, none⟩ = some (.int .u8 kd) := hW.cell id (HA3.out.cell 0)
        have q1 : W.cell? ⟨ga, 1, none⟩ = some (.bool ng) := hW.cell id (HA3.out.cell 1)
        have q2 : W.cell? ⟨ga, 2, none⟩ = some (.slice la ln lc) := hW.cell id (HA3.out.cell 2)
        have q3 : W.cell? ⟨ga, 3, none⟩ = some (.string tx) := hW.cell id (HA3.out.cell 3)
        have q4 : W.cell? ⟨ga, 4, none⟩ = some (.int .i64 nm) := hW.cell id (HA3.out.cell 4)
        have q5 : W.cell? ⟨ga, 5, none⟩ = some (.slice ia im ic) := hW.cell id (HA3.out.cell 5)
        have q6 : W.cell? ⟨ga, 6, none⟩ = some (.slice ta tn tc) := hW.cell id (HA3.out.cell 6)
        go_simp; rfl⟩) HS ?_
      try simp only [Act.put, List.setIfInBounds_toArray, List.set_cons_succ, List.set_cons_zero]
      refine order_pure (i := 4) rfl (by kernel_rfl) (fun _ _ _ h => h) (.inl ⟨rfl, fun _ => by go_simp; rfl⟩) ?_
      try simp only [Act.put, List.setIfInBounds_toArray, List.set_cons_succ, List.set_cons_zero]
      refine order_pure (i := 5) rfl (by kernel_rfl) (fun _ _ _ h => h) (.inl ⟨rfl, fun _ => by go_simp; rfl⟩) ?_
      try simp only [Act.put, List.setIfInBounds_toArray, List.set_cons_succ, List.set_cons_zero]
      refine order_held (i := 6) rfl (by kernel_rfl) (fun _ _ _ h => h) (.inl ⟨rfl, fun W hW => by
        have q0 : W.cell? ⟨ga, 7, none⟩ = some (.int .u8 kd') := hW.cell id (HA3.out.cell 7)
        have q1 : W.cell? ⟨ga, 8, none⟩ = some (.bool ng') := hW.cell id (HA3.out.cell 8)
        have q2 : W.cell? ⟨ga, 9, none⟩ = some (.slice la' ln' lc') := hW.cell id (HA3.out.cell 9)
        have q3 : W.cell? ⟨ga, 10, none⟩ = some (.string tx') := hW.cell id (HA3.out.cell 10)
        have q4 : W.cell? ⟨ga, 11, none⟩ = some (.int .i64 nm') := hW.cell id (HA3.out.cell 11)
        have q5 : W.cell? ⟨ga, 12, none⟩ = some (.slice ia' im' ic') := hW.cell id (HA3.out.cell 12)
        have q6 : W.cell? ⟨ga, 13, none⟩ = some (.slice ta' tn' tc') := hW.cell id (HA3.out.cell 13)
        go_simp; rfl⟩) HS ?_
      try simp only [Act.put, List.setIfInBounds_toArray, List.set_cons_succ, List.set_cons_zero]
      refine order_one (i := 7) rfl (by kernel_rfl) (fun K hK => ?_)
      go_simp
      refine (HV.out w3.drew (HK3.out.trans' HS (fun _ _ => id) (fun _ _ => id) : Keeps NoB w w3.drew)).mono ?_
      rintro e w4 ⟨rfl, hk4⟩
      have HK4 := hide (HS.trans' hk4 (fun _ _ => id) (fun _ _ => id) : Keeps NoB w3 w4)
      have HR4 := hide (HR3.out.keep HK4.out id)
      refine hK _ _ (fun _ _ => HK4.out) ?_
      clear hK hk4
      try simp only [Act.put, List.setIfInBounds_toArray, List.set_cons_succ, List.set_cons_zero]
      obtain ⟨z0, z1, z2, z3, z4, z5, z6, z7, z8, z9, z10, z11, z12, z13⟩ := Blk.f14 (w := w4) (g := g8) HR4.out
      obtain ⟨q0, q1, q2, q3, q4, q5, q6, q7, q8, q9, q10, q11, q12, q13⟩ := Blk.c14 (show Blk w4 (g8) _ #[.int .u8 0, .bool false, .slice none 0 0, .string ⟨#[]⟩, .int .i64 0, .slice none 0 0, .slice none 0 0, .int .u8 0, .bool false, .slice none 0 0, .string ⟨#[]⟩, .int .i64 0, .slice none 0 0, .slice none 0 0] from HR4.out)
      refine order_one (i := 8) rfl (by kernel_rfl) (fun K hK => ?_)
      go_simp
      refine hK _ _ (fun h => absurd h (by decide)) ?_
      clear hK
      try simp only [Act.put, List.setIfInBounds_toArray, List.set_cons_succ, List.set_cons_zero]
      refine order_done (by kernel_rfl) ?_
      go_wp2_with fail
      go_meet
      exact ⟨(HK4.out.trans' (keeps_tput14 w4 g8 _ _ _ _ _ _ _ _ _ _ _ _ _ _) (fun _ _ h => h.elim) (fun _ _ => id) : Keeps (fun k => k = g8) w3 _), HR4.out.tput14 _ _ _ _ _ _ _ _ _ _ _ _ _ _⟩
    case rest =>
      obtain ⟨hk5, hr5⟩ := hcut
      obtain ⟨w5, rfl⟩ : ∃ w5, w5 = wc := ⟨_, rfl⟩
      have HKW5 := hide (HK3.out.trans' hk5 (fun _ _ => id) (fun i hi e => by have := HS0.out; omega) : Keeps NoB w w5)
      have HR5 := hide hr5
      have H45 := hide (H43.out.keep hk5 (fun e => by have := HS0.out; omega)); have H55 := hide (H53.out.keep hk5 (fun e => by have := HS0.out; omega))
      have HTV5 := hide (HT.out w5 HKW5.out)
      obtain ⟨r0, r1, r2, r3, r4, r5, r6, r7, r8, r9, r10, r11, r12, r13⟩ := Blk.c14 (show Blk w5 (g8) _ #[.int .u8 kv, .bool gv, .slice lv lvn lvc, .string sv, .int .i64 mv, .slice iv ivn ivc, .slice tv tvn tvc, .int .u8 0, .bool false, .slice none 0 0, .string ⟨#[]⟩, .int .i64 0, .slice none 0 0, .slice none 0 0] from HR5.out)
      clear hk5 hr5 H43 H53 HA3 HK3 HR3
      go_upto_region 13 with
        first
        | (go_at_call 7
           refine (tm_right v w5 _ false _ _ _ _ _ _ _ _ _ _ _ _ _ HTV5.out).mono ?_
           rintro e w6 ⟨rfl, hk6⟩
           rw [HRV.out]
           have HKW6 := hide (HKW5.out.trans' hk6 (fun _ _ => id) (fun _ _ => id) : Keeps NoB w w6)
           have HR6 := hide (HR5.out.keep hk6 id); have H46 := hide (H45.out.keep hk6 id); have H56 := hide (H55.out.keep hk6 id)
           have HTV6 := hide (TermIn.keep hk6 (fun _ _ => id) _ _ HTV5.out)
           obtain ⟨s0, s1, s2, s3, s4, s5, s6, s7, s8, s9, s10, s11, s12, s13⟩ := Blk.c14 (show Blk w6 (g8) _ #[.int .u8 kv, .bool gv, .slice lv lvn lvc, .string sv, .int .i64 mv, .slice iv ivn ivc, .slice tv tvn tvc, .int .u8 0, .bool false, .slice none 0 0, .string ⟨#[]⟩, .int .i64 0, .slice none 0 0, .slice none 0 0] from HR6.out)
           clear hk6)
        | fail
      clear r0 r1 r2 r3 r4 r5 r6 r7 r8 r9 r10 r11 r12 r13 s0 s1 s2 s3 s4 s5 s6 s7 s8 s9 s10 s11 s12 s13 HR5 H45 H55 HTV5
      refine order_begin (fun W => Keeps NoB w6 W) (fun i => !(i == 6) && !(i == 7)) (by kernel_rfl) 9 rfl ?_
      have HS : Keeps NoB w6 w6.drew := (Keeps.refl _ _).drew
      refine order_pure (i := 0) rfl (by kernel_rfl) (fun _ _ _ h => h) (.inl ⟨rfl, fun _ => by go_simp; rfl⟩) ?_
      try simp only [Act.put, List.setIfInBounds_toArray, List.set_cons_succ, List.set_cons_zero]
      refine order_held (i := 1) rfl (by kernel_rfl) (fun _ _ _ h => h) (.inl ⟨rfl, fun W hW => by
        have q0 : W.cell? ⟨g8, 0, none⟩ = some (.int .u8 kv) := hW.cell id (HR6.out.cell 0)
        have q1 : W.cell? ⟨g8, 1, none⟩ = some (.bool gv) := hW.cell id (HR6.out.cell 1)
        have q2 : W.cell? ⟨g8, 2, none⟩ = some (.slice lv lvn lvc) := hW.cell id (HR6.out.cell 2)
        have q3 : W.cell? ⟨g8, 3, none⟩ = some (.string sv) := hW.cell id (HR6.out.cell 3)
        have q4 : W.cell? ⟨g8, 4, none⟩ = some (.int .i64 mv) := hW.cell id (HR6.out.cell 4)
        have q5 : W.cell? ⟨g8, 5, none⟩ = some (.slice iv ivn ivc) := hW.cell id (HR6.out.cell 5)
        have q6 : W.cell? ⟨g8, 6, none⟩ = some (.slice tv tvn tvc) := hW.cell id (HR6.out.cell 6)
        go_simp; rfl⟩) HS ?_
      try simp only [Act.put, List.setIfInBounds_toArray, List.set_cons_succ, List.set_cons_zero]
      refine order_pure (i := 3) rfl (by kernel_rfl) (fun _ _ _ h => h) (.inl ⟨rfl, fun _ => by go_simp; rfl⟩) ?_
      try simp only [Act.put, List.setIfInBounds_toArray, List.set_cons_succ, List.set_cons_zero]
      refine order_held (i := 4) rfl (by kernel_rfl) (fun _ _ _ h => h) (.inl ⟨rfl, fun W hW => by
        have q0 : W.cell? ⟨g8, 7, none⟩ = some (.int .u8 0) := hW.cell id (HR6.out.cell 7)
        have q1 : W.cell? ⟨g8, 8, none⟩ = some (.bool false) := hW.cell id (HR6.out.cell 8)
        have q2 : W.cell? ⟨g8, 9, none⟩ = some (.slice none 0 0) := hW.cell id (HR6.out.cell 9)
        have q3 : W.cell? ⟨g8, 10, none⟩ = some (.string ⟨#[]⟩) := hW.cell id (HR6.out.cell 10)
        have q4 : W.cell? ⟨g8, 11, none⟩ = some (.int .i64 0) := hW.cell id (HR6.out.cell 11)
        have q5 : W.cell? ⟨g8, 12, none⟩ = some (.slice none 0 0) := hW.cell id (HR6.out.cell 12)
        have q6 : W.cell? ⟨g8, 13, none⟩ = some (.slice none 0 0) := hW.cell id (HR6.out.cell 13)
        go_simp; rfl⟩) HS ?_
      try simp only [Act.put, List.setIfInBounds_toArray, List.set_cons_succ, List.set_cons_zero]
      refine order_one (i := 2) rfl (by kernel_rfl) (fun K hK => ?_)
      go_simp
      refine (tm_copy v.size v (Nat.le_refl _) w6.drew _ false _ _ _ _ _ _ _ _ _ _ _ _ _ (TermIn.keep HS (fun _ _ => id) _ _ HTV6.out)).mono ?_
      rintro e w7 ⟨a7, c7, i7, d7, t7, e7, rfl, ht7, hk7⟩
      have HK7 := hide (HS.trans' hk7 (fun _ _ => id) (fun _ _ => id) : Keeps NoB w6 w7)
      have HT7 := hide (TermIn.more (B' := Above w6) (fun _ _ h => h) _ _ ht7)
      refine hK _ _ (fun _ _ => HK7.out) ?_
      clear hK hk7 ht7
      try simp only [Act.put, List.setIfInBounds_toArray, List.set_cons_succ, List.set_cons_zero]
      refine order_one (i := 5) rfl (by kernel_rfl) (fun K hK => ?_)
      go_simp
      refine (tm_copy _ (flatT 0 ByteArray.empty 0) (Nat.le_refl _) w7 (fun _ => True) false _ _ _ _ _ _ _ _ _ _ _ _ _ (flat_in w7 _ _ 0 ByteArray.empty 0)).mono ?_
      rintro e w8 ⟨a8, c8, i8, d8, t8, e8, rfl, _, hk8⟩
      have HK8 := hide (HK7.out.trans' hk8 (fun _ _ => id) (fun _ _ => id) : Keeps NoB w6 w8)
      have HT8 := hide (TermIn.keep hk8 (fun _ _ => id) _ _ HT7.out)
      have H48 := hide (H46.out.keep HK8.out id); have H58 := hide (H56.out.keep HK8.out id)
      refine hK _ _ (fun _ _ => HK8.out) ?_
      clear hK hk8
      try simp only [Act.put, List.setIfInBounds_toArray, List.set_cons_succ, List.set_cons_zero]
      obtain ⟨z0, z1, z2, z3, z4, z5, z6⟩ := Blk.f7 (w := w8) (g := w.heap.size) H48.out
      obtain ⟨q0, q1, q2, q3, q4, q5, q6⟩ := Blk.c7 (show Blk w8 (w.heap.size) _ #[.int .u8 0, .bool false, .slice none 0 0, .string ⟨#[]⟩, .int .i64 0, .slice none 0 0, .slice none 0 0] from H48.out)
      refine order_one (i := 6) rfl (by kernel_rfl) (fun K hK => ?_)
      go_simp
      refine hK _ _ (fun h => absurd h (by decide)) ?_
      clear hK
      try simp only [Act.put, List.setIfInBounds_toArray, List.set_cons_succ, List.set_cons_zero]
      have HKA := hide (keeps_tput7 w8 w.heap.size (.int .u8 kv) (.bool gv) (.slice a7 lvn c7) (.string sv) (.int .i64 mv) (.slice i7 ivn d7) (.slice t7 tvn e7))
      have H49 := hide (H48.out.tput7 (.int .u8 kv) (.bool gv) (.slice a7 lvn c7) (.string sv) (.int .i64 mv) (.slice i7 ivn d7) (.slice t7 tvn e7)); have H59 := hide (H58.out.keep HKA.out (fun e => by omega))
      have HG4 := hide (show w.heap.size < w6.heap.size ∧ w.heap.size + 1 < w6.heap.size from ⟨H46.out.lt, H56.out.lt⟩)
      clear z0 z1 z2 z3 z4 z5 z6 q0 q1 q2 q3 q4 q5 q6 H48 H58 H46 H56
      generalize (((((((w8.setCell ⟨w.heap.size, 0, none⟩ (.int .u8 kv)).setCell ⟨w.heap.size, 1, none⟩ (.bool gv)).setCell ⟨w.heap.size, 2, none⟩ (.slice a7 lvn c7)).setCell ⟨w.heap.size, 3, none⟩ (.string sv)).setCell ⟨w.heap.size, 4, none⟩ (.int .i64 mv)).setCell ⟨w.heap.size, 5, none⟩ (.slice i7 ivn d7)).setCell ⟨w.heap.size, 6, none⟩ (.slice t7 tvn e7)) = w9 at *
      obtain ⟨z0, z1, z2, z3, z4, z5, z6⟩ := Blk.f7 (w := w9) (g := w.heap.size + 1) H59.out
      obtain ⟨q0, q1, q2, q3, q4, q5, q6⟩ := Blk.c7 (show Blk w9 (w.heap.size + 1) _ #[.int .u8 0, .bool false, .slice none 0 0, .string ⟨#[]⟩, .int .i64 0, .slice none 0 0, .slice none 0 0] from H59.out)
      refine order_one (i := 7) rfl (by kernel_rfl) (fun K hK => ?_)
      go_simp
      refine hK _ _ (fun h => absurd h (by decide)) ?_
      clear hK
      try simp only [Act.put, List.setIfInBounds_toArray, List.set_cons_succ, List.set_cons_zero]
      have HKB := hide (keeps_tput7 w9 (w.heap.size + 1) (.int .u8 0) (.bool false) (.slice a8 0 c8) (.string ByteArray.empty) (.int .i64 0) (.slice i8 0 d8) (.slice t8 0 e8))
      have H5t := hide (H59.out.tput7 (.int .u8 0) (.bool false) (.slice a8 0 c8) (.string ByteArray.empty) (.int .i64 0) (.slice i8 0 d8) (.slice t8 0 e8)); have H4t := hide (H49.out.keep HKB.out (fun e => by omega))
      clear z0 z1 z2 z3 z4 z5 z6 q0 q1 q2 q3 q4 q5 q6 H49 H59
      generalize (((((((w9.setCell ⟨w.heap.size + 1, 0, none⟩ (.int .u8 0)).setCell ⟨w.heap.size + 1, 1, none⟩ (.bool false)).setCell ⟨w.heap.size + 1, 2, none⟩ (.slice a8 0 c8)).setCell ⟨w.heap.size + 1, 3, none⟩ (.string ByteArray.empty)).setCell ⟨w.heap.size + 1, 4, none⟩ (.int .i64 0)).setCell ⟨w.heap.size + 1, 5, none⟩ (.slice i8 0 d8)).setCell ⟨w.heap.size + 1, 6, none⟩ (.slice t8 0 e8)) = w10 at *
      refine order_pure (i := 8) rfl (by kernel_rfl) (fun _ _ _ h => h) (.inl ⟨rfl, fun _ => by go_simp; rfl⟩) ?_
      try simp only [Act.put, List.setIfInBounds_toArray, List.set_cons_succ, List.set_cons_zero]
      refine order_done (by kernel_rfl) ?_
      go_wp2_with fail
      refine bodyPost_ret (results_12 _ _ _ _ _ _ _ _ _ _ _ _ _ _ _ _ _ _ _ rfl rfl rfl H4t.out H5t.out) rfl ?_
      refine ⟨_, _, _, _, _, _, _, _, _, _, _, _, _, _, _, _, _, _, _, rfl, ?_, ?_⟩
      · exact TermIn.more (fun k _ (hk : Above w6 k) => by have := HKW6.out.size; unfold Above at hk; show w.heap.size ≤ k; omega) _ _ (TermIn.weak _ _ (TermIn.keep HKB.out (fun k (hk : Above w6 k) e => by have := HG4.out; unfold Above at hk; omega) _ _ (TermIn.keep HKA.out (fun k (hk : Above w6 k) e => by have := HG4.out; unfold Above at hk; omega) _ _ HT8.out)))
      · exact ((HKW6.out.trans' HK8.out (fun _ _ => id) (fun _ _ => id) : Keeps NoB w w8).trans' HKA.out (fun _ _ => id) (fun i hi e => by omega) : Keeps NoB w w9).trans' HKB.out (fun _ _ => id) (fun i hi e => by omega)
end Go.Proofs.YthbbalkhmofndaaGreatDoor
namespace Go.Proofs.YthbbalkhmofndaaGreatDoor
open Go.RowKit

theorem results_9 (tmps : Array Value) (g4 : Nat) (b : Bool) (v0 v1 v2 v3 v4 v5 v6 : Value) (w : World) (h4 : tmps[4]? = some (.pointer (some ⟨g4, 0, none⟩))) (h5 : tmps[5]? = some (.bool b)) (hB4 : Blk w g4 26 #[v0, v1, v2, v3, v4, v5, v6]) :
    (results Tryz.f9 tmps).run Tryz.prog w = .ok (.tuple #[.agg #[v0, v1, v2, v3, v4, v5, v6], .bool b]) w := by
  have c0 : w.cell? ⟨g4, 0, none⟩ = some v0 := hB4.cell 0
  have c1 : w.cell? ⟨g4, 1, none⟩ = some v1 := hB4.cell 1
  have c2 : w.cell? ⟨g4, 2, none⟩ = some v2 := hB4.cell 2
  have c3 : w.cell? ⟨g4, 3, none⟩ = some v3 := hB4.cell 3
  have c4 : w.cell? ⟨g4, 4, none⟩ = some v4 := hB4.cell 4
  have c5 : w.cell? ⟨g4, 5, none⟩ = some v5 := hB4.cell 5
  have c6 : w.cell? ⟨g4, 6, none⟩ = some v6 := hB4.cell 6
  have hr : Tryz.f9.results = #[ResultVar.cell 4 26, ResultVar.tmp 5] := by kernel_rfl
  simp [results, hr, go_sem, h4, h5, c0, c1, c2, c3, c4, c5, c6]
def LawCallP (w : World) (v : Tm) (e : Ending) (w' : World) : Prop := ∃ (kv : Int) (gv : Bool) (lv : Option Addr) (lvn lvc : Nat) (sv : ByteArray) (mv : Int) (iv : Option Addr) (ivn ivc : Nat) (tv : Option Addr) (tvn tvc : Nat), e = .returned (.tuple #[.agg #[.int .u8 kv, .bool gv, .slice lv lvn lvc, .string sv, .int .i64 mv, .slice iv ivn ivc, .slice tv tvn tvc], .bool true]) ∧ TermIn w' (fun k => w.heap.size ≤ k) false [.int .u8 kv, .bool gv, .slice lv lvn lvc, .string sv, .int .i64 mv, .slice iv ivn ivc, .slice tv tvn tvc] v ∧ Keeps NoB w w'
set_option maxRecDepth 100000 in
set_option maxHeartbeats 2000000 in
theorem law_call (s : ByteArray) (A : Option Addr) (n c : Nat) (v : Tm) (w : World) (hc : ∀ w', Keeps NoB w w' → Calls Tryz.prog 12 #[.string s, .slice A n c] w' (CallP w' v)) : Calls Tryz.prog 9 #[.string s, .slice A n c] w (LawCallP w v) := by
  have HC := hide hc
  have HK0 := hide ((Keeps.refl NoB w).alloc (.cells #[.int .u8 0, .bool false, .slice none 0 0, .string ⟨#[]⟩, .int .i64 0, .slice none 0 0, .slice none 0 0] 26))
  have H40 := hide (Blk.new w 26 #[.int .u8 0, .bool false, .slice none 0 0, .string ⟨#[]⟩, .int .i64 0, .slice none 0 0, .slice none 0 0])
  have HG0 := hide (show w.heap.size < (w.alloc (.cells #[.int .u8 0, .bool false, .slice none 0 0, .string ⟨#[]⟩, .int .i64 0, .slice none 0 0, .slice none 0 0] 26)).heap.size from H40.out.lt)
  clear hc
  go_enter Tryz.func9, Tryz.ntmps9
  go_upto_region 1 with fail
  generalize w.alloc (.cells #[.int .u8 0, .bool false, .slice none 0 0, .string ⟨#[]⟩, .int .i64 0, .slice none 0 0, .slice none 0 0] 26) = w0 at *
  go_upto_region 2 with
    first
    | (go_at_call 12
       refine (HC.out w0 HK0.out).mono ?_
       rintro e w1 ⟨kv, gv, lv, lvn, lvc, sv, mv, iv, ivn, ivc, tv, tvn, tvc, r2, r2c, r5, r5c, r6, r6c, rfl, ht1, hk1⟩
       have HT1 := hide (TermIn.more (B' := fun k => w.heap.size < k) (fun k _ (hk : w0.heap.size ≤ k) => by have := HG0.out; show w.heap.size < k; omega) _ _ ht1)
       have HK1 := hide (HK0.out.trans' hk1 (fun _ _ => id) (fun _ _ => id) : Keeps NoB w w1)
       have H41 := hide (H40.out.keep hk1 id)
       clear ht1 hk1)
    | fail
  have HB := hide (two_tblks w1 26 26 #[.int .u8 kv, .bool gv, .slice lv lvn lvc, .string sv, .int .i64 mv, .slice iv ivn ivc, .slice tv tvn tvc] #[.int .u8 0, .bool false, .slice r2 0 r2c, .string ByteArray.empty, .int .i64 0, .slice r5 0 r5c, .slice r6 0 r6c]).1; have HE := hide (two_tblks w1 26 26 #[.int .u8 kv, .bool gv, .slice lv lvn lvc, .string sv, .int .i64 mv, .slice iv ivn ivc, .slice tv tvn tvc] #[.int .u8 0, .bool false, .slice r2 0 r2c, .string ByteArray.empty, .int .i64 0, .slice r5 0 r5c, .slice r6 0 r6c]).2
  have H42 := hide ((H41.out.alloc (.cells #[.int .u8 kv, .bool gv, .slice lv lvn lvc, .string sv, .int .i64 mv, .slice iv ivn ivc, .slice tv tvn tvc] 26)).alloc (.cells #[.int .u8 0, .bool false, .slice r2 0 r2c, .string ByteArray.empty, .int .i64 0, .slice r5 0 r5c, .slice r6 0 r6c] 26))
  have hkk : Keeps NoB w1 ((w1.alloc (.cells #[.int .u8 kv, .bool gv, .slice lv lvn lvc, .string sv, .int .i64 mv, .slice iv ivn ivc, .slice tv tvn tvc] 26)).alloc (.cells #[.int .u8 0, .bool false, .slice r2 0 r2c, .string ByteArray.empty, .int .i64 0, .slice r5 0 r5c, .slice r6 0 r6c] 26)) := ((Keeps.refl NoB w1).alloc _).alloc _
  have HK2 := hide (HK1.out.trans' hkk (fun _ _ => id) (fun _ _ => id) : Keeps NoB w ((w1.alloc (.cells #[.int .u8 kv, .bool gv, .slice lv lvn lvc, .string sv, .int .i64 mv, .slice iv ivn ivc, .slice tv tvn tvc] 26)).alloc (.cells #[.int .u8 0, .bool false, .slice r2 0 r2c, .string ByteArray.empty, .int .i64 0, .slice r5 0 r5c, .slice r6 0 r6c] 26)))
  have HT2 := hide (TermIn.keep hkk (fun _ _ => id) _ _ HT1.out)
  have HG := hide (show w.heap.size < w1.heap.size from H41.out.lt)
  clear hkk HT1 HK1 H41
  generalize (w1.alloc (.cells #[.int .u8 kv, .bool gv, .slice lv lvn lvc, .string sv, .int .i64 mv, .slice iv ivn ivc, .slice tv tvn tvc] 26)).alloc (.cells #[.int .u8 0, .bool false, .slice r2 0 r2c, .string ByteArray.empty, .int .i64 0, .slice r5 0 r5c, .slice r6 0 r6c] 26) = w2 at *
  refine order_begin (fun W => Keeps (fun k => k = w.heap.size) w2 W) (fun _ => true) (by kernel_rfl) 9 rfl ?_
  have HS : Keeps (fun k => k = w.heap.size) w2 w2.drew := (Keeps.refl _ _).drew
  have HKD := hide (show Keeps NoB w2 w2.drew from (Keeps.refl _ _).drew)
  refine order_held (i := 0) rfl (by kernel_rfl) (fun _ _ _ h => h) (.inl ⟨rfl, fun W hW => by
    have q0 : W.cell? ⟨w1.heap.size, 0, none⟩ = some (.int .u8 kv) := hW.cell (fun (e : w1.heap.size = w.heap.size) => by have := HG.out; omega) (HB.out.cell 0)
    have q1 : W.cell? ⟨w1.heap.size, 1, none⟩ = some (.bool gv) := hW.cell (fun (e : w1.heap.size = w.heap.size) => by have := HG.out; omega) (HB.out.cell 1)
    have q2 : W.cell? ⟨w1.heap.size, 2, none⟩ = some (.slice lv lvn lvc) := hW.cell (fun (e : w1.heap.size = w.heap.size) => by have := HG.out; omega) (HB.out.cell 2)
    have q3 : W.cell? ⟨w1.heap.size, 3, none⟩ = some (.string sv) := hW.cell (fun (e : w1.heap.size = w.heap.size) => by have := HG.out; omega) (HB.out.cell 3)
    have q4 : W.cell? ⟨w1.heap.size, 4, none⟩ = some (.int .i64 mv) := hW.cell (fun (e : w1.heap.size = w.heap.size) => by have := HG.out; omega) (HB.out.cell 4)
    have q5 : W.cell? ⟨w1.heap.size, 5, none⟩ = some (.slice iv ivn ivc) := hW.cell (fun (e : w1.heap.size = w.heap.size) => by have := HG.out; omega) (HB.out.cell 5)
    have q6 : W.cell? ⟨w1.heap.size, 6, none⟩ = some (.slice tv tvn tvc) := hW.cell (fun (e : w1.heap.size = w.heap.size) => by have := HG.out; omega) (HB.out.cell 6)
    go_simp; rfl⟩) HS ?_
  try simp only [Act.put, List.setIfInBounds_toArray, List.set_cons_succ, List.set_cons_zero]
  refine order_pure (i := 1) rfl (by kernel_rfl) (fun _ _ _ h => h) (.inl ⟨rfl, fun _ => by go_simp; rfl⟩) ?_
  try simp only [Act.put, List.setIfInBounds_toArray, List.set_cons_succ, List.set_cons_zero]
  refine order_pure (i := 2) rfl (by kernel_rfl) (fun _ _ _ h => h) (.inl ⟨rfl, fun _ => by go_simp; rfl⟩) ?_
  try simp only [Act.put, List.setIfInBounds_toArray, List.set_cons_succ, List.set_cons_zero]
  refine order_pure (i := 3) rfl (by kernel_rfl) (fun _ _ _ h => h) (.inl ⟨rfl, fun _ => by go_simp; rfl⟩) ?_
  try simp only [Act.put, List.setIfInBounds_toArray, List.set_cons_succ, List.set_cons_zero]
  refine order_held (i := 4) rfl (by kernel_rfl) (fun _ _ _ h => h) (.inl ⟨rfl, fun W hW => by
    have q0 : W.cell? ⟨w1.heap.size + 1, 0, none⟩ = some (.int .u8 0) := hW.cell (fun (e : w1.heap.size + 1 = w.heap.size) => by have := HG.out; omega) (HE.out.cell 0)
    go_simp; rfl⟩) HS ?_
  try simp only [Act.put, List.setIfInBounds_toArray, List.set_cons_succ, List.set_cons_zero]
  refine order_pure (i := 5) rfl (by kernel_rfl) (fun _ _ _ h => h) (.inl ⟨rfl, fun _ => by go_simp; rfl⟩) ?_
  try simp only [Act.put, List.setIfInBounds_toArray, List.set_cons_succ, List.set_cons_zero]
  refine order_pure (i := 6) rfl (by kernel_rfl) (fun _ _ _ h => h) (.inl ⟨rfl, fun _ => by go_simp; rfl⟩) ?_
  try simp only [Act.put, List.setIfInBounds_toArray, List.set_cons_succ, List.set_cons_zero]
  generalize w2.drew = w4 at *
  have H44 := hide (H42.out.keep HKD.out id)
  have HT4 := hide (TermIn.keep HKD.out (fun _ _ => id) _ _ HT2.out)
  have HK4 := hide (HK2.out.trans' HKD.out (fun _ _ => id) (fun _ _ => id) : Keeps NoB w w4)
  obtain ⟨z0, z1, z2, z3, z4, z5, z6⟩ := Blk.f7 (w := w4) (g := w.heap.size) H44.out
  obtain ⟨q0, q1, q2, q3, q4, q5, q6⟩ := Blk.c7 (show Blk w4 (w.heap.size) _ #[.int .u8 0, .bool false, .slice none 0 0, .string ⟨#[]⟩, .int .i64 0, .slice none 0 0, .slice none 0 0] from H44.out)
  refine order_one (i := 7) rfl (by kernel_rfl) (fun K hK => ?_)
  go_simp
  refine hK _ _ (fun _ h => h.trans' (keeps_tput7 w4 w.heap.size (.int .u8 kv) (.bool gv) (.slice lv lvn lvc) (.string sv) (.int .i64 mv) (.slice iv ivn ivc) (.slice tv tvn tvc)) (fun _ _ => id) (fun _ _ => id)) ?_
  clear hK
  try simp only [Act.put, List.setIfInBounds_toArray, List.set_cons_succ, List.set_cons_zero]
  have HKA := hide (keeps_tput7 w4 w.heap.size (.int .u8 kv) (.bool gv) (.slice lv lvn lvc) (.string sv) (.int .i64 mv) (.slice iv ivn ivc) (.slice tv tvn tvc))
  have H4t := hide (H44.out.tput7 (.int .u8 kv) (.bool gv) (.slice lv lvn lvc) (.string sv) (.int .i64 mv) (.slice iv ivn ivc) (.slice tv tvn tvc))
  clear z0 z1 z2 z3 z4 z5 z6 q0 q1 q2 q3 q4 q5 q6
  generalize (((((((w4.setCell ⟨w.heap.size, 0, none⟩ (.int .u8 kv)).setCell ⟨w.heap.size, 1, none⟩ (.bool gv)).setCell ⟨w.heap.size, 2, none⟩ (.slice lv lvn lvc)).setCell ⟨w.heap.size, 3, none⟩ (.string sv)).setCell ⟨w.heap.size, 4, none⟩ (.int .i64 mv)).setCell ⟨w.heap.size, 5, none⟩ (.slice iv ivn ivc)).setCell ⟨w.heap.size, 6, none⟩ (.slice tv tvn tvc)) = w5 at *
  refine order_pure (i := 8) rfl (by kernel_rfl) (fun _ _ _ h => h) (.inl ⟨rfl, fun _ => by go_simp; rfl⟩) ?_
  try simp only [Act.put, List.setIfInBounds_toArray, List.set_cons_succ, List.set_cons_zero]
  refine order_done (by kernel_rfl) ?_
  go_wp2_with fail
  refine bodyPost_ret (results_9 _ _ _ _ _ _ _ _ _ _ _ rfl rfl H4t.out) rfl ?_
  exact ⟨kv, gv, lv, lvn, lvc, sv, mv, iv, ivn, ivc, tv, tvn, tvc, rfl, TermIn.more (fun k _ (hk : w.heap.size < k) => Nat.le_of_lt hk) _ _ (TermIn.keep HKA.out (fun k (hk : w.heap.size < k) (e : k = w.heap.size) => by omega) _ _ HT4.out), HK4.out.trans' HKA.out (fun _ _ => id) (fun i hi e => by omega)⟩
end Go.Proofs.YthbbalkhmofndaaGreatDoor
namespace Go.Proofs.YthbbalkhmofndaaGreatDoor
open Go.RowKit

set_option maxRecDepth 100000 in
theorem law_list (A : Option Addr) (n c : Nat) (w : World) : Calls Tryz.prog 14 #[.slice A n c] w (ValP w (.agg #[.int .u8 7, .bool false, .slice none 0 0, .string ⟨#[]⟩, .int .i64 0, .slice A n c, .slice none 0 0])) := by
  have HB := hide (Blk.new w 26 #[.int .u8 0, .bool false, .slice none 0 0, .string ⟨#[]⟩, .int .i64 0, .slice none 0 0, .slice none 0 0])
  have HK := hide ((Keeps.refl NoB w).alloc (.cells #[.int .u8 0, .bool false, .slice none 0 0, .string ⟨#[]⟩, .int .i64 0, .slice none 0 0, .slice none 0 0] 26))
  go_enter Tryz.func14, Tryz.ntmps14
  go_upto_region 1 with fail
  generalize w.alloc (.cells #[.int .u8 0, .bool false, .slice none 0 0, .string ⟨#[]⟩, .int .i64 0, .slice none 0 0, .slice none 0 0] 26) = w1 at *
  generalize hg : w.heap.size = g at HB ⊢
  obtain ⟨z0, z1, z2, z3, z4, z5, z6⟩ := Blk.f7 (w := w1) (g := g) HB.out
  obtain ⟨v0, v1, v2, v3, v4, v5, v6⟩ := Blk.c7 (show Blk w1 (g) _ #[.int .u8 0, .bool false, .slice none 0 0, .string ⟨#[]⟩, .int .i64 0, .slice none 0 0, .slice none 0 0] from HB.out)
  have HG := hide hg
  clear hg
  go_wp2
  refine bodyPost_ret (results7 Tryz.f14 2 (by kernel_rfl) _ _ _ _ _ _ _ _ _ _ rfl (HB.out.tput7 _ _ _ _ _ _ _)) rfl ?_
  exact ⟨rfl, HK.out.trans' (keeps_tput7 w1 g _ _ _ _ _ _ _) (fun _ _ => id) (fun i hi e => by have := HG.out; omega)⟩
set_option maxRecDepth 100000 in
theorem law_atom (s : ByteArray) (w : World) : Calls Tryz.prog 15 #[.string s] w (ValP w (.agg #[.int .u8 2, .bool false, .slice none 0 0, .string s, .int .i64 0, .slice none 0 0, .slice none 0 0])) := by
  have HB := hide (Blk.new w 26 #[.int .u8 0, .bool false, .slice none 0 0, .string ⟨#[]⟩, .int .i64 0, .slice none 0 0, .slice none 0 0])
  have HK := hide ((Keeps.refl NoB w).alloc (.cells #[.int .u8 0, .bool false, .slice none 0 0, .string ⟨#[]⟩, .int .i64 0, .slice none 0 0, .slice none 0 0] 26))
  go_enter Tryz.func15, Tryz.ntmps15
  go_upto_region 1 with fail
  generalize w.alloc (.cells #[.int .u8 0, .bool false, .slice none 0 0, .string ⟨#[]⟩, .int .i64 0, .slice none 0 0, .slice none 0 0] 26) = w1 at *
  generalize hg : w.heap.size = g at HB ⊢
  obtain ⟨z0, z1, z2, z3, z4, z5, z6⟩ := Blk.f7 (w := w1) (g := g) HB.out
  obtain ⟨v0, v1, v2, v3, v4, v5, v6⟩ := Blk.c7 (show Blk w1 (g) _ #[.int .u8 0, .bool false, .slice none 0 0, .string ⟨#[]⟩, .int .i64 0, .slice none 0 0, .slice none 0 0] from HB.out)
  have HG := hide hg
  clear hg
  go_wp2
  refine bodyPost_ret (results7 Tryz.f15 2 (by kernel_rfl) _ _ _ _ _ _ _ _ _ _ rfl (HB.out.tput7 _ _ _ _ _ _ _)) rfl ?_
  exact ⟨rfl, HK.out.trans' (keeps_tput7 w1 g _ _ _ _ _ _ _) (fun _ _ => id) (fun i hi e => by have := HG.out; omega)⟩
set_option maxRecDepth 100000 in
theorem bif_tuple (A : Option Addr) (n c : Nat) (w : World) : Calls Tryz.prog 63 #[.slice A n c] w (ValP w (.agg #[.int .u8 6, .bool false, .slice none 0 0, .string ⟨#[]⟩, .int .i64 0, .slice A n c, .slice none 0 0])) := by
  have HB := hide (Blk.new w 26 #[.int .u8 0, .bool false, .slice none 0 0, .string ⟨#[]⟩, .int .i64 0, .slice none 0 0, .slice none 0 0])
  have HK := hide ((Keeps.refl NoB w).alloc (.cells #[.int .u8 0, .bool false, .slice none 0 0, .string ⟨#[]⟩, .int .i64 0, .slice none 0 0, .slice none 0 0] 26))
  go_enter Tryz.func63, Tryz.ntmps63
  go_upto_region 1 with fail
  generalize w.alloc (.cells #[.int .u8 0, .bool false, .slice none 0 0, .string ⟨#[]⟩, .int .i64 0, .slice none 0 0, .slice none 0 0] 26) = w1 at *
  generalize hg : w.heap.size = g at HB ⊢
  obtain ⟨z0, z1, z2, z3, z4, z5, z6⟩ := Blk.f7 (w := w1) (g := g) HB.out
  obtain ⟨v0, v1, v2, v3, v4, v5, v6⟩ := Blk.c7 (show Blk w1 (g) _ #[.int .u8 0, .bool false, .slice none 0 0, .string ⟨#[]⟩, .int .i64 0, .slice none 0 0, .slice none 0 0] from HB.out)
  have HG := hide hg
  clear hg
  go_wp2
  refine bodyPost_ret (results7 Tryz.f63 2 (by kernel_rfl) _ _ _ _ _ _ _ _ _ _ rfl (HB.out.tput7 _ _ _ _ _ _ _)) rfl ?_
  exact ⟨rfl, HK.out.trans' (keeps_tput7 w1 g _ _ _ _ _ _ _) (fun _ _ => id) (fun i hi e => by have := HG.out; omega)⟩
set_option maxRecDepth 100000 in
theorem bif_list (A : Option Addr) (n c : Nat) (w : World) : Calls Tryz.prog 50 #[.slice A n c] w (ValP w (.agg #[.int .u8 7, .bool false, .slice none 0 0, .string ⟨#[]⟩, .int .i64 0, .slice A n c, .slice none 0 0])) := by
  have HB := hide (Blk.new w 26 #[.int .u8 0, .bool false, .slice none 0 0, .string ⟨#[]⟩, .int .i64 0, .slice none 0 0, .slice none 0 0])
  have HK := hide ((Keeps.refl NoB w).alloc (.cells #[.int .u8 0, .bool false, .slice none 0 0, .string ⟨#[]⟩, .int .i64 0, .slice none 0 0, .slice none 0 0] 26))
  go_enter Tryz.func50, Tryz.ntmps50
  go_upto_region 1 with fail
  generalize w.alloc (.cells #[.int .u8 0, .bool false, .slice none 0 0, .string ⟨#[]⟩, .int .i64 0, .slice none 0 0, .slice none 0 0] 26) = w1 at *
  generalize hg : w.heap.size = g at HB ⊢
  obtain ⟨z0, z1, z2, z3, z4, z5, z6⟩ := Blk.f7 (w := w1) (g := g) HB.out
  obtain ⟨v0, v1, v2, v3, v4, v5, v6⟩ := Blk.c7 (show Blk w1 (g) _ #[.int .u8 0, .bool false, .slice none 0 0, .string ⟨#[]⟩, .int .i64 0, .slice none 0 0, .slice none 0 0] from HB.out)
  have HG := hide hg
  clear hg
  go_wp2
  refine bodyPost_ret (results7 Tryz.f50 2 (by kernel_rfl) _ _ _ _ _ _ _ _ _ _ rfl (HB.out.tput7 _ _ _ _ _ _ _)) rfl ?_
  exact ⟨rfl, HK.out.trans' (keeps_tput7 w1 g _ _ _ _ _ _ _) (fun _ _ => id) (fun i hi e => by have := HG.out; omega)⟩
end Go.Proofs.YthbbalkhmofndaaGreatDoor
namespace Go.Proofs.YthbbalkhmofndaaGreatDoor
open Go.RowKit

set_option maxRecDepth 100000 in
set_option maxHeartbeats 1000000 in
theorem law_number (z : Int) (h1 : -9223372036854775808 ≤ z) (h2 : z ≤ 9223372036854775807) (w : World) : Calls Tryz.prog 13 #[.int .i64 z] w (IntP w z) := by
  have HB := hide (Blk.new w 26 #[.int .u8 0, .bool false, .slice none 0 0, .string ⟨#[]⟩, .int .i64 0, .slice none 0 0, .slice none 0 0])
  have HK := hide ((Keeps.refl NoB w).alloc (.cells #[.int .u8 0, .bool false, .slice none 0 0, .string ⟨#[]⟩, .int .i64 0, .slice none 0 0, .slice none 0 0] 26))
  have HL := hide HB.out.lt
  have H1 := hide h1; have H2 := hide h2
  clear h1 h2
  go_enter Tryz.func13, Tryz.ntmps13
  go_upto_region 1 with fail
  generalize w.alloc (.cells #[.int .u8 0, .bool false, .slice none 0 0, .string ⟨#[]⟩, .int .i64 0, .slice none 0 0, .slice none 0 0] 26) = w0 at *
  go_wp2_with
    first
    | (go_at_call 29
       refine (of_any z H1.out H2.out w0).mono ?_
       rintro e w1 ⟨ng, A, n, c, rfl, hia, hk1⟩
       have HIA := hide hia
       have HK1 := hide (HK.out.trans' hk1 (fun _ _ => id) (fun _ _ => id) : Keeps NoB w w1)
       have HB1 := hide (HB.out.keep hk1 id)
       obtain ⟨z0, z1, z2, z3, z4, z5, z6⟩ := Blk.f7 (w := w1) (g := w.heap.size) HB1.out
       obtain ⟨v0, v1, v2, v3, v4, v5, v6⟩ := Blk.c7 (show Blk w1 (w.heap.size) _ #[.int .u8 0, .bool false, .slice none 0 0, .string ⟨#[]⟩, .int .i64 0, .slice none 0 0, .slice none 0 0] from HB1.out)
       clear hk1 hia)
    | fail
  refine bodyPost_ret (results7 Tryz.f13 2 (by kernel_rfl) _ _ _ _ _ _ _ _ _ _ rfl (HB1.out.tput7 _ _ _ _ _ _ _)) rfl ?_
  exact ⟨ng, A, n, c, rfl, (HIA.out.far (keeps_tput7 w1 w.heap.size _ _ _ _ _ _ _) (fun k hk e => by have := HL.out; omega)).more (fun k _ hk => by have := HL.out; omega), HK1.out.trans' (keeps_tput7 w1 w.heap.size _ _ _ _ _ _ _) (fun _ _ => id) (fun i hi e => by omega)⟩
end Go.Proofs.YthbbalkhmofndaaGreatDoor
