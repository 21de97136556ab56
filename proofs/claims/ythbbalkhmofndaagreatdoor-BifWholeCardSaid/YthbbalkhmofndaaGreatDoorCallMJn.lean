/- bif.behind at two lists. Printed by mkbehind.py. term.Split at what is no list. Printed by mksplit.py. bif.one at hd of what is no list. Printed by mksplit.py. bif.Call at ++, hd, self. Printed by mkcalln.py. -/
import Derived.Test.YthbbalkhmofndaaGreatDoorNumBJn
import Derived.Test.YthbbalkhmofndaaGreatDoorTmCopyJn
import Derived.Test.YthbbalkhmofndaaGreatDoorCallR1Jn
import Derived.Test.YthbbalkhmofndaaGreatDoorCallAJn
namespace Go.Proofs.YthbbalkhmofndaaGreatDoor
open Go.RowKit

theorem list_in {w : World} {B : Nat → Prop} {A tA : Option Addr} {n c tn tc : Nat} {css dss : List (List Value)} {items tail : List Tm} (h1 : RoomC n c 104) (h2 : RoomC tn tc 104) (hr : Reads w B false 7 A n css.flatten) (ht : TermsIn w B false css items) (hr2 : Reads w B false 7 tA tn dss.flatten) (ht2 : TermsIn w B false dss tail) :
    TermIn w B false [.int .u8 7, .bool false, .slice none 0 0, .string ⟨#[]⟩, .int .i64 0, .slice A n c, .slice tA tn tc] (.mk 7 false [] ByteArray.empty 0 items tail) := by
  unfold TermIn
  exact ⟨none, 0, 0, A, n, c, tA, tn, tc, css, dss, rfl, ⟨RoomC.zero _, h1, h2⟩, Reads.zero _ _ _ _ _, hr, ht, hr2, ht2⟩
theorem two_slices {w : World} {g : Nat} {v0 v1 : Value} (h : Blk w g 24 #[v0, v1]) : Reads w (fun _ => True) false 1 (some ⟨g, 0, none⟩) 2 [v0, v1] :=
  ⟨rfl, fun _ => ⟨_, rfl, rfl, trivial, h.lt, fun j u hu => ⟨by rw [h.cell, Nat.zero_add]; simpa using hu, fun h => by cases h⟩⟩⟩
set_option maxRecDepth 100000 in
set_option maxHeartbeats 2000000 in
theorem behind_two (N : Nat) (a b : Tm) (w : World) (hN : N ≤ w.heap.size) (kd : Int) (ng : Bool) (la : Option Addr) (ln lc : Nat) (tx : ByteArray) (nm : Int) (ia : Option Addr) (im ic : Nat) (ta : Option Addr) (tn tc : Nat) (ng' : Bool) (la' : Option Addr) (ln' lc' : Nat) (tx' : ByteArray) (nm' : Int) (ia' : Option Addr) (im' ic' : Nat) (ta' : Option Addr) (tn' tc' : Nat) (ha : TermIn w (fun k => k < N) false [.int .u8 kd, .bool ng, .slice la ln lc, .string tx, .int .i64 nm, .slice ia im ic, .slice ta tn tc] a) (hb : TermIn w (fun k => k < N) false [.int .u8 7, .bool ng', .slice la' ln' lc', .string tx', .int .i64 nm', .slice ia' im' ic', .slice ta' tn' tc'] b) (hl : listT a = true) (hne : 0 < im) (hro : Roomy (im + im') 104) :
    Calls Tryz.prog 57 #[.agg #[.int .u8 kd, .bool ng, .slice la ln lc, .string tx, .int .i64 nm, .slice ia im ic, .slice ta tn tc], .agg #[.int .u8 7, .bool ng', .slice la' ln' lc', .string tx', .int .i64 nm', .slice ia' im' ic', .slice ta' tn' tc']] w (ResP N w (.mk 7 false [] ByteArray.empty 0 (a.items ++ b.items) b.tail) zeroT) := by
  have HK0 := hide ((((Keeps.refl NoB w).alloc (.cells #[.int .u8 kd, .bool ng, .slice la ln lc, .string tx, .int .i64 nm, .slice ia im ic, .slice ta tn tc] 26)).alloc (.cells #[.int .u8 7, .bool ng', .slice la' ln' lc', .string tx', .int .i64 nm', .slice ia' im' ic', .slice ta' tn' tc'] 26)).alloc (.cells #[.int .u8 0, .bool false, .slice none 0 0, .string ⟨#[]⟩, .int .i64 0, .slice none 0 0, .slice none 0 0, .int .u8 0, .bool false, .slice none 0 0, .string ⟨#[]⟩, .int .i64 0, .slice none 0 0, .slice none 0 0] 48))
  have HA0 := hide (three_tblks w 26 26 48 #[.int .u8 kd, .bool ng, .slice la ln lc, .string tx, .int .i64 nm, .slice ia im ic, .slice ta tn tc] #[.int .u8 7, .bool ng', .slice la' ln' lc', .string tx', .int .i64 nm', .slice ia' im' ic', .slice ta' tn' tc'] #[.int .u8 0, .bool false, .slice none 0 0, .string ⟨#[]⟩, .int .i64 0, .slice none 0 0, .slice none 0 0, .int .u8 0, .bool false, .slice none 0 0, .string ⟨#[]⟩, .int .i64 0, .slice none 0 0, .slice none 0 0]).1; have HB0 := hide (three_tblks w 26 26 48 #[.int .u8 kd, .bool ng, .slice la ln lc, .string tx, .int .i64 nm, .slice ia im ic, .slice ta tn tc] #[.int .u8 7, .bool ng', .slice la' ln' lc', .string tx', .int .i64 nm', .slice ia' im' ic', .slice ta' tn' tc'] #[.int .u8 0, .bool false, .slice none 0 0, .string ⟨#[]⟩, .int .i64 0, .slice none 0 0, .slice none 0 0, .int .u8 0, .bool false, .slice none 0 0, .string ⟨#[]⟩, .int .i64 0, .slice none 0 0, .slice none 0 0]).2.1; have HR0 := hide (three_tblks w 26 26 48 #[.int .u8 kd, .bool ng, .slice la ln lc, .string tx, .int .i64 nm, .slice ia im ic, .slice ta tn tc] #[.int .u8 7, .bool ng', .slice la' ln' lc', .string tx', .int .i64 nm', .slice ia' im' ic', .slice ta' tn' tc'] #[.int .u8 0, .bool false, .slice none 0 0, .string ⟨#[]⟩, .int .i64 0, .slice none 0 0, .slice none 0 0, .int .u8 0, .bool false, .slice none 0 0, .string ⟨#[]⟩, .int .i64 0, .slice none 0 0, .slice none 0 0]).2.2
  have HHA := hide (TermIn.more (B' := fun _ => True) (fun _ _ _ => trivial) _ _ ha); have HNN := hide hN; have HRO := hide hro
  have HL := hide (show ([a].all listT) = true from by simp [hl])
  have hb0 : ((im : Int) == 0) = false := by simp; omega
  obtain ⟨limbs, items, tail, css, dss, rfl, hroom, _, hri, hti, _, _, _, hil, _⟩ := ha.parts
  obtain ⟨limbs', items', tail', css', dss', rfl, hroom', _, hri', hti', hrt', htt', _, hil', htl'⟩ := hb.parts
  have HI := hide hri; have HT := hide hti; have HI' := hide hri'; have HT' := hide hti'; have HRT := hide hrt'; have HTT := hide htt'; have HRM := hide hroom'
  have hfl : [css.flatten, css'.flatten].flatten.length = (im + im') * 7 := by
    have h1 := hri.1; have h2 := hri'.1
    simp only [List.flatten_cons, List.flatten_nil, List.append_nil, List.length_append, h1, h2]
    omega
  have HFL := hide hfl
  have H1 := hide (show ∀ u ∈ [css.flatten, css'.flatten].flatten, u.oneCell' = true from fun u hu => by
    simp only [List.flatten_cons, List.flatten_nil, List.append_nil, List.mem_append] at hu
    rcases hu with hu | hu
    · exact TermsIn.ones _ _ hti u hu
    · exact TermsIn.ones _ _ hti' u hu)
  clear ha hb hl hN hro hroom hroom' hri hti hri' hti' hrt' htt' hil hil' htl' hfl
  go_enter Tryz.func57, Tryz.ntmps57
  go_upto_region 1 with fail
  generalize ((w.alloc (.cells #[.int .u8 kd, .bool ng, .slice la ln lc, .string tx, .int .i64 nm, .slice ia im ic, .slice ta tn tc] 26)).alloc (.cells #[.int .u8 7, .bool ng', .slice la' ln' lc', .string tx', .int .i64 nm', .slice ia' im' ic', .slice ta' tn' tc'] 26)).alloc (.cells #[.int .u8 0, .bool false, .slice none 0 0, .string ⟨#[]⟩, .int .i64 0, .slice none 0 0, .slice none 0 0, .int .u8 0, .bool false, .slice none 0 0, .string ⟨#[]⟩, .int .i64 0, .slice none 0 0, .slice none 0 0] 48) = w0 at *
  obtain ⟨x0, x1, x2, x3, x4, x5, x6⟩ := Blk.c7 (show Blk w0 (w.heap.size) _ #[.int .u8 kd, .bool ng, .slice la ln lc, .string tx, .int .i64 nm, .slice ia im ic, .slice ta tn tc] from HA0.out)
  go_upto_region 6 with
    first
    | (go_at_call 53
       refine (proper_any [_] [[.int .u8 kd, .bool ng, .slice la ln lc, .string tx, .int .i64 nm, .slice ia im ic, .slice ta tn tc]] (some ⟨w0.heap.size, 0, none⟩) 1 1 (w0.alloc (.cells #[.int .u8 kd, .bool ng, .slice la ln lc, .string tx, .int .i64 nm, .slice ia im ic, .slice ta tn tc] 26)) (fun _ => True) false (one_readsC (Blk.new w0 26 #[.int .u8 kd, .bool ng, .slice la ln lc, .string tx, .int .i64 nm, .slice ia im ic, .slice ta tn tc])) (TermsIn.one (TermIn.keep (HK0.out.alloc _) (fun _ _ => id) _ _ HHA.out)) (by omega)).mono ?_
       rintro e w1 ⟨rfl, hk1⟩
       rw [HL.out]
       have hk1' : Keeps NoB w0 w1 := ((Keeps.refl NoB w0).alloc (.cells #[.int .u8 kd, .bool ng, .slice la ln lc, .string tx, .int .i64 nm, .slice ia im ic, .slice ta tn tc] 26)).trans' hk1 (fun _ _ => id) (fun _ _ => id)
       have HK1 := hide (HK0.out.trans' hk1' (fun _ _ => id) (fun _ _ => id) : Keeps NoB w w1)
       have HA1 := hide (HA0.out.keep hk1' id); have HB1 := hide (HB0.out.keep hk1' id); have HR1 := hide (HR0.out.keep hk1' id)
       obtain ⟨y0, y1, y2, y3, y4, y5, y6⟩ := Blk.c7 (show Blk w1 (w.heap.size) _ #[.int .u8 kd, .bool ng, .slice la ln lc, .string tx, .int .i64 nm, .slice ia im ic, .slice ta tn tc] from HA1.out)
       obtain ⟨z0, z1, z2, z3, z4, z5, z6⟩ := Blk.c7 (show Blk w1 (w.heap.size + 1) _ #[.int .u8 7, .bool ng', .slice la' ln' lc', .string tx', .int .i64 nm', .slice ia' im' ic', .slice ta' tn' tc'] from HB1.out)
       clear hk1 hk1')
    | fail
  clear x0 x1 x2 x3 x4 x5 x6 y0 y1 y2 y3 y4 y5 y6 z0 z1 z2 z3 z4 z5 z6 HK0 HA0 HB0 HR0 HHA HL
  refine order_begin (fun W => Keeps NoB w1 W) (fun i => !(i == 10)) (by kernel_rfl) 11 rfl ?_
  have HS : Keeps NoB w1 w1.drew := (Keeps.refl _ _).drew
  refine order_pure (i := 0) rfl (by kernel_rfl) (fun _ _ _ h => h) (.inl ⟨rfl, fun _ => by go_simp; rfl⟩) ?_
  try simp only [Act.put, List.setIfInBounds_toArray, List.set_cons_succ, List.set_cons_zero]
  refine order_held (i := 1) rfl (by kernel_rfl) (fun _ _ _ h => h) (.inl ⟨rfl, fun W hW => by
    have q0 : W.cell? ⟨w.heap.size, 5, none⟩ = some (.slice ia im ic) := hW.cell id (HA1.out.cell 5)
    go_simp; rfl⟩) HS ?_
  try simp only [Act.put, List.setIfInBounds_toArray, List.set_cons_succ, List.set_cons_zero]
  refine order_pure (i := 2) rfl (by kernel_rfl) (fun _ _ _ h => h) (.inl ⟨rfl, fun _ => by go_simp; rfl⟩) ?_
  try simp only [Act.put, List.setIfInBounds_toArray, List.set_cons_succ, List.set_cons_zero]
  refine order_held (i := 3) rfl (by kernel_rfl) (fun _ _ _ h => h) (.inl ⟨rfl, fun W hW => by
    have q0 : W.cell? ⟨w.heap.size + 1, 5, none⟩ = some (.slice ia' im' ic') := hW.cell id (HB1.out.cell 5)
    go_simp; rfl⟩) HS ?_
  try simp only [Act.put, List.setIfInBounds_toArray, List.set_cons_succ, List.set_cons_zero]
  refine order_pure (i := 6) rfl (by kernel_rfl) (fun _ _ _ h => h) (.inl ⟨rfl, fun _ => by go_simp; rfl⟩) ?_
  try simp only [Act.put, List.setIfInBounds_toArray, List.set_cons_succ, List.set_cons_zero]
  refine order_held (i := 7) rfl (by kernel_rfl) (fun _ _ _ h => h) (.inl ⟨rfl, fun W hW => by
    have q0 : W.cell? ⟨w.heap.size + 1, 6, none⟩ = some (.slice ta' tn' tc') := hW.cell id (HB1.out.cell 6)
    go_simp; rfl⟩) HS ?_
  try simp only [Act.put, List.setIfInBounds_toArray, List.set_cons_succ, List.set_cons_zero]
  generalize w1.drew = wd at *
  refine order_one (i := 4) rfl (by kernel_rfl) (fun K hK => ?_)
  go_simp
  refine hK _ _ (fun _ h => h.alloc _) ?_
  clear hK
  try simp only [Act.put, List.setIfInBounds_toArray, List.set_cons_succ, List.set_cons_zero]
  have HV2 := hide (Blk.new wd 24 #[.slice ia im ic, .slice ia' im' ic'])
  have HK2 := hide (HS.alloc (.cells #[.slice ia im ic, .slice ia' im' ic'] 24))
  generalize wd.alloc (.cells #[.slice ia im ic, .slice ia' im' ic'] 24) = w2 at *
  generalize wd.heap.size = gv at *
  have HKW2 := hide (HK1.out.trans' HK2.out (fun _ _ => id) (fun _ _ => id) : Keeps NoB w w2)
  refine order_one (i := 5) rfl (by kernel_rfl) (fun K hK => ?_)
  go_simp
  refine (tmC_concat [css.flatten, css'.flatten] [.slice ia im ic, .slice ia' im' ic'] (some ⟨gv, 0, none⟩) 2 2 (im + im') w2 (fun _ => True) (fun k => k < N) false false (two_slices HV2.out) (by unfold HeadsAt HeadsAt HeadsAt; exact ⟨⟨_, _, _, rfl, HI.out.keep HKW2.out (fun _ _ => id)⟩, ⟨_, _, _, rfl, HI'.out.keep HKW2.out (fun _ _ => id)⟩, trivial⟩) HFL.out H1.out HRO.out (by omega)).mono ?_
  rintro e w3 ⟨A3, c3, rfl, hs3, hf3, hk3⟩
  have HS3 := hide hs3; have HF3 := hide hf3
  have HK3 := hide (HK2.out.trans' hk3 (fun _ _ => id) (fun _ _ => id) : Keeps NoB w1 w3)
  have HG2 := hide HKW2.out.size
  refine hK _ _ (fun _ _ => HK3.out) ?_
  clear hK hk3 hs3 hf3
  try simp only [Act.put, List.setIfInBounds_toArray, List.set_cons_succ, List.set_cons_zero]
  refine order_pure (i := 8) rfl (by kernel_rfl) (fun _ _ _ h => h) (.inl ⟨rfl, fun _ => by go_simp; rfl⟩) ?_
  try simp only [Act.put, List.setIfInBounds_toArray, List.set_cons_succ, List.set_cons_zero]
  refine order_one (i := 9) rfl (by kernel_rfl) (fun K hK => ?_)
  go_simp
  refine (of_term _ _ _ _ _ _ _ _ _ _ _ _ _ _).mono ?_
  rintro e w4 ⟨rfl, hk4⟩
  have HK4 := hide (HK3.out.trans' hk4 (fun _ _ => id) (fun _ _ => id) : Keeps NoB w1 w4)
  have HR4 := hide (HR1.out.keep HK4.out id); have HS4 := hide (HS3.out.fresh hk4)
  have HKW4 := hide (HK1.out.trans' HK4.out (fun _ _ => id) (fun _ _ => id) : Keeps NoB w w4)
  refine hK _ _ (fun _ _ => HK4.out) ?_
  clear hK hk4
  try simp only [Act.put, List.setIfInBounds_toArray, List.set_cons_succ, List.set_cons_zero]
  obtain ⟨z0, z1, z2, z3, z4, z5, z6, z7, z8, z9, z10, z11, z12, z13⟩ := Blk.f14 (w := w4) (g := w.heap.size + 1 + 1) HR4.out
  obtain ⟨v0, v1, v2, v3, v4, v5, v6, v7, v8, v9, v10, v11, v12, v13⟩ := Blk.c14 (show Blk w4 (w.heap.size + 1 + 1) _ #[.int .u8 0, .bool false, .slice none 0 0, .string ⟨#[]⟩, .int .i64 0, .slice none 0 0, .slice none 0 0, .int .u8 0, .bool false, .slice none 0 0, .string ⟨#[]⟩, .int .i64 0, .slice none 0 0, .slice none 0 0] from HR4.out)
  refine order_one (i := 10) rfl (by kernel_rfl) (fun K hK => ?_)
  go_simp
  refine hK _ _ (fun h => absurd h (by decide)) ?_
  clear hK
  try simp only [Act.put, List.setIfInBounds_toArray, List.set_cons_succ, List.set_cons_zero]
  refine order_done (by kernel_rfl) ?_
  go_wp2_with fail
  refine bodyPost_ret (results14 Tryz.f57 4 (by kernel_rfl) _ _ _ _ _ _ _ _ _ _ _ _ _ _ _ _ _ rfl (HR4.out.tput14 _ _ _ _ _ _ _ _ _ _ _ _ _ _)) rfl ?_
  have hkt := keeps_tput14 w4 (w.heap.size + 1 + 1) (.int .u8 7) (.bool false) (.slice none 0 0) (.string ⟨#[]⟩) (.int .i64 0) (.slice A3 (im + im') c3) (.slice ta' tn' tc') (.int .u8 0) (.bool false) (.slice none 0 0) (.string ⟨#[]⟩) (.int .i64 0) (.slice none 0 0) (.slice none 0 0)
  have hkf : Keeps (fun k => k = w.heap.size + 1 + 1) w _ := HKW4.out.trans' hkt (fun _ _ h => h.elim) (fun _ _ => id)
  have hn : ∀ k, k < N → ¬ k = w.heap.size + 1 + 1 := fun k hk e => by have := HNN.out; omega
  have hup : ∀ k, k < N → ResB N w k := fun k hk => Or.inl hk
  have hrw : ∀ k, rowB A3 k → ¬ k = w.heap.size + 1 + 1 := fun k hk e => by
    have h1 := HF3.out k hk; have h2 := HR1.out.lt; have h3 := HK2.out.size
    omega
  have hs5 := HS4.out.keep hkt hrw
  refine ⟨7, false, none, 0, 0, ⟨#[]⟩, 0, A3, im + im', c3, ta', tn', tc', 0, false, none, 0, 0, ⟨#[]⟩, 0, none, 0, 0, none, 0, 0, rfl, ?_, flat_in _ _ _ 0 ByteArray.empty 0, HKW4.out.trans' hkt (fun _ _ => id) (fun i hi e => by omega)⟩
  refine list_in (css := css ++ css') (dss := dss') ⟨HRO.out, hs5.2.1, hs5.2.2.1⟩ HRM.out.2.2 ?_ (TermsIn.append (TermsIn.more (fun k _ h => hup k h) _ _ (TermsIn.keep hkf hn _ _ HT.out)) (TermsIn.more (fun k _ h => hup k h) _ _ (TermsIn.keep hkf hn _ _ HT'.out))) ((HRT.out.keep hkf hn).more (fun k _ h => hup k h)) (TermsIn.more (fun k _ h => hup k h) _ _ (TermsIn.keep hkf hn _ _ HTT.out))
  rw [List.flatten_append]
  have h6 := hs5.reads.weak.more (B' := ResB N w) (fun k _ hk => Or.inr (Nat.le_trans HG2.out (HF3.out k hk)))
  simpa using h6
end Go.Proofs.YthbbalkhmofndaaGreatDoor
namespace Go.Proofs.YthbbalkhmofndaaGreatDoor
open Go.RowKit

theorem results_52 (tmps : Array Value) (g4 g5 : Nat) (b : Bool) (v0 v1 v2 v3 v4 v5 v6 u0 u1 u2 u3 u4 u5 u6 : Value) (w : World) (h4 : tmps[2]? = some (.pointer (some ⟨g4, 0, none⟩))) (h5 : tmps[3]? = some (.pointer (some ⟨g5, 0, none⟩))) (h6 : tmps[4]? = some (.bool b)) (hB4 : Blk w g4 26 #[v0, v1, v2, v3, v4, v5, v6]) (hB5 : Blk w g5 26 #[u0, u1, u2, u3, u4, u5, u6]) :
    (results Tryz.f52 tmps).run Tryz.prog w = .ok (.tuple #[.agg #[v0, v1, v2, v3, v4, v5, v6], .agg #[u0, u1, u2, u3, u4, u5, u6], .bool b]) w := by
  have c0 : w.cell? ⟨g4, 0, none⟩ = some v0 := hB4.cell 0
  have d0 : w.cell? ⟨g5, 0, none⟩ = some u0 := hB5.cell 0
  have c1 : w.cell? ⟨g4, 1, none⟩ = some v1 := hB4.cell 1
  have d1 : w.cell? ⟨g5, 1, none⟩ = some u1 := hB5.cell 1
  have c2 : w.cell? ⟨g4, 2, none⟩ = some v2 := hB4.cell 2
  have d2 : w.cell? ⟨g5, 2, none⟩ = some u2 := hB5.cell 2
  have c3 : w.cell? ⟨g4, 3, none⟩ = some v3 := hB4.cell 3
  have d3 : w.cell? ⟨g5, 3, none⟩ = some u3 := hB5.cell 3
  have c4 : w.cell? ⟨g4, 4, none⟩ = some v4 := hB4.cell 4
  have d4 : w.cell? ⟨g5, 4, none⟩ = some u4 := hB5.cell 4
  have c5 : w.cell? ⟨g4, 5, none⟩ = some v5 := hB4.cell 5
  have d5 : w.cell? ⟨g5, 5, none⟩ = some u5 := hB5.cell 5
  have c6 : w.cell? ⟨g4, 6, none⟩ = some v6 := hB4.cell 6
  have d6 : w.cell? ⟨g5, 6, none⟩ = some u6 := hB5.cell 6
  have hr : Tryz.f52.results = #[ResultVar.cell 2 26, ResultVar.cell 3 26, ResultVar.tmp 4] := by kernel_rfl
  simp [results, hr, go_sem, h4, h5, h6, c0, d0, c1, d1, c2, d2, c3, d3, c4, d4, c5, d5, c6, d6]
set_option maxRecDepth 100000 in
set_option maxHeartbeats 2000000 in
theorem split_no (t : Tm) (w : World) (B : Nat → Prop) (F : Bool) (kd : Int) (ng : Bool) (la : Option Addr) (ln lc : Nat) (tx : ByteArray) (nm : Int) (ia : Option Addr) (im ic : Nat) (ta : Option Addr) (tn tc : Nat) (ht : TermIn w B F [.int .u8 kd, .bool ng, .slice la ln lc, .string tx, .int .i64 nm, .slice ia im ic, .slice ta tn tc] t) (hr : rightT t = true) (hk : ¬ kd = 7) :
    Calls Tryz.prog 52 #[.agg #[.int .u8 kd, .bool ng, .slice la ln lc, .string tx, .int .i64 nm, .slice ia im ic, .slice ta tn tc]] w fun e w' => e = .returned (.tuple #[.agg #[.int .u8 0, .bool false, .slice none 0 0, .string ⟨#[]⟩, .int .i64 0, .slice none 0 0, .slice none 0 0], .agg #[.int .u8 0, .bool false, .slice none 0 0, .string ⟨#[]⟩, .int .i64 0, .slice none 0 0, .slice none 0 0], .bool false]) ∧ Keeps NoB w w' := by
  have HK0 := hide ((((Keeps.refl NoB w).alloc (.cells #[.int .u8 kd, .bool ng, .slice la ln lc, .string tx, .int .i64 nm, .slice ia im ic, .slice ta tn tc] 26)).alloc (.cells #[.int .u8 0, .bool false, .slice none 0 0, .string ⟨#[]⟩, .int .i64 0, .slice none 0 0, .slice none 0 0] 26)).alloc (.cells #[.int .u8 0, .bool false, .slice none 0 0, .string ⟨#[]⟩, .int .i64 0, .slice none 0 0, .slice none 0 0] 26))
  have HX0 := hide (three_tblks w 26 26 26 #[.int .u8 kd, .bool ng, .slice la ln lc, .string tx, .int .i64 nm, .slice ia im ic, .slice ta tn tc] #[.int .u8 0, .bool false, .slice none 0 0, .string ⟨#[]⟩, .int .i64 0, .slice none 0 0, .slice none 0 0] #[.int .u8 0, .bool false, .slice none 0 0, .string ⟨#[]⟩, .int .i64 0, .slice none 0 0, .slice none 0 0]).1; have HA0 := hide (three_tblks w 26 26 26 #[.int .u8 kd, .bool ng, .slice la ln lc, .string tx, .int .i64 nm, .slice ia im ic, .slice ta tn tc] #[.int .u8 0, .bool false, .slice none 0 0, .string ⟨#[]⟩, .int .i64 0, .slice none 0 0, .slice none 0 0] #[.int .u8 0, .bool false, .slice none 0 0, .string ⟨#[]⟩, .int .i64 0, .slice none 0 0, .slice none 0 0]).2.1; have HB0 := hide (three_tblks w 26 26 26 #[.int .u8 kd, .bool ng, .slice la ln lc, .string tx, .int .i64 nm, .slice ia im ic, .slice ta tn tc] #[.int .u8 0, .bool false, .slice none 0 0, .string ⟨#[]⟩, .int .i64 0, .slice none 0 0, .slice none 0 0] #[.int .u8 0, .bool false, .slice none 0 0, .string ⟨#[]⟩, .int .i64 0, .slice none 0 0, .slice none 0 0]).2.2
  have HT := hide ht; have HR := hide hr
  have hb1 : (kd == 7) = false := by simpa using hk
  have hb2 : (kd != 7) = true := by simpa using hk
  clear ht hr
  go_enter Tryz.func52, Tryz.ntmps52
  go_upto_region 1 with fail
  generalize ((w.alloc (.cells #[.int .u8 kd, .bool ng, .slice la ln lc, .string tx, .int .i64 nm, .slice ia im ic, .slice ta tn tc] 26)).alloc (.cells #[.int .u8 0, .bool false, .slice none 0 0, .string ⟨#[]⟩, .int .i64 0, .slice none 0 0, .slice none 0 0] 26)).alloc (.cells #[.int .u8 0, .bool false, .slice none 0 0, .string ⟨#[]⟩, .int .i64 0, .slice none 0 0, .slice none 0 0] 26) = w0 at *
  obtain ⟨x0, x1, x2, x3, x4, x5, x6⟩ := Blk.c7 (show Blk w0 (w.heap.size) _ #[.int .u8 kd, .bool ng, .slice la ln lc, .string tx, .int .i64 nm, .slice ia im ic, .slice ta tn tc] from HX0.out)
  go_wp2_with
    first
    | (go_at_call 7
       refine (tm_right t w0 B F _ _ _ _ _ _ _ _ _ _ _ _ _ (TermIn.keep HK0.out (fun _ _ => id) _ _ HT.out)).mono ?_
       rintro e w1 ⟨rfl, hk1⟩
       rw [HR.out]
       have HK1 := hide (HK0.out.trans' hk1 (fun _ _ => id) (fun _ _ => id) : Keeps NoB w w1)
       have HX1 := hide (HX0.out.keep hk1 id); have HA1 := hide (HA0.out.keep hk1 id); have HB1 := hide (HB0.out.keep hk1 id)
       obtain ⟨y0, y1, y2, y3, y4, y5, y6⟩ := Blk.c7 (show Blk w1 (w.heap.size) _ #[.int .u8 kd, .bool ng, .slice la ln lc, .string tx, .int .i64 nm, .slice ia im ic, .slice ta tn tc] from HX1.out)
       obtain ⟨z0, z1, z2, z3, z4, z5, z6⟩ := Blk.f7 (w := w1) (g := w.heap.size + 1) HA1.out
       obtain ⟨f0, f1, f2, f3, f4, f5, f6⟩ := Blk.f7 (w := w1) (g := w.heap.size + 1 + 1) HB1.out
       obtain ⟨q0, q1, q2, q3, q4, q5, q6⟩ := Blk.c7 (show Blk w1 (w.heap.size + 1) _ #[.int .u8 0, .bool false, .slice none 0 0, .string ⟨#[]⟩, .int .i64 0, .slice none 0 0, .slice none 0 0] from HA1.out)
       obtain ⟨p0, p1, p2, p3, p4, p5, p6⟩ := Blk.c7 (show Blk w1 (w.heap.size + 1 + 1) _ #[.int .u8 0, .bool false, .slice none 0 0, .string ⟨#[]⟩, .int .i64 0, .slice none 0 0, .slice none 0 0] from HB1.out)
       clear hk1)
    | fail
  have hka := keeps_tput7 w1 (w.heap.size + 1) (.int .u8 0) (.bool false) (.slice none 0 0) (.string ⟨#[]⟩) (.int .i64 0) (.slice none 0 0) (.slice none 0 0)
  have hA := HA1.out.tput7 (.int .u8 0) (.bool false) (.slice none 0 0) (.string ⟨#[]⟩) (.int .i64 0) (.slice none 0 0) (.slice none 0 0)
  have hB := HB1.out.keep hka (fun e => by omega)
  have HKF := hide (HK1.out.trans' hka (fun _ _ => id) (fun i hi e => by omega) : Keeps NoB w _)
  clear x0 x1 x2 x3 x4 x5 x6 y0 y1 y2 y3 y4 y5 y6 z0 z1 z2 z3 z4 z5 z6 q0 q1 q2 q3 q4 q5 q6 p0 p1 p2 p3 p4 p5 p6 f0 f1 f2 f3 f4 f5 f6 hka HA1 HB1 HK1
  generalize (((((((w1.setCell ⟨w.heap.size + 1, 0, none⟩ (.int .u8 0)).setCell ⟨w.heap.size + 1, 1, none⟩ (.bool false)).setCell ⟨w.heap.size + 1, 2, none⟩ (.slice none 0 0)).setCell ⟨w.heap.size + 1, 3, none⟩ (.string ⟨#[]⟩)).setCell ⟨w.heap.size + 1, 4, none⟩ (.int .i64 0)).setCell ⟨w.heap.size + 1, 5, none⟩ (.slice none 0 0)).setCell ⟨w.heap.size + 1, 6, none⟩ (.slice none 0 0)) = w2 at *
  have hkb := keeps_tput7 w2 (w.heap.size + 1 + 1) (.int .u8 0) (.bool false) (.slice none 0 0) (.string ⟨#[]⟩) (.int .i64 0) (.slice none 0 0) (.slice none 0 0)
  refine bodyPost_ret (results_52 _ _ _ _ _ _ _ _ _ _ _ _ _ _ _ _ _ _ _ rfl rfl rfl (hA.keep hkb (fun e => by omega)) (hB.tput7 (.int .u8 0) (.bool false) (.slice none 0 0) (.string ⟨#[]⟩) (.int .i64 0) (.slice none 0 0) (.slice none 0 0))) rfl ?_
  exact ⟨rfl, HKF.out.trans' hkb (fun _ _ => id) (fun i hi e => by omega)⟩
end Go.Proofs.YthbbalkhmofndaaGreatDoor
namespace Go.Proofs.YthbbalkhmofndaaGreatDoor
open Go.RowKit

/-- bif.kinds, as the program lays it. -/
def KindsAt (w : World) : Prop := w.cell? ⟨1, 0, none⟩ = some (.string ⟨#[105, 115, 95, 105, 110, 116, 101, 103, 101, 114]⟩) ∧ w.cell? ⟨1, 1, none⟩ = some (.int .u8 1) ∧ w.cell? ⟨1, 2, none⟩ = some (.string ⟨#[105, 115, 95, 97, 116, 111, 109]⟩) ∧ w.cell? ⟨1, 3, none⟩ = some (.int .u8 2) ∧ w.cell? ⟨1, 4, none⟩ = some (.string ⟨#[105, 115, 95, 116, 117, 112, 108, 101]⟩) ∧ w.cell? ⟨1, 5, none⟩ = some (.int .u8 6) ∧ w.cell? ⟨1, 6, none⟩ = some (.string ⟨#[105, 115, 95, 108, 105, 115, 116]⟩) ∧ w.cell? ⟨1, 7, none⟩ = some (.int .u8 7) ∧ w.cell? ⟨1, 8, none⟩ = some (.string ⟨#[105, 115, 95, 112, 105, 100]⟩) ∧ w.cell? ⟨1, 9, none⟩ = some (.int .u8 5) ∧ w.cell? ⟨1, 10, none⟩ = some (.string ⟨#[105, 115, 95, 114, 101, 102, 101, 114, 101, 110, 99, 101]⟩) ∧ w.cell? ⟨1, 11, none⟩ = some (.int .u8 3) ∧ w.cell? ⟨1, 12, none⟩ = some (.string ⟨#[105, 115, 95, 102, 117, 110, 99, 116, 105, 111, 110]⟩) ∧ w.cell? ⟨1, 13, none⟩ = some (.int .u8 4)
theorem KindsAt.keep {w w' : World} (h : KindsAt w) (hk : Keeps NoB w w') : KindsAt w' := by
  obtain ⟨h0, h1, h2, h3, h4, h5, h6, h7, h8, h9, h10, h11, h12, h13⟩ := h
  exact ⟨hk.cell id h0, hk.cell id h1, hk.cell id h2, hk.cell id h3, hk.cell id h4, hk.cell id h5, hk.cell id h6, hk.cell id h7, hk.cell id h8, hk.cell id h9, hk.cell id h10, hk.cell id h11, hk.cell id h12, hk.cell id h13⟩
theorem idx_kinds_0 (w : World) : (Instr.index 72 (.agg #[.string ⟨#[105, 115, 95, 105, 110, 116, 101, 103, 101, 114]⟩, .int .u8 1, .string ⟨#[105, 115, 95, 97, 116, 111, 109]⟩, .int .u8 2, .string ⟨#[105, 115, 95, 116, 117, 112, 108, 101]⟩, .int .u8 6, .string ⟨#[105, 115, 95, 108, 105, 115, 116]⟩, .int .u8 7, .string ⟨#[105, 115, 95, 112, 105, 100]⟩, .int .u8 5, .string ⟨#[105, 115, 95, 114, 101, 102, 101, 114, 101, 110, 99, 101]⟩, .int .u8 3, .string ⟨#[105, 115, 95, 102, 117, 110, 99, 116, 105, 111, 110]⟩, .int .u8 4]) (.int .i64 0)).run Tryz.prog w = .ok (.agg #[.string ⟨#[105, 115, 95, 105, 110, 116, 101, 103, 101, 114]⟩, .int .u8 1]) w := by kernel_rfl
theorem idx_kinds_1 (w : World) : (Instr.index 72 (.agg #[.string ⟨#[105, 115, 95, 105, 110, 116, 101, 103, 101, 114]⟩, .int .u8 1, .string ⟨#[105, 115, 95, 97, 116, 111, 109]⟩, .int .u8 2, .string ⟨#[105, 115, 95, 116, 117, 112, 108, 101]⟩, .int .u8 6, .string ⟨#[105, 115, 95, 108, 105, 115, 116]⟩, .int .u8 7, .string ⟨#[105, 115, 95, 112, 105, 100]⟩, .int .u8 5, .string ⟨#[105, 115, 95, 114, 101, 102, 101, 114, 101, 110, 99, 101]⟩, .int .u8 3, .string ⟨#[105, 115, 95, 102, 117, 110, 99, 116, 105, 111, 110]⟩, .int .u8 4]) (.int .i64 1)).run Tryz.prog w = .ok (.agg #[.string ⟨#[105, 115, 95, 97, 116, 111, 109]⟩, .int .u8 2]) w := by kernel_rfl
theorem idx_kinds_2 (w : World) : (Instr.index 72 (.agg #[.string ⟨#[105, 115, 95, 105, 110, 116, 101, 103, 101, 114]⟩, .int .u8 1, .string ⟨#[105, 115, 95, 97, 116, 111, 109]⟩, .int .u8 2, .string ⟨#[105, 115, 95, 116, 117, 112, 108, 101]⟩, .int .u8 6, .string ⟨#[105, 115, 95, 108, 105, 115, 116]⟩, .int .u8 7, .string ⟨#[105, 115, 95, 112, 105, 100]⟩, .int .u8 5, .string ⟨#[105, 115, 95, 114, 101, 102, 101, 114, 101, 110, 99, 101]⟩, .int .u8 3, .string ⟨#[105, 115, 95, 102, 117, 110, 99, 116, 105, 111, 110]⟩, .int .u8 4]) (.int .i64 2)).run Tryz.prog w = .ok (.agg #[.string ⟨#[105, 115, 95, 116, 117, 112, 108, 101]⟩, .int .u8 6]) w := by kernel_rfl
theorem idx_kinds_3 (w : World) : (Instr.index 72 (.agg #[.string ⟨#[105, 115, 95, 105, 110, 116, 101, 103, 101, 114]⟩, .int .u8 1, .string ⟨#[105, 115, 95, 97, 116, 111, 109]⟩, .int .u8 2, .string ⟨#[105, 115, 95, 116, 117, 112, 108, 101]⟩, .int .u8 6, .string ⟨#[105, 115, 95, 108, 105, 115, 116]⟩, .int .u8 7, .string ⟨#[105, 115, 95, 112, 105, 100]⟩, .int .u8 5, .string ⟨#[105, 115, 95, 114, 101, 102, 101, 114, 101, 110, 99, 101]⟩, .int .u8 3, .string ⟨#[105, 115, 95, 102, 117, 110, 99, 116, 105, 111, 110]⟩, .int .u8 4]) (.int .i64 3)).run Tryz.prog w = .ok (.agg #[.string ⟨#[105, 115, 95, 108, 105, 115, 116]⟩, .int .u8 7]) w := by kernel_rfl
theorem idx_kinds_4 (w : World) : (Instr.index 72 (.agg #[.string ⟨#[105, 115, 95, 105, 110, 116, 101, 103, 101, 114]⟩, .int .u8 1, .string ⟨#[105, 115, 95, 97, 116, 111, 109]⟩, .int .u8 2, .string ⟨#[105, 115, 95, 116, 117, 112, 108, 101]⟩, .int .u8 6, .string ⟨#[105, 115, 95, 108, 105, 115, 116]⟩, .int .u8 7, .string ⟨#[105, 115, 95, 112, 105, 100]⟩, .int .u8 5, .string ⟨#[105, 115, 95, 114, 101, 102, 101, 114, 101, 110, 99, 101]⟩, .int .u8 3, .string ⟨#[105, 115, 95, 102, 117, 110, 99, 116, 105, 111, 110]⟩, .int .u8 4]) (.int .i64 4)).run Tryz.prog w = .ok (.agg #[.string ⟨#[105, 115, 95, 112, 105, 100]⟩, .int .u8 5]) w := by kernel_rfl
theorem idx_kinds_5 (w : World) : (Instr.index 72 (.agg #[.string ⟨#[105, 115, 95, 105, 110, 116, 101, 103, 101, 114]⟩, .int .u8 1, .string ⟨#[105, 115, 95, 97, 116, 111, 109]⟩, .int .u8 2, .string ⟨#[105, 115, 95, 116, 117, 112, 108, 101]⟩, .int .u8 6, .string ⟨#[105, 115, 95, 108, 105, 115, 116]⟩, .int .u8 7, .string ⟨#[105, 115, 95, 112, 105, 100]⟩, .int .u8 5, .string ⟨#[105, 115, 95, 114, 101, 102, 101, 114, 101, 110, 99, 101]⟩, .int .u8 3, .string ⟨#[105, 115, 95, 102, 117, 110, 99, 116, 105, 111, 110]⟩, .int .u8 4]) (.int .i64 5)).run Tryz.prog w = .ok (.agg #[.string ⟨#[105, 115, 95, 114, 101, 102, 101, 114, 101, 110, 99, 101]⟩, .int .u8 3]) w := by kernel_rfl
theorem idx_kinds_6 (w : World) : (Instr.index 72 (.agg #[.string ⟨#[105, 115, 95, 105, 110, 116, 101, 103, 101, 114]⟩, .int .u8 1, .string ⟨#[105, 115, 95, 97, 116, 111, 109]⟩, .int .u8 2, .string ⟨#[105, 115, 95, 116, 117, 112, 108, 101]⟩, .int .u8 6, .string ⟨#[105, 115, 95, 108, 105, 115, 116]⟩, .int .u8 7, .string ⟨#[105, 115, 95, 112, 105, 100]⟩, .int .u8 5, .string ⟨#[105, 115, 95, 114, 101, 102, 101, 114, 101, 110, 99, 101]⟩, .int .u8 3, .string ⟨#[105, 115, 95, 102, 117, 110, 99, 116, 105, 111, 110]⟩, .int .u8 4]) (.int .i64 6)).run Tryz.prog w = .ok (.agg #[.string ⟨#[105, 115, 95, 102, 117, 110, 99, 116, 105, 111, 110]⟩, .int .u8 4]) w := by kernel_rfl
set_option maxRecDepth 100000 in
set_option maxHeartbeats 2000000 in
theorem one_hd (a : Tm) (w : World) (B : Nat → Prop) (F : Bool) (kd : Int) (ng : Bool) (la : Option Addr) (ln lc : Nat) (tx : ByteArray) (nm : Int) (ia : Option Addr) (im ic : Nat) (ta : Option Addr) (tn tc : Nat) (ht : TermIn w B F [.int .u8 kd, .bool ng, .slice la ln lc, .string tx, .int .i64 nm, .slice ia im ic, .slice ta tn tc] a) (hr : rightT a = true) (hk : ¬ kd = 7) (hL : KindsAt w) :
    Calls Tryz.prog 24 #[.string ⟨#[104, 100]⟩, .agg #[.int .u8 kd, .bool ng, .slice la ln lc, .string tx, .int .i64 nm, .slice ia im ic, .slice ta tn tc]] w (ResP 0 w zeroT (errT ⟨#[98, 97, 100, 97, 114, 103]⟩)) := by
  have HK0 := hide (((Keeps.refl NoB w).alloc (.cells #[.int .u8 kd, .bool ng, .slice la ln lc, .string tx, .int .i64 nm, .slice ia im ic, .slice ta tn tc] 26)).alloc (.cells #[.int .u8 0, .bool false, .slice none 0 0, .string ⟨#[]⟩, .int .i64 0, .slice none 0 0, .slice none 0 0, .int .u8 0, .bool false, .slice none 0 0, .string ⟨#[]⟩, .int .i64 0, .slice none 0 0, .slice none 0 0] 48))
  have HX0 := hide (two_tblks w 26 48 #[.int .u8 kd, .bool ng, .slice la ln lc, .string tx, .int .i64 nm, .slice ia im ic, .slice ta tn tc] #[.int .u8 0, .bool false, .slice none 0 0, .string ⟨#[]⟩, .int .i64 0, .slice none 0 0, .slice none 0 0, .int .u8 0, .bool false, .slice none 0 0, .string ⟨#[]⟩, .int .i64 0, .slice none 0 0, .slice none 0 0]).1; have HR0 := hide (two_tblks w 26 48 #[.int .u8 kd, .bool ng, .slice la ln lc, .string tx, .int .i64 nm, .slice ia im ic, .slice ta tn tc] #[.int .u8 0, .bool false, .slice none 0 0, .string ⟨#[]⟩, .int .i64 0, .slice none 0 0, .slice none 0 0, .int .u8 0, .bool false, .slice none 0 0, .string ⟨#[]⟩, .int .i64 0, .slice none 0 0, .slice none 0 0]).2
  have HT := hide ht; have HR := hide hr
  have hL0 := hL.keep HK0.out
  clear ht hr hL
  go_enter Tryz.func24, Tryz.ntmps24
  go_upto_region 1 with fail
  generalize (w.alloc (.cells #[.int .u8 kd, .bool ng, .slice la ln lc, .string tx, .int .i64 nm, .slice ia im ic, .slice ta tn tc] 26)).alloc (.cells #[.int .u8 0, .bool false, .slice none 0 0, .string ⟨#[]⟩, .int .i64 0, .slice none 0 0, .slice none 0 0, .int .u8 0, .bool false, .slice none 0 0, .string ⟨#[]⟩, .int .i64 0, .slice none 0 0, .slice none 0 0] 48) = w0 at *
  obtain ⟨k0, k1, k2, k3, k4, k5, k6, k7, k8, k9, k10, k11, k12, k13⟩ := hL0
  go_wp2
  have HS0 := hide HR0.out.lt
  go_loopg [13] 7 (fun g s13 wx => ∃ k : Int, 0 ≤ k ∧ k ≤ 7 ∧ g = (7 - k).toNat ∧ s13 = .int .i64 k ∧ Keeps NoB w0 wx)
  case atStart => exact ⟨0, by omega, by omega, rfl, rfl, Keeps.refl _ _⟩
  case round =>
    obtain ⟨k, hk0, hk7, rfl, rfl, hkw⟩ := hrel
    have HKW := hide hkw
    clear hkw
    rcases (by omega : k = 0 ∨ k = 1 ∨ k = 2 ∨ k = 3 ∨ k = 4 ∨ k = 5 ∨ k = 6 ∨ k = 7) with rfl | rfl | rfl | rfl | rfl | rfl | rfl | rfl
    · clear hk0 hk7
      have hidx := idx_kinds_0
      go_wp2
      go_roundg 6
      case measure => decide
      case rel => exact ⟨1, by omega, by omega, rfl, rfl, HKW.out.alloc _⟩
    · clear hk0 hk7
      have hidx := idx_kinds_1
      go_wp2
      go_roundg 5
      case measure => decide
      case rel => exact ⟨2, by omega, by omega, rfl, rfl, HKW.out.alloc _⟩
    · clear hk0 hk7
      have hidx := idx_kinds_2
      go_wp2
      go_roundg 4
      case measure => decide
      case rel => exact ⟨3, by omega, by omega, rfl, rfl, HKW.out.alloc _⟩
    · clear hk0 hk7
      have hidx := idx_kinds_3
      go_wp2
      go_roundg 3
      case measure => decide
      case rel => exact ⟨4, by omega, by omega, rfl, rfl, HKW.out.alloc _⟩
    · clear hk0 hk7
      have hidx := idx_kinds_4
      go_wp2
      go_roundg 2
      case measure => decide
      case rel => exact ⟨5, by omega, by omega, rfl, rfl, HKW.out.alloc _⟩
    · clear hk0 hk7
      have hidx := idx_kinds_5
      go_wp2
      go_roundg 1
      case measure => decide
      case rel => exact ⟨6, by omega, by omega, rfl, rfl, HKW.out.alloc _⟩
    · clear hk0 hk7
      have hidx := idx_kinds_6
      go_wp2
      go_roundg 0
      case measure => decide
      case rel => exact ⟨7, by omega, by omega, rfl, rfl, HKW.out.alloc _⟩
    · clear hk0 hk7
      clear k0 k1 k2 k3 k4 k5 k6 k7 k8 k9 k10 k11 k12 k13
      have HX1 := hide (HX0.out.keep HKW.out id); have HR1 := hide (HR0.out.keep HKW.out id)
      have HK1 := hide (HK0.out.trans' HKW.out (fun _ _ => id) (fun _ _ => id) : Keeps NoB w wr)
      obtain ⟨x0, x1, x2, x3, x4, x5, x6⟩ := Blk.c7 (show Blk wr (w.heap.size) _ #[.int .u8 kd, .bool ng, .slice la ln lc, .string tx, .int .i64 nm, .slice ia im ic, .slice ta tn tc] from HX1.out)
      go_wp2_with
        first
        | (go_at_call 52
           refine (split_no a wr B F _ _ _ _ _ _ _ _ _ _ _ _ _ (TermIn.keep HK1.out (fun _ _ => id) _ _ HT.out) HR.out hk).mono ?_
           rintro e w3 ⟨rfl, hk3⟩
           have hkn : Keeps NoB w3 ((w3.alloc (.cells #[.int .u8 0, .bool false, .slice none 0 0, .string ⟨#[]⟩, .int .i64 0, .slice none 0 0, .slice none 0 0] 26)).alloc (.cells #[.int .u8 0, .bool false, .slice none 0 0, .string ⟨#[]⟩, .int .i64 0, .slice none 0 0, .slice none 0 0] 26)) := ((Keeps.refl NoB w3).alloc _).alloc _
           have HK3 := hide ((HK1.out.trans' hk3 (fun _ _ => id) (fun _ _ => id) : Keeps NoB w w3).trans' hkn (fun _ _ => id) (fun _ _ => id) : Keeps NoB w _)
           have HR3 := hide ((HR1.out.keep hk3 id).keep hkn id)
           clear hk3 hkn)
        | (go_at_call 27
           refine (bad_any ⟨#[98, 97, 100, 97, 114, 103]⟩ _).mono ?_
           rintro e w6 ⟨g, rfl, hg6, hb6, hk6⟩
           have HK6 := hide (HK3.out.trans' hk6 (fun _ _ => id) (fun _ _ => id) : Keeps NoB w w6)
           have HR6 := hide (HR3.out.keep hk6 id)
           have HN6 := hide hb6
           have HG6 := hide (show w.heap.size + 1 < g from Nat.lt_of_lt_of_le HR3.out.lt hg6)
           obtain ⟨z0, z1, z2, z3, z4, z5, z6, z7, z8, z9, z10, z11, z12, z13⟩ := Blk.f14 (w := w6) (g := w.heap.size + 1) HR6.out
           obtain ⟨v0, v1, v2, v3, v4, v5, v6, v7, v8, v9, v10, v11, v12, v13⟩ := Blk.c14 (show Blk w6 (w.heap.size + 1) _ #[.int .u8 0, .bool false, .slice none 0 0, .string ⟨#[]⟩, .int .i64 0, .slice none 0 0, .slice none 0 0, .int .u8 0, .bool false, .slice none 0 0, .string ⟨#[]⟩, .int .i64 0, .slice none 0 0, .slice none 0 0] from HR6.out)
           clear hk6 hb6 hg6)
        | fail
      refine bodyPost_ret (results14 Tryz.f24 4 (by kernel_rfl) _ _ _ _ _ _ _ _ _ _ _ _ _ _ _ _ _ rfl (HR6.out.tput14 _ _ _ _ _ _ _ _ _ _ _ _ _ _)) rfl ?_
      have hkt := keeps_tput14 w6 (w.heap.size + 1) (.int .u8 0) (.bool false) (.slice none 0 0) (.string ⟨#[]⟩) (.int .i64 0) (.slice none 0 0) (.slice none 0 0) (.int .u8 6) (.bool false) (.slice none 0 0) (.string ⟨#[]⟩) (.int .i64 0) (.slice (some ⟨g, 0, none⟩) 2 2) (.slice none 0 0)
      exact ⟨0, false, none, 0, 0, ⟨#[]⟩, 0, none, 0, 0, none, 0, 0, 6, false, none, 0, 0, ⟨#[]⟩, 0, some ⟨g, 0, none⟩, 2, 2, none, 0, 0, rfl, flat_in _ _ _ 0 ByteArray.empty 0, TermIn.more (fun k _ (hk : k = g) => Or.inr (by have := HG6.out; omega)) _ _ (err_in (HN6.out.keep hkt (fun e => by have := HG6.out; omega))), HK6.out.trans' hkt (fun _ _ => id) (fun i hi e => by omega)⟩
end Go.Proofs.YthbbalkhmofndaaGreatDoor
namespace Go.Proofs.YthbbalkhmofndaaGreatDoor
open Go.RowKit

theorem call_plus (a b : Tm) (hoa : okT a) (hob : okT b) (hra : rightT a = true) (hrb : rightT b = true) (hl : listT a = true) (hne : 0 < a.items.length) (hkb : b.kind = 7) (hro : Roomy (a.items.length + b.items.length) 104) (hrv : rightT (.mk 7 false [] ByteArray.empty 0 (a.items ++ b.items) b.tail) = true) (w : World) (hL : LaidK w) (ga c : Nat) (kd : Int) (ng : Bool) (la : Option Addr) (ln lc : Nat) (tx : ByteArray) (nm : Int) (ia : Option Addr) (im ic : Nat) (ta : Option Addr) (tn tc : Nat) (kd' : Int) (ng' : Bool) (la' : Option Addr) (ln' lc' : Nat) (tx' : ByteArray) (nm' : Int) (ia' : Option Addr) (im' ic' : Nat) (ta' : Option Addr) (tn' tc' : Nat)
    (hA : Blk w ga 26 #[.int .u8 kd, .bool ng, .slice la ln lc, .string tx, .int .i64 nm, .slice ia im ic, .slice ta tn tc, .int .u8 kd', .bool ng', .slice la' ln' lc', .string tx', .int .i64 nm', .slice ia' im' ic', .slice ta' tn' tc']) (ha : TermIn w (fun k => k < w.heap.size) false [.int .u8 kd, .bool ng, .slice la ln lc, .string tx, .int .i64 nm, .slice ia im ic, .slice ta tn tc] a) (hb : TermIn w (fun k => k < w.heap.size) false [.int .u8 kd', .bool ng', .slice la' ln' lc', .string tx', .int .i64 nm', .slice ia' im' ic', .slice ta' tn' tc'] b) :
    Calls Tryz.prog 12 #[.string ⟨#[43, 43]⟩, .slice (some ⟨ga, 0, none⟩) 2 c] w (CallR w (.mk 7 false [] ByteArray.empty 0 (a.items ++ b.items) b.tail) zeroT) := by
  obtain rfl : kd' = 7 := (kind_cells hb).trans hkb
  have hia : a.items.length = im := by obtain ⟨_, _, _, _, _, rfl, _, _, _, _, _, _, _, h, _⟩ := ha.parts; exact h
  have hib : b.items.length = im' := by obtain ⟨_, _, _, _, _, rfl, _, _, _, _, _, _, _, h, _⟩ := hb.parts; exact h
  rw [hia] at hne
  rw [hia, hib] at hro
  exact call_two_value ⟨#[43, 43]⟩ (by decide) 1 (Or.inl rfl) (by kernel_rfl) a b _ _ hra hrb (by rfl) hrv w hL ga c _ _ _ _ _ _ _ _ _ _ _ _ _ _ _ _ _ _ _ _ _ _ _ _ _ _ hA (TermIn.more (fun _ _ _ => trivial) _ _ ha) (TermIn.more (fun _ _ _ => trivial) _ _ hb)
    (fun w' hk => two_plus w.heap.size _ _ a b hoa hob w' hk.size _ _ false false _ _ _ _ _ _ _ _ _ _ _ _ _ _ _ _ _ _ _ _ _ _ _ _ _ _ (TermIn.keep hk (fun _ _ => id) _ _ ha) (TermIn.keep hk (fun _ _ => id) _ _ hb)
      (fun w'' hk2 => behind_two w.heap.size a b w'' (Nat.le_trans hk.size hk2.size) _ _ _ _ _ _ _ _ _ _ _ _ _ _ _ _ _ _ _ _ _ _ _ _ _ (TermIn.keep (hk.trans' hk2 (fun _ _ => id) (fun _ _ => id) : Keeps NoB w w'') (fun _ _ => id) _ _ ha) (TermIn.keep (hk.trans' hk2 (fun _ _ => id) (fun _ _ => id) : Keeps NoB w w'') (fun _ _ => id) _ _ hb) hl hne hro))
theorem errT_right_arg : rightT (errT ⟨#[98, 97, 100, 97, 114, 103]⟩) = true := by kernel_rfl
theorem call_hd (a : Tm) (hra : rightT a = true) (hka : ¬ a.kind = 7) (w : World) (hL : LaidK w) (hK : KindsAt w) (ga c : Nat) (kd : Int) (ng : Bool) (la : Option Addr) (ln lc : Nat) (tx : ByteArray) (nm : Int) (ia : Option Addr) (im ic : Nat) (ta : Option Addr) (tn tc : Nat) (hA : Blk w ga 26 #[.int .u8 kd, .bool ng, .slice la ln lc, .string tx, .int .i64 nm, .slice ia im ic, .slice ta tn tc]) (ha : TermIn w (fun _ => True) false [.int .u8 kd, .bool ng, .slice la ln lc, .string tx, .int .i64 nm, .slice ia im ic, .slice ta tn tc] a) :
    Calls Tryz.prog 12 #[.string ⟨#[104, 100]⟩, .slice (some ⟨ga, 0, none⟩) 1 c] w (CallR w zeroT (errT ⟨#[98, 97, 100, 97, 114, 103]⟩)) :=
  call_one_raised ⟨#[104, 100]⟩ (by decide) 2 (Or.inr rfl) (by kernel_rfl) a _ _ hra (by show ¬ (6 : Int) = 0; omega) errT_right_arg w hL ga c _ _ _ _ _ _ _ _ _ _ _ _ _ hA ha
    (fun w' hk => (one_hd a w' (fun _ => True) false _ _ _ _ _ _ _ _ _ _ _ _ _ (TermIn.keep hk (fun _ _ => id) _ _ ha) hra (fun e => hka ((kind_cells ha).symm.trans e)) (hK.keep hk)).mono fun _ _ h => h.more)
set_option maxRecDepth 100000 in
set_option maxHeartbeats 1000000 in
theorem call_self (w : World) (hL : LaidK w) : Calls Tryz.prog 12 #[.string ⟨#[115, 101, 108, 102]⟩, .slice none 0 0] w fun e w' => e = .returned (.tuple #[.agg #[.int .u8 0, .bool false, .slice none 0 0, .string ⟨#[]⟩, .int .i64 0, .slice none 0 0, .slice none 0 0], .agg #[.int .u8 0, .bool false, .slice none 0 0, .string ⟨#[]⟩, .int .i64 0, .slice none 0 0, .slice none 0 0], .bool false]) ∧ Keeps NoB w w' := by
  have HK0 := hide (((Keeps.refl NoB w).alloc (.cells #[.int .u8 0, .bool false, .slice none 0 0, .string ⟨#[]⟩, .int .i64 0, .slice none 0 0, .slice none 0 0] 26)).alloc (.cells #[.int .u8 0, .bool false, .slice none 0 0, .string ⟨#[]⟩, .int .i64 0, .slice none 0 0, .slice none 0 0] 26))
  have HA0 := hide (two_tblks w 26 26 #[.int .u8 0, .bool false, .slice none 0 0, .string ⟨#[]⟩, .int .i64 0, .slice none 0 0, .slice none 0 0] #[.int .u8 0, .bool false, .slice none 0 0, .string ⟨#[]⟩, .int .i64 0, .slice none 0 0, .slice none 0 0]).1; have HB0 := hide (two_tblks w 26 26 #[.int .u8 0, .bool false, .slice none 0 0, .string ⟨#[]⟩, .int .i64 0, .slice none 0 0, .slice none 0 0] #[.int .u8 0, .bool false, .slice none 0 0, .string ⟨#[]⟩, .int .i64 0, .slice none 0 0, .slice none 0 0]).2
  have HL := hide hL
  have HKN := hide (show kindN (⟨#[115, 101, 108, 102]⟩ : ByteArray).data.toList ((0 : Nat) : Int) = 3 from by kernel_rfl)
  clear hL
  go_enter Tryz.func12, Tryz.ntmps12
  go_upto_region 1 with fail
  generalize (w.alloc (.cells #[.int .u8 0, .bool false, .slice none 0 0, .string ⟨#[]⟩, .int .i64 0, .slice none 0 0, .slice none 0 0] 26)).alloc (.cells #[.int .u8 0, .bool false, .slice none 0 0, .string ⟨#[]⟩, .int .i64 0, .slice none 0 0, .slice none 0 0] 26) = w0 at *
  obtain ⟨z0, z1, z2, z3, z4, z5, z6⟩ := Blk.f7 (w := w0) (g := w.heap.size) HA0.out
  obtain ⟨f0, f1, f2, f3, f4, f5, f6⟩ := Blk.f7 (w := w0) (g := w.heap.size + 1) HB0.out
  obtain ⟨q0, q1, q2, q3, q4, q5, q6⟩ := Blk.c7 (show Blk w0 (w.heap.size) _ #[.int .u8 0, .bool false, .slice none 0 0, .string ⟨#[]⟩, .int .i64 0, .slice none 0 0, .slice none 0 0] from HA0.out)
  obtain ⟨p0, p1, p2, p3, p4, p5, p6⟩ := Blk.c7 (show Blk w0 (w.heap.size + 1) _ #[.int .u8 0, .bool false, .slice none 0 0, .string ⟨#[]⟩, .int .i64 0, .slice none 0 0, .slice none 0 0] from HB0.out)
  go_wp2_with
    first
    | (go_at_call 21
       refine (kind_any ⟨#[115, 101, 108, 102]⟩ 0 w0 (HL.out.keep HK0.out) (by decide)).mono ?_
       rintro e w1 ⟨rfl, rfl⟩
       rw [show kindN (⟨#[115, 101, 108, 102]⟩ : ByteArray).data.toList 0 = 3 from HKN.out])
    | fail
  have hka := keeps_tput7 w0 w.heap.size (.int .u8 0) (.bool false) (.slice none 0 0) (.string ⟨#[]⟩) (.int .i64 0) (.slice none 0 0) (.slice none 0 0)
  have hA := HA0.out.tput7 (.int .u8 0) (.bool false) (.slice none 0 0) (.string ⟨#[]⟩) (.int .i64 0) (.slice none 0 0) (.slice none 0 0)
  have hB := HB0.out.keep hka (fun e => by omega)
  have HKF := hide (HK0.out.trans' hka (fun _ _ => id) (fun i hi e => by omega) : Keeps NoB w _)
  clear z0 z1 z2 z3 z4 z5 z6 q0 q1 q2 q3 q4 q5 q6 p0 p1 p2 p3 p4 p5 p6 f0 f1 f2 f3 f4 f5 f6 hka HA0 HB0 HK0
  generalize (((((((w0.setCell ⟨w.heap.size, 0, none⟩ (.int .u8 0)).setCell ⟨w.heap.size, 1, none⟩ (.bool false)).setCell ⟨w.heap.size, 2, none⟩ (.slice none 0 0)).setCell ⟨w.heap.size, 3, none⟩ (.string ⟨#[]⟩)).setCell ⟨w.heap.size, 4, none⟩ (.int .i64 0)).setCell ⟨w.heap.size, 5, none⟩ (.slice none 0 0)).setCell ⟨w.heap.size, 6, none⟩ (.slice none 0 0)) = w2 at *
  have hkb := keeps_tput7 w2 (w.heap.size + 1) (.int .u8 0) (.bool false) (.slice none 0 0) (.string ⟨#[]⟩) (.int .i64 0) (.slice none 0 0) (.slice none 0 0)
  refine bodyPost_ret (results_12 _ _ _ _ _ _ _ _ _ _ _ _ _ _ _ _ _ _ _ rfl rfl rfl (hA.keep hkb (fun e => by omega)) (hB.tput7 (.int .u8 0) (.bool false) (.slice none 0 0) (.string ⟨#[]⟩) (.int .i64 0) (.slice none 0 0) (.slice none 0 0))) rfl ?_
  exact ⟨rfl, HKF.out.trans' hkb (fun _ _ => id) (fun i hi e => by omega)⟩
set_option maxRecDepth 100000 in
theorem is_badarg (gv : Bool) (lv : Option Addr) (lvn lvc : Nat) (mv : Int) (iv : Option Addr) (ivn ivc : Nat) (tv : Option Addr) (tvn tvc : Nat) (w : World) :
    Calls Tryz.prog 17 #[.agg #[.int .u8 2, .bool gv, .slice lv lvn lvc, .string ⟨#[98, 97, 100, 97, 114, 103]⟩, .int .i64 mv, .slice iv ivn ivc, .slice tv tvn tvc], .string ⟨#[98, 97, 100, 97, 114, 103]⟩] w fun e w' => e = .returned (.bool true) ∧ Keeps NoB w w' := by
  go_enter Tryz.func17, Tryz.ntmps17
  go_wp2
  go_ret
  exact ⟨rfl, (Keeps.refl _ _).alloc _⟩
end Go.Proofs.YthbbalkhmofndaaGreatDoor
