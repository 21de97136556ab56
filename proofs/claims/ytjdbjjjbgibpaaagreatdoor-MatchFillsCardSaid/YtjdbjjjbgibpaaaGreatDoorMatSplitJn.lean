/- term.Split at a list with items. Printed by mkmsplit.py. -/
import Derived.Test.YtjdbjjjbgibpaaaGreatDoorTwoJn
import Derived.Test.YtjdbjjjbgibpaaaGreatDoorTmCopyJn
import Derived.Test.YtjdbjjjbgibpaaaGreatDoorMatLawJn
import Derived.Test.YtjdbjjjbgibpaaaGreatDoorSeq3Jn
namespace Go.Proofs.YtjdbjjjbgibpaaaGreatDoor
open Go.RowKit

theorem results_sp (tmps : Array Value) (g4 g5 : Nat) (b : Bool) (v0 v1 v2 v3 v4 v5 v6 u0 u1 u2 u3 u4 u5 u6 : Value) (w : World) (h4 : tmps[2]? = some (.pointer (some ⟨g4, 0, none⟩))) (h5 : tmps[3]? = some (.pointer (some ⟨g5, 0, none⟩))) (h6 : tmps[4]? = some (.bool b)) (hB4 : Blk w g4 26 #[v0, v1, v2, v3, v4, v5, v6]) (hB5 : Blk w g5 26 #[u0, u1, u2, u3, u4, u5, u6]) :
    (results Tryz.f25 tmps).run Tryz.prog w = .ok (.tuple #[.agg #[v0, v1, v2, v3, v4, v5, v6], .agg #[u0, u1, u2, u3, u4, u5, u6], .bool b]) w := by
  have c0 : w.cell? ⟨g4, 0, none⟩ = some v0 := hB4.cell 0
  have d0 : w.cell? ⟨g5, 0, none⟩ = some u0 := hB5.cell 0
  have c1 : w.cell? ⟨g4, 1, none⟩ = some v1 := hB4.cell 1
  have d1 : w.cell? ⟨g5, 1, none⟩ = some u1 := hB5.cell 1
  have c2 : w.cell? ⟨g4, 2, none⟩ = some v2 := hB4.cell 2
  have d2 : w.cell? ⟨g5, 2, none⟩ = some u2 := hB5.cell 2
  have c3 : w.cell? ⟨g4, 3, none⟩ = some v3 := hB4.cell 3
  have d3 : w.cell? ⟨g5, 3, none⟩ = some u3 := hB5.cell 3
  have c4 : w.cell? ⟨g4, 4, none⟩ = some v4 := hB4.cell 4
  have d4 : w.cell? ⟨g5, 4, none⟩ = some u4 := hB5.cell 4
  have c5 : w.cell? ⟨g4, 5, none⟩ = some v5 := hB4.cell 5
  have d5 : w.cell? ⟨g5, 5, none⟩ = some u5 := hB5.cell 5
  have c6 : w.cell? ⟨g4, 6, none⟩ = some v6 := hB4.cell 6
  have d6 : w.cell? ⟨g5, 6, none⟩ = some u6 := hB5.cell 6
  have hr : Tryz.f25.results = #[ResultVar.cell 2 26, ResultVar.cell 3 26, ResultVar.tmp 4] := by kernel_rfl
  simp [results, hr, go_sem, h4, h5, h6, c0, d0, c1, d1, c2, d2, c3, d3, c4, d4, c5, d5, c6, d6]
def SplitP (w : World) (h r : Tm) (e : Ending) (w' : World) : Prop := ∃ (k1 : Int) (g1 : Bool) (a1 : Option Addr) (n1 c1 : Nat) (s1 : ByteArray) (m1 : Int) (a2 : Option Addr) (n2 c2 : Nat) (a3 : Option Addr) (n3 c3 : Nat) (k2 : Int) (g2 : Bool) (b1 : Option Addr) (p1 d1 : Nat) (s2 : ByteArray) (m2 : Int) (b2 : Option Addr) (p2 d2 : Nat) (b3 : Option Addr) (p3 d3 : Nat),
  e = .returned (.tuple #[.agg #[.int .u8 k1, .bool g1, .slice a1 n1 c1, .string s1, .int .i64 m1, .slice a2 n2 c2, .slice a3 n3 c3], .agg #[.int .u8 k2, .bool g2, .slice b1 p1 d1, .string s2, .int .i64 m2, .slice b2 p2 d2, .slice b3 p3 d3], .bool true]) ∧
  TermIn w' (Above w) false [.int .u8 k1, .bool g1, .slice a1 n1 c1, .string s1, .int .i64 m1, .slice a2 n2 c2, .slice a3 n3 c3] h ∧ TermIn w' (Above w) false [.int .u8 k2, .bool g2, .slice b1 p1 d1, .string s2, .int .i64 m2, .slice b2 p2 d2, .slice b3 p3 d3] r ∧ Keeps NoB w w'
theorem TermsIn.drop1 {w : World} {B : Nat → Prop} {F : Bool} {css : List (List Value)} {x : Tm} {l : List Tm} (h : TermsIn w B F css (x :: l)) : TermsIn w B F (css.drop 1) l := by
  cases css with
  | nil => unfold TermsIn at h; exact h.elim
  | cons c css => unfold TermsIn at h; exact h.2
theorem flat_drop7 {css : List (List Value)} (h : ∀ c ∈ css, c.length = 7) : (css.drop 1).flatten = css.flatten.drop (1 * 7) := by
  cases css with
  | nil => rfl
  | cons c css =>
    have := h c (List.mem_cons_self ..)
    simp only [List.drop_succ_cons, List.drop_zero, List.flatten_cons]
    rw [List.drop_append_of_le_length (by omega), List.drop_of_length_le (by omega)]; rfl
theorem Reads.from {w : World} {B : Nat → Prop} {F : Bool} {g o n c : Nat} {xs : List Value} {size : Nat} (h : Reads w B F size (some ⟨g, o, none⟩) n xs) (i : Nat) (hi : i ≤ n) (hn : n ≤ c) : Reads w B F size (some ⟨g, if c = i then o else o + i * size, none⟩) (n - i) (xs.drop (i * size)) := by
  refine ⟨by rw [List.length_drop, h.1, Nat.sub_mul], fun h0 => ?_⟩
  obtain ⟨ad, e, hs, hb, hl, hc⟩ := h.2 (by omega)
  injection e with e; subst e
  refine ⟨_, rfl, rfl, hb, hl, fun j u hu => ?_⟩
  rw [if_neg (by omega : ¬ c = i)]
  rw [List.getElem?_drop] at hu
  have := hc _ u hu
  rw [← Nat.add_assoc] at this
  exact this
set_option maxRecDepth 100000 in
set_option maxHeartbeats 4000000 in
theorem split_one (t : Tm) (w : World) (B : Nat → Prop) (F : Bool) (ng : Bool) (la : Option Addr) (ln lc : Nat) (tx : ByteArray) (nm : Int) (ia : Option Addr) (im ic : Nat) (ta : Option Addr) (tn tc : Nat) (ht : TermIn w B F [.int .u8 7, .bool ng, .slice la ln lc, .string tx, .int .i64 nm, .slice ia im ic, .slice ta tn tc] t) (hr : rightT t = true) (x : Tm) (hit : t.items = x :: []) :
    Calls Tryz.prog 25 #[.agg #[.int .u8 7, .bool ng, .slice la ln lc, .string tx, .int .i64 nm, .slice ia im ic, .slice ta tn tc]] w (SplitP w x (restT t.tail)) := by
  have HK0 := hide ((((Keeps.refl NoB w).alloc (.cells #[.int .u8 7, .bool ng, .slice la ln lc, .string tx, .int .i64 nm, .slice ia im ic, .slice ta tn tc] 26)).alloc (.cells #[.int .u8 0, .bool false, .slice none 0 0, .string ⟨#[]⟩, .int .i64 0, .slice none 0 0, .slice none 0 0] 26)).alloc (.cells #[.int .u8 0, .bool false, .slice none 0 0, .string ⟨#[]⟩, .int .i64 0, .slice none 0 0, .slice none 0 0] 26))
  have HX0 := hide (three_tblks w 26 26 26 #[.int .u8 7, .bool ng, .slice la ln lc, .string tx, .int .i64 nm, .slice ia im ic, .slice ta tn tc] #[.int .u8 0, .bool false, .slice none 0 0, .string ⟨#[]⟩, .int .i64 0, .slice none 0 0, .slice none 0 0] #[.int .u8 0, .bool false, .slice none 0 0, .string ⟨#[]⟩, .int .i64 0, .slice none 0 0, .slice none 0 0]).1; have HA0 := hide (three_tblks w 26 26 26 #[.int .u8 7, .bool ng, .slice la ln lc, .string tx, .int .i64 nm, .slice ia im ic, .slice ta tn tc] #[.int .u8 0, .bool false, .slice none 0 0, .string ⟨#[]⟩, .int .i64 0, .slice none 0 0, .slice none 0 0] #[.int .u8 0, .bool false, .slice none 0 0, .string ⟨#[]⟩, .int .i64 0, .slice none 0 0, .slice none 0 0]).2.1; have HB0 := hide (three_tblks w 26 26 26 #[.int .u8 7, .bool ng, .slice la ln lc, .string tx, .int .i64 nm, .slice ia im ic, .slice ta tn tc] #[.int .u8 0, .bool false, .slice none 0 0, .string ⟨#[]⟩, .int .i64 0, .slice none 0 0, .slice none 0 0] #[.int .u8 0, .bool false, .slice none 0 0, .string ⟨#[]⟩, .int .i64 0, .slice none 0 0, .slice none 0 0]).2.2
  have HT := hide ht; have HR := hide hr
  obtain ⟨limbs, items, tail, css, dss, rfl, hroom, _, hri, hti, hrt, htt, _, hil, htl⟩ := ht.parts
  have hit : items = x :: [] := hit
  subst hit
  have hb0 : ((im : Int) == 0) = false := by simp; simp at hil; omega
  have him : 0 < im := by simp at hil; omega
  have HRM := hide hroom; have HRI := hide hri; have HTI := hide hti; have HRT := hide hrt; have HTT := hide htt; have HIL := hide hil; have HTL := hide htl
  obtain ⟨ib, io, kd', ng', la', ln', lc', tx', nm', ia', im', ic', ta', tn', tc', x', hA, hx', htx, hsz, _⟩ := cells_at hri hti 0 him
  obtain rfl : x = x' := by simpa using hx'
  subst hA
  have HTX := hide htx
  clear ht hr hroom hri hti hrt htt hil htl htx hsz hx'
  go_enter Tryz.func25, Tryz.ntmps25
  go_upto_region 1 with fail
  generalize ((w.alloc (.cells #[.int .u8 7, .bool ng, .slice la ln lc, .string tx, .int .i64 nm, .slice (some ⟨ib, io, none⟩) im ic, .slice ta tn tc] 26)).alloc (.cells #[.int .u8 0, .bool false, .slice none 0 0, .string ⟨#[]⟩, .int .i64 0, .slice none 0 0, .slice none 0 0] 26)).alloc (.cells #[.int .u8 0, .bool false, .slice none 0 0, .string ⟨#[]⟩, .int .i64 0, .slice none 0 0, .slice none 0 0] 26) = w0 at *
  obtain ⟨x0, x1, x2, x3, x4, x5, x6⟩ := Blk.c7 (show Blk w0 (w.heap.size) _ #[.int .u8 7, .bool ng, .slice la ln lc, .string tx, .int .i64 nm, .slice (some ⟨ib, io, none⟩) im ic, .slice ta tn tc] from HX0.out)
  go_upto_region 4 with
    first
    | (go_at_call 7
       refine (tm_right _ w0 B F _ _ _ _ _ _ _ _ _ _ _ _ _ (TermIn.keep HK0.out (fun _ _ => id) _ _ HT.out)).mono ?_
       rintro e w1 ⟨rfl, hk1⟩
       rw [HR.out]
       have HK1 := hide (HK0.out.trans' hk1 (fun _ _ => id) (fun _ _ => id) : Keeps NoB w w1)
       have HX1 := hide (HX0.out.keep hk1 id); have HA1 := hide (HA0.out.keep hk1 id); have HB1 := hide (HB0.out.keep hk1 id)
       obtain ⟨y0, y1, y2, y3, y4, y5, y6⟩ := Blk.c7 (show Blk w1 (w.heap.size) _ #[.int .u8 7, .bool ng, .slice la ln lc, .string tx, .int .i64 nm, .slice (some ⟨ib, io, none⟩) im ic, .slice ta tn tc] from HX1.out)
       obtain ⟨ib2, io2, kd2, ng2, la3, ln2, lc3, tx2, nm2, ia3, im2, ic3, ta3, tn2, tc3, x2, hA2, hx2, htx2, _, i0, i1, i2, i3, i4, i5, i6⟩ := cells_at (HRI.out.keep HK1.out (fun _ _ => id)) (TermsIn.keep HK1.out (fun _ _ => id) _ _ HTI.out) 0 him
       injection hA2 with hA2; injection hA2 with hA2 hA3; subst hA2 hA3
       simp only [Nat.zero_mul, Nat.add_zero] at i0 i1 i2 i3 i4 i5 i6
       obtain rfl : x = x2 := by simpa using hx2
       have HTX1 := hide htx2
       clear hk1 htx2 hx2)
    | (go_at_call 40
       refine (tm_copy _ x (Nat.le_refl _) w1 B F _ _ _ _ _ _ _ _ _ _ _ _ _ HTX1.out).mono ?_
       rintro e w2 ⟨la2, lc2, ia2, ic2, ta2, tc2, rfl, hc2, hk2⟩
       have HC2 := hide hc2
       have HK2 := hide (HK1.out.trans' hk2 (fun _ _ => id) (fun _ _ => id) : Keeps NoB w w2)
       have HX2 := hide (HX1.out.keep hk2 id); have HA2 := hide (HA1.out.keep hk2 id); have HB2 := hide (HB1.out.keep hk2 id)
       obtain ⟨z0, z1, z2, z3, z4, z5, z6⟩ := Blk.f7 (w := w2) (g := w.heap.size + 1) HA2.out
       obtain ⟨q0, q1, q2, q3, q4, q5, q6⟩ := Blk.c7 (show Blk w2 (w.heap.size + 1) _ #[.int .u8 0, .bool false, .slice none 0 0, .string ⟨#[]⟩, .int .i64 0, .slice none 0 0, .slice none 0 0] from HA2.out)
       have HKS := hide hk2.size
       clear hk2 hc2)
    | fail
  have hA3 := HA2.out.tput7 (.int .u8 kd2) (.bool ng2) (.slice la2 ln2 lc2) (.string tx2) (.int .i64 nm2) (.slice ia2 im2 ic2) (.slice ta2 tn2 tc2)
  have hk3 := keeps_tput7 w2 (w.heap.size + 1) (.int .u8 kd2) (.bool ng2) (.slice la2 ln2 lc2) (.string tx2) (.int .i64 nm2) (.slice ia2 im2 ic2) (.slice ta2 tn2 tc2)
  have HLA := hide HA1.out.lt; have HLAB := hide (And.intro HA1.out.lt HB1.out.lt)
  have HX3 := hide (HX2.out.keep hk3 (fun e => by omega)); have HB3 := hide (HB2.out.keep hk3 (fun e => by omega)); have HA3 := hide hA3
  have HC3 := hide (TermIn.keep hk3 (fun j (hj : Above w1 j) e => by have := HLA.out; unfold Above at hj; omega) _ _ HC2.out)
  have HK3 := hide (HK2.out.trans' hk3 (fun _ _ => id) (fun j hj e => by omega) : Keeps NoB w _)
  clear x0 x1 x2 x3 x4 x5 x6 y0 y1 y2 y3 y4 y5 y6 i0 i1 i2 i3 i4 i5 i6 z0 z1 z2 z3 z4 z5 z6 q0 q1 q2 q3 q4 q5 q6 hA3 hk3 HA2 HB2 HX2 HC2 HK2 HX1 HA1 HB1 HX0 HA0 HB0 HTX HTX1
  generalize (((((((w2.setCell ⟨w.heap.size + 1, 0, none⟩ (.int .u8 kd2)).setCell ⟨w.heap.size + 1, 1, none⟩ (.bool ng2)).setCell ⟨w.heap.size + 1, 2, none⟩ (.slice la2 ln2 lc2)).setCell ⟨w.heap.size + 1, 3, none⟩ (.string tx2)).setCell ⟨w.heap.size + 1, 4, none⟩ (.int .i64 nm2)).setCell ⟨w.heap.size + 1, 5, none⟩ (.slice ia2 im2 ic2)).setCell ⟨w.heap.size + 1, 6, none⟩ (.slice ta2 tn2 tc2)) = w3 at *
  obtain ⟨x0, x1, x2, x3, x4, x5, x6⟩ := Blk.c7 (show Blk w3 (w.heap.size) _ #[.int .u8 7, .bool ng, .slice la ln lc, .string tx, .int .i64 nm, .slice (some ⟨ib, io, none⟩) im ic, .slice ta tn tc] from HX3.out)
  have HW1 := hide HK1.out.size
  clear HK1
  obtain rfl : im = 1 := by have := HIL.out; simpa using this.symm
  go_upto_region 6 with fail
  clear x0 x1 x2 x3 x4 x5 x6
  refine order_begin (fun W => Keeps NoB w3 W) (fun i => !(i == 4 || i == 5)) (by kernel_rfl) 7 rfl ?_
  have HS : Keeps NoB w3 w3.drew := (Keeps.refl _ _).drew
  refine order_held (i := 0) rfl (by kernel_rfl) (fun _ _ _ h => h) (.inl ⟨rfl, fun W hW => by
    have q0 : W.cell? ⟨w.heap.size + 1, 0, none⟩ = some (.int .u8 kd2) := hW.cell id (HA3.out.cell 0)
    have q1 : W.cell? ⟨w.heap.size + 1, 1, none⟩ = some (.bool ng2) := hW.cell id (HA3.out.cell 1)
    have q2 : W.cell? ⟨w.heap.size + 1, 2, none⟩ = some (.slice la2 ln2 lc2) := hW.cell id (HA3.out.cell 2)
    have q3 : W.cell? ⟨w.heap.size + 1, 3, none⟩ = some (.string tx2) := hW.cell id (HA3.out.cell 3)
    have q4 : W.cell? ⟨w.heap.size + 1, 4, none⟩ = some (.int .i64 nm2) := hW.cell id (HA3.out.cell 4)
    have q5 : W.cell? ⟨w.heap.size + 1, 5, none⟩ = some (.slice ia2 im2 ic2) := hW.cell id (HA3.out.cell 5)
    have q6 : W.cell? ⟨w.heap.size + 1, 6, none⟩ = some (.slice ta2 tn2 tc2) := hW.cell id (HA3.out.cell 6)
    go_simp; rfl⟩) HS ?_
  try simp only [Act.put, List.setIfInBounds_toArray, List.set_cons_succ, List.set_cons_zero]
  refine order_held (i := 1) rfl (by kernel_rfl) (fun _ _ _ h => h) (.inl ⟨rfl, fun W hW => by
    have q0 : W.cell? ⟨w.heap.size, 0, none⟩ = some (.int .u8 7) := hW.cell id (HX3.out.cell 0)
    have q1 : W.cell? ⟨w.heap.size, 1, none⟩ = some (.bool ng) := hW.cell id (HX3.out.cell 1)
    have q2 : W.cell? ⟨w.heap.size, 2, none⟩ = some (.slice la ln lc) := hW.cell id (HX3.out.cell 2)
    have q3 : W.cell? ⟨w.heap.size, 3, none⟩ = some (.string tx) := hW.cell id (HX3.out.cell 3)
    have q4 : W.cell? ⟨w.heap.size, 4, none⟩ = some (.int .i64 nm) := hW.cell id (HX3.out.cell 4)
    have q5 : W.cell? ⟨w.heap.size, 5, none⟩ = some (.slice (some ⟨ib, io, none⟩) 1 ic) := hW.cell id (HX3.out.cell 5)
    have q6 : W.cell? ⟨w.heap.size, 6, none⟩ = some (.slice ta tn tc) := hW.cell id (HX3.out.cell 6)
    go_simp; rfl⟩) HS ?_
  try simp only [Act.put, List.setIfInBounds_toArray, List.set_cons_succ, List.set_cons_zero]
  refine order_one (i := 2) rfl (by kernel_rfl) (fun K hK => ?_)
  go_simp
  refine (tail_any _ _ B F _ _ _ _ _ _ _ _ _ _ _ _ _ (TermIn.keep (HK3.out.trans' HS (fun _ _ => id) (fun _ _ => id) : Keeps NoB w _) (fun _ _ => id) _ _ HT.out)).mono ?_
  rintro e w4 ⟨kd3, ng3, la6, ln3, lc6, tx3, nm3, ia6, im3, ic6, ta6, tn3, tc6, rfl, ht4, hk4⟩
  have HS4 : Keeps NoB w3 w4 := HS.trans' hk4 (fun _ _ => id) (fun _ _ => id)
  have HT4 := hide ht4
  refine hK _ _ (fun _ _ => HS4) ?_
  clear hK HS ht4 hk4
  have HS := HS4
  clear HS4
  try simp only [Act.put, List.setIfInBounds_toArray, List.set_cons_succ, List.set_cons_zero]
  refine order_one (i := 3) rfl (by kernel_rfl) (fun K hK => ?_)
  go_simp
  refine (tm_copy _ _ (Nat.le_refl _) w4 _ _ _ _ _ _ _ _ _ _ _ _ _ _ _ HT4.out).mono ?_
  rintro e w5 ⟨la5, lc5, ia5, ic5, ta5, tc5, rfl, hc5, hk5⟩
  have HS5 : Keeps NoB w3 w5 := HS.trans' hk5 (fun _ _ => id) (fun _ _ => id)
  have HC5 := hide hc5; have HZ4 := hide HS.size
  refine hK _ _ (fun _ _ => HS5) ?_
  clear hK HS hc5 hk5
  have HS3K := hide HS5
  try simp only [Act.put, List.setIfInBounds_toArray, List.set_cons_succ, List.set_cons_zero]
  have HAW := hide (HA3.out.keep HS3K.out id); have HBW := hide (HB3.out.keep HS3K.out id)
  obtain ⟨z0, z1, z2, z3, z4, z5, z6⟩ := Blk.f7 (w := w5) (g := w.heap.size + 1) HAW.out
  obtain ⟨q0, q1, q2, q3, q4, q5, q6⟩ := Blk.c7 (show Blk w5 (w.heap.size + 1) _ #[.int .u8 kd2, .bool ng2, .slice la2 ln2 lc2, .string tx2, .int .i64 nm2, .slice ia2 im2 ic2, .slice ta2 tn2 tc2] from HAW.out)
  refine order_one (i := 4) rfl (by kernel_rfl) (fun K hK => ?_)
  go_simp
  refine hK _ _ (fun h => absurd h (by decide)) ?_
  clear hK
  try simp only [Act.put, List.setIfInBounds_toArray, List.set_cons_succ, List.set_cons_zero]
  have hA5 := HAW.out.tput7 (.int .u8 kd2) (.bool ng2) (.slice la2 ln2 lc2) (.string tx2) (.int .i64 nm2) (.slice ia2 im2 ic2) (.slice ta2 tn2 tc2)
  have hk5 := keeps_tput7 w5 (w.heap.size + 1) (.int .u8 kd2) (.bool ng2) (.slice la2 ln2 lc2) (.string tx2) (.int .i64 nm2) (.slice ia2 im2 ic2) (.slice ta2 tn2 tc2)
  have HA5 := hide hA5; have HB5 := hide (HBW.out.keep hk5 (fun e => by omega)); have HK5 := hide hk5
  clear hA5 hk5 z0 z1 z2 z3 z4 z5 z6 q0 q1 q2 q3 q4 q5 q6
  generalize (((((((w5.setCell ⟨w.heap.size + 1, 0, none⟩ (.int .u8 kd2)).setCell ⟨w.heap.size + 1, 1, none⟩ (.bool ng2)).setCell ⟨w.heap.size + 1, 2, none⟩ (.slice la2 ln2 lc2)).setCell ⟨w.heap.size + 1, 3, none⟩ (.string tx2)).setCell ⟨w.heap.size + 1, 4, none⟩ (.int .i64 nm2)).setCell ⟨w.heap.size + 1, 5, none⟩ (.slice ia2 im2 ic2)).setCell ⟨w.heap.size + 1, 6, none⟩ (.slice ta2 tn2 tc2)) = w8 at *
  obtain ⟨z0, z1, z2, z3, z4, z5, z6⟩ := Blk.f7 (w := w8) (g := w.heap.size + 1 + 1) HB5.out
  obtain ⟨q0, q1, q2, q3, q4, q5, q6⟩ := Blk.c7 (show Blk w8 (w.heap.size + 1 + 1) _ #[.int .u8 0, .bool false, .slice none 0 0, .string ⟨#[]⟩, .int .i64 0, .slice none 0 0, .slice none 0 0] from HB5.out)
  refine order_one (i := 5) rfl (by kernel_rfl) (fun K hK => ?_)
  go_simp
  refine hK _ _ (fun h => absurd h (by decide)) ?_
  clear hK
  try simp only [Act.put, List.setIfInBounds_toArray, List.set_cons_succ, List.set_cons_zero]
  have hB6 := HB5.out.tput7 (.int .u8 kd3) (.bool ng3) (.slice la5 ln3 lc5) (.string tx3) (.int .i64 nm3) (.slice ia5 im3 ic5) (.slice ta5 tn3 tc5)
  have hk6 := keeps_tput7 w8 (w.heap.size + 1 + 1) (.int .u8 kd3) (.bool ng3) (.slice la5 ln3 lc5) (.string tx3) (.int .i64 nm3) (.slice ia5 im3 ic5) (.slice ta5 tn3 tc5)
  have HB6 := hide hB6; have HA6 := hide (HA5.out.keep hk6 (fun e => by omega)); have HK6 := hide hk6
  clear hB6 hk6 z0 z1 z2 z3 z4 z5 z6 q0 q1 q2 q3 q4 q5 q6
  generalize (((((((w8.setCell ⟨w.heap.size + 1 + 1, 0, none⟩ (.int .u8 kd3)).setCell ⟨w.heap.size + 1 + 1, 1, none⟩ (.bool ng3)).setCell ⟨w.heap.size + 1 + 1, 2, none⟩ (.slice la5 ln3 lc5)).setCell ⟨w.heap.size + 1 + 1, 3, none⟩ (.string tx3)).setCell ⟨w.heap.size + 1 + 1, 4, none⟩ (.int .i64 nm3)).setCell ⟨w.heap.size + 1 + 1, 5, none⟩ (.slice ia5 im3 ic5)).setCell ⟨w.heap.size + 1 + 1, 6, none⟩ (.slice ta5 tn3 tc5)) = w9 at *
  refine order_pure (i := 6) rfl (by kernel_rfl) (fun _ _ _ h => h) (.inl ⟨rfl, fun _ => by go_simp; rfl⟩) ?_
  try simp only [Act.put, List.setIfInBounds_toArray, List.set_cons_succ, List.set_cons_zero]
  refine order_done (by kernel_rfl) ?_
  go_wp2_with fail
  have hkk : Keeps (fun k => k = w.heap.size + 1 ∨ k = w.heap.size + 1 + 1) w5 w9 := HK5.out.trans' HK6.out (fun _ _ h => .inl h) (fun _ _ h => .inr h)
  refine bodyPost_ret (results_sp _ _ _ _ _ _ _ _ _ _ _ _ _ _ _ _ _ _ w9 rfl rfl rfl HA6.out HB6.out) rfl ?_
  have hs3 := HK3.out.size; have h4 := HZ4.out; have h1 := HW1.out; have hla := HLA.out; have hlb := HB3.out.lt
  refine ⟨_, _, _, _, _, _, _, _, _, _, _, _, _, _, _, _, _, _, _, _, _, _, _, _, _, _, rfl, ?_, ?_, (HK3.out.trans' HS3K.out (fun _ _ => id) (fun _ _ => id) : Keeps NoB w w5).trans' hkk (fun _ _ => id) (fun j hj e => by omega)⟩
  · exact TermIn.weak _ _ (TermIn.more (fun j _ (hj : Above w1 j) => Nat.le_trans HW1.out hj) _ _ (TermIn.keep hkk (fun j (hj : Above w1 j) e => by unfold Above at hj; have := HLAB.out; omega) _ _ (TermIn.keep HS3K.out (fun _ _ => id) _ _ HC3.out)))
  · exact TermIn.weak _ _ (TermIn.more (fun j _ (hj : Above w4 j) => (by unfold Above at hj ⊢; omega)) _ _ (TermIn.keep hkk (fun j (hj : Above w4 j) e => by unfold Above at hj; omega) _ _ HC5.out))
set_option maxRecDepth 100000 in
set_option maxHeartbeats 4000000 in
theorem split_many (t : Tm) (w : World) (B : Nat → Prop) (F : Bool) (ng : Bool) (la : Option Addr) (ln lc : Nat) (tx : ByteArray) (nm : Int) (ia : Option Addr) (im ic : Nat) (ta : Option Addr) (tn tc : Nat) (ht : TermIn w B F [.int .u8 7, .bool ng, .slice la ln lc, .string tx, .int .i64 nm, .slice ia im ic, .slice ta tn tc] t) (hr : rightT t = true) (x y : Tm) (l : List Tm) (hit : t.items = x :: y :: l) :
    Calls Tryz.prog 25 #[.agg #[.int .u8 7, .bool ng, .slice la ln lc, .string tx, .int .i64 nm, .slice ia im ic, .slice ta tn tc]] w (SplitP w x (.mk 7 false [] ByteArray.empty 0 (y :: l) t.tail)) := by
  have HK0 := hide ((((Keeps.refl NoB w).alloc (.cells #[.int .u8 7, .bool ng, .slice la ln lc, .string tx, .int .i64 nm, .slice ia im ic, .slice ta tn tc] 26)).alloc (.cells #[.int .u8 0, .bool false, .slice none 0 0, .string ⟨#[]⟩, .int .i64 0, .slice none 0 0, .slice none 0 0] 26)).alloc (.cells #[.int .u8 0, .bool false, .slice none 0 0, .string ⟨#[]⟩, .int .i64 0, .slice none 0 0, .slice none 0 0] 26))
  have HX0 := hide (three_tblks w 26 26 26 #[.int .u8 7, .bool ng, .slice la ln lc, .string tx, .int .i64 nm, .slice ia im ic, .slice ta tn tc] #[.int .u8 0, .bool false, .slice none 0 0, .string ⟨#[]⟩, .int .i64 0, .slice none 0 0, .slice none 0 0] #[.int .u8 0, .bool false, .slice none 0 0, .string ⟨#[]⟩, .int .i64 0, .slice none 0 0, .slice none 0 0]).1; have HA0 := hide (three_tblks w 26 26 26 #[.int .u8 7, .bool ng, .slice la ln lc, .string tx, .int .i64 nm, .slice ia im ic, .slice ta tn tc] #[.int .u8 0, .bool false, .slice none 0 0, .string ⟨#[]⟩, .int .i64 0, .slice none 0 0, .slice none 0 0] #[.int .u8 0, .bool false, .slice none 0 0, .string ⟨#[]⟩, .int .i64 0, .slice none 0 0, .slice none 0 0]).2.1; have HB0 := hide (three_tblks w 26 26 26 #[.int .u8 7, .bool ng, .slice la ln lc, .string tx, .int .i64 nm, .slice ia im ic, .slice ta tn tc] #[.int .u8 0, .bool false, .slice none 0 0, .string ⟨#[]⟩, .int .i64 0, .slice none 0 0, .slice none 0 0] #[.int .u8 0, .bool false, .slice none 0 0, .string ⟨#[]⟩, .int .i64 0, .slice none 0 0, .slice none 0 0]).2.2
  have HT := hide ht; have HR := hide hr
  obtain ⟨limbs, items, tail, css, dss, rfl, hroom, _, hri, hti, hrt, htt, _, hil, htl⟩ := ht.parts
  have hit : items = x :: y :: l := hit
  subst hit
  have hb0 : ((im : Int) == 0) = false := by simp; simp at hil; omega
  have him : 0 < im := by simp at hil; omega
  have HRM := hide hroom; have HRI := hide hri; have HTI := hide hti; have HRT := hide hrt; have HTT := hide htt; have HIL := hide hil; have HTL := hide htl
  obtain ⟨ib, io, kd', ng', la', ln', lc', tx', nm', ia', im', ic', ta', tn', tc', x', hA, hx', htx, hsz, _⟩ := cells_at hri hti 0 him
  obtain rfl : x = x' := by simpa using hx'
  subst hA
  have HTX := hide htx
  clear ht hr hroom hri hti hrt htt hil htl htx hsz hx'
  go_enter Tryz.func25, Tryz.ntmps25
  go_upto_region 1 with fail
  generalize ((w.alloc (.cells #[.int .u8 7, .bool ng, .slice la ln lc, .string tx, .int .i64 nm, .slice (some ⟨ib, io, none⟩) im ic, .slice ta tn tc] 26)).alloc (.cells #[.int .u8 0, .bool false, .slice none 0 0, .string ⟨#[]⟩, .int .i64 0, .slice none 0 0, .slice none 0 0] 26)).alloc (.cells #[.int .u8 0, .bool false, .slice none 0 0, .string ⟨#[]⟩, .int .i64 0, .slice none 0 0, .slice none 0 0] 26) = w0 at *
  obtain ⟨x0, x1, x2, x3, x4, x5, x6⟩ := Blk.c7 (show Blk w0 (w.heap.size) _ #[.int .u8 7, .bool ng, .slice la ln lc, .string tx, .int .i64 nm, .slice (some ⟨ib, io, none⟩) im ic, .slice ta tn tc] from HX0.out)
  go_upto_region 4 with
    first
    | (go_at_call 7
       refine (tm_right _ w0 B F _ _ _ _ _ _ _ _ _ _ _ _ _ (TermIn.keep HK0.out (fun _ _ => id) _ _ HT.out)).mono ?_
       rintro e w1 ⟨rfl, hk1⟩
       rw [HR.out]
       have HK1 := hide (HK0.out.trans' hk1 (fun _ _ => id) (fun _ _ => id) : Keeps NoB w w1)
       have HX1 := hide (HX0.out.keep hk1 id); have HA1 := hide (HA0.out.keep hk1 id); have HB1 := hide (HB0.out.keep hk1 id)
       obtain ⟨y0, y1, y2, y3, y4, y5, y6⟩ := Blk.c7 (show Blk w1 (w.heap.size) _ #[.int .u8 7, .bool ng, .slice la ln lc, .string tx, .int .i64 nm, .slice (some ⟨ib, io, none⟩) im ic, .slice ta tn tc] from HX1.out)
       obtain ⟨ib2, io2, kd2, ng2, la3, ln2, lc3, tx2, nm2, ia3, im2, ic3, ta3, tn2, tc3, x2, hA2, hx2, htx2, _, i0, i1, i2, i3, i4, i5, i6⟩ := cells_at (HRI.out.keep HK1.out (fun _ _ => id)) (TermsIn.keep HK1.out (fun _ _ => id) _ _ HTI.out) 0 him
       injection hA2 with hA2; injection hA2 with hA2 hA3; subst hA2 hA3
       simp only [Nat.zero_mul, Nat.add_zero] at i0 i1 i2 i3 i4 i5 i6
       obtain rfl : x = x2 := by simpa using hx2
       have HTX1 := hide htx2
       clear hk1 htx2 hx2)
    | (go_at_call 40
       refine (tm_copy _ x (Nat.le_refl _) w1 B F _ _ _ _ _ _ _ _ _ _ _ _ _ HTX1.out).mono ?_
       rintro e w2 ⟨la2, lc2, ia2, ic2, ta2, tc2, rfl, hc2, hk2⟩
       have HC2 := hide hc2
       have HK2 := hide (HK1.out.trans' hk2 (fun _ _ => id) (fun _ _ => id) : Keeps NoB w w2)
       have HX2 := hide (HX1.out.keep hk2 id); have HA2 := hide (HA1.out.keep hk2 id); have HB2 := hide (HB1.out.keep hk2 id)
       obtain ⟨z0, z1, z2, z3, z4, z5, z6⟩ := Blk.f7 (w := w2) (g := w.heap.size + 1) HA2.out
       obtain ⟨q0, q1, q2, q3, q4, q5, q6⟩ := Blk.c7 (show Blk w2 (w.heap.size + 1) _ #[.int .u8 0, .bool false, .slice none 0 0, .string ⟨#[]⟩, .int .i64 0, .slice none 0 0, .slice none 0 0] from HA2.out)
       have HKS := hide hk2.size
       clear hk2 hc2)
    | fail
  have hA3 := HA2.out.tput7 (.int .u8 kd2) (.bool ng2) (.slice la2 ln2 lc2) (.string tx2) (.int .i64 nm2) (.slice ia2 im2 ic2) (.slice ta2 tn2 tc2)
  have hk3 := keeps_tput7 w2 (w.heap.size + 1) (.int .u8 kd2) (.bool ng2) (.slice la2 ln2 lc2) (.string tx2) (.int .i64 nm2) (.slice ia2 im2 ic2) (.slice ta2 tn2 tc2)
  have HLA := hide HA1.out.lt; have HLAB := hide (And.intro HA1.out.lt HB1.out.lt)
  have HX3 := hide (HX2.out.keep hk3 (fun e => by omega)); have HB3 := hide (HB2.out.keep hk3 (fun e => by omega)); have HA3 := hide hA3
  have HC3 := hide (TermIn.keep hk3 (fun j (hj : Above w1 j) e => by have := HLA.out; unfold Above at hj; omega) _ _ HC2.out)
  have HK3 := hide (HK2.out.trans' hk3 (fun _ _ => id) (fun j hj e => by omega) : Keeps NoB w _)
  clear x0 x1 x2 x3 x4 x5 x6 y0 y1 y2 y3 y4 y5 y6 i0 i1 i2 i3 i4 i5 i6 z0 z1 z2 z3 z4 z5 z6 q0 q1 q2 q3 q4 q5 q6 hA3 hk3 HA2 HB2 HX2 HC2 HK2 HX1 HA1 HB1 HX0 HA0 HB0 HTX HTX1
  generalize (((((((w2.setCell ⟨w.heap.size + 1, 0, none⟩ (.int .u8 kd2)).setCell ⟨w.heap.size + 1, 1, none⟩ (.bool ng2)).setCell ⟨w.heap.size + 1, 2, none⟩ (.slice la2 ln2 lc2)).setCell ⟨w.heap.size + 1, 3, none⟩ (.string tx2)).setCell ⟨w.heap.size + 1, 4, none⟩ (.int .i64 nm2)).setCell ⟨w.heap.size + 1, 5, none⟩ (.slice ia2 im2 ic2)).setCell ⟨w.heap.size + 1, 6, none⟩ (.slice ta2 tn2 tc2)) = w3 at *
  obtain ⟨x0, x1, x2, x3, x4, x5, x6⟩ := Blk.c7 (show Blk w3 (w.heap.size) _ #[.int .u8 7, .bool ng, .slice la ln lc, .string tx, .int .i64 nm, .slice (some ⟨ib, io, none⟩) im ic, .slice ta tn tc] from HX3.out)
  have HW1 := hide HK1.out.size
  clear HK1
  have him2 : 1 < im := by have := HIL.out; simp at this; omega
  have him3 : (1 : Int) < im := by omega
  have him4 : (1 : Int) ≤ im := by omega
  have hic : im ≤ ic := HRM.out.2.1.2.1
  go_upto_region 5 with fail
  clear x0 x1 x2 x3 x4 x5 x6
  refine order_begin (fun W => Keeps (fun k => k = w.heap.size + 1) w3 W ∧ Blk W (w.heap.size + 1) 26 #[.int .u8 kd2, .bool ng2, .slice la2 ln2 lc2, .string tx2, .int .i64 nm2, .slice ia2 im2 ic2, .slice ta2 tn2 tc2]) (fun i => !(i == 12)) (by kernel_rfl) 14 rfl ?_
  have HS : Keeps (fun k => k = w.heap.size + 1) w3 w3.drew ∧ Blk w3.drew (w.heap.size + 1) 26 #[.int .u8 kd2, .bool ng2, .slice la2 ln2 lc2, .string tx2, .int .i64 nm2, .slice ia2 im2 ic2, .slice ta2 tn2 tc2] := ⟨(Keeps.refl _ _).drew, HA3.out.drew⟩
  have hne : ¬ w.heap.size = w.heap.size + 1 := by omega
  refine order_held (i := 0) rfl (by kernel_rfl) (fun _ _ _ h => h) (.inl ⟨rfl, fun W hW => by
    have q0 := hW.2.cell 0
    have q1 := hW.2.cell 1
    have q2 := hW.2.cell 2
    have q3 := hW.2.cell 3
    have q4 := hW.2.cell 4
    have q5 := hW.2.cell 5
    have q6 := hW.2.cell 6
    go_simp; rfl⟩) HS ?_
  try simp only [Act.put, List.setIfInBounds_toArray, List.set_cons_succ, List.set_cons_zero]
  refine order_pure (i := 1) rfl (by kernel_rfl) (fun _ _ _ h => h) (.inl ⟨rfl, fun _ => by go_simp; rfl⟩) ?_
  try simp only [Act.put, List.setIfInBounds_toArray, List.set_cons_succ, List.set_cons_zero]
  refine order_held (i := 2) rfl (by kernel_rfl) (fun _ _ _ h => h) (.inl ⟨rfl, fun W hW => by
    have q0 : W.cell? ⟨w.heap.size, 5, none⟩ = some (.slice (some ⟨ib, io, none⟩) im ic) := hW.1.cell hne (HX3.out.cell 5)
    go_simp; rfl⟩) HS ?_
  try simp only [Act.put, List.setIfInBounds_toArray, List.set_cons_succ, List.set_cons_zero]
  refine order_pure (i := 3) rfl (by kernel_rfl) (fun _ _ _ h => h) (.inl ⟨rfl, fun _ => by go_simp; rfl⟩) ?_
  try simp only [Act.put, List.setIfInBounds_toArray, List.set_cons_succ, List.set_cons_zero]
  refine order_pure (i := 6) rfl (by kernel_rfl) (fun _ _ _ h => h) (.inl ⟨rfl, fun _ => by go_simp; rfl⟩) ?_
  try simp only [Act.put, List.setIfInBounds_toArray, List.set_cons_succ, List.set_cons_zero]
  refine order_held (i := 7) rfl (by kernel_rfl) (fun _ _ _ h => h) (.inl ⟨rfl, fun W hW => by
    have q0 : W.cell? ⟨w.heap.size, 6, none⟩ = some (.slice ta tn tc) := hW.1.cell hne (HX3.out.cell 6)
    go_simp; rfl⟩) HS ?_
  try simp only [Act.put, List.setIfInBounds_toArray, List.set_cons_succ, List.set_cons_zero]
  have HS0 := hide ((Keeps.refl NoB w3).drew)
  have HKD := hide (HK3.out.drew)
  clear HS
  generalize w3.drew = W0 at *
  have HK00 : Hid (Keeps NoB W0 W0) := hide (Keeps.refl _ _)
  have HRC0 := hide (show Reads W0 B F 7 (if ic = 1 then some ⟨ib, io, none⟩ else some ⟨ib, io + 7, none⟩) (im - 1) (css.drop 1).flatten from by
    have h := (HRI.out.keep HKD.out (fun _ _ => id)).from 1 (by omega) hic
    rw [flat_drop7 HTI.out.lens.2]
    split <;> rename_i hc <;> simp only [hc, if_true, if_false] at h <;> simpa using h)
  have HTC0 := hide (TermsIn.drop1 (TermsIn.keep HKD.out (fun _ _ => id) _ _ HTI.out))
  have HRT0 := hide (HRT.out.keep HKD.out (fun _ _ => id)); have HTT0 := hide (TermsIn.keep HKD.out (fun _ _ => id) _ _ HTT.out)
  have HRMC := hide (show Roomy (im - 1) 104 from by have := HRM.out.2.1.1; unfold Roomy at this ⊢; omega)
  have HLNC := hide (show (y :: l).length = im - 1 from by have := HIL.out; simp at this ⊢; omega)
  have htn : tn ≤ 9223372036854775807 := by have := HRM.out.2.2.1; unfold Roomy at this; omega
  have himm : im ≤ 9223372036854775807 := by have := HRM.out.2.1.1; unfold Roomy at this; omega
  refine order_two (i := 4) (j := 8) rfl rfl (by kernel_rfl) (fun K hK => ?_) (fun K hK => ?_)
  · skip
    go_simp
    refine hK _ _ (fun _ hS => ⟨hS.1.alloc _, hS.2.alloc _⟩) ?_
    clear hK
    try simp only [Act.put, List.setIfInBounds_toArray, List.set_cons_succ, List.set_cons_zero]
    obtain ⟨g4, hg4⟩ : ∃ g4, W0.heap.size = g4 := ⟨_, rfl⟩
    have HV1 : Hid (Keeps NoB W0 (W0.alloc (.cells #[.slice (if ic = 1 then some ⟨ib, io, none⟩ else some ⟨ib, io + 7, none⟩) (im - 1) (ic - 1)] 24))) := hide (HK00.out.alloc _)
    have F4_1 := hide (Blk.new W0 24 #[.slice (if ic = 1 then some ⟨ib, io, none⟩ else some ⟨ib, io + 7, none⟩) (im - 1) (ic - 1)])
    rw [hg4] at F4_1 ⊢
    generalize W0.alloc (.cells #[.slice (if ic = 1 then some ⟨ib, io, none⟩ else some ⟨ib, io + 7, none⟩) (im - 1) (ic - 1)] 24) = V1 at *
    clear hg4
    refine order_two (i := 5) (j := 8) rfl rfl (by kernel_rfl) (fun K hK => ?_) (fun K hK => ?_)
    · skip
      go_simp
      refine (copies_of (Tm.size.sizes (y :: l)) (hide (tm_copy _)) (y :: l) (Nat.le_refl _) [(css.drop 1)] [.slice (if ic = 1 then some ⟨ib, io, none⟩ else some ⟨ib, io + 7, none⟩) (im - 1) (ic - 1)] (some ⟨g4, 0, none⟩) 1 1 (im - 1) V1 (fun _ => True) B true F (one_head F4_1.out) (heads_one (ic - 1) (HRC0.out.keep HV1.out (fun _ _ => id))) (by simpa using TermsIn.keep HV1.out (fun _ _ => id) _ _ HTC0.out) HLNC.out HRMC.out (by omega)).mono ?_
      rintro e V2 ⟨A5, c5, rfl, css5, hs5, ht5, hf5, hk2⟩
      refine hK _ _ (fun _ hS => ⟨hS.1.trans' hk2 (fun _ _ h => h) (fun _ _ h => h.elim), hS.2.keep hk2 id⟩) ?_
      clear hK
      try simp only [Act.put, List.setIfInBounds_toArray, List.set_cons_succ, List.set_cons_zero]
      have HV2 : Hid (Keeps NoB W0 V2) := hide (HV1.out.trans' hk2 (fun _ _ => id) (fun _ _ => id))
      have F4_2 := hide (F4_1.out.keep hk2 id)
      have F5_2 := hide (And.intro (hs5.reads.weak.more (B' := Above W0) (fun j _ hj => Nat.le_trans HV1.out.size (hf5 j hj))) (TermsIn.more (B' := Above W0) (fun j _ hj => Nat.le_trans HV1.out.size hj.1) _ _ (TermsIn.weak _ _ ht5)))
      have R5 := hide (show RoomC (im - 1) c5 104 from ⟨HRMC.out, hs5.2.1, hs5.2.2.1⟩)
      clear hk2 hs5 ht5 hf5 F4_2 F4_1 HV1
      skip
      refine order_one (i := 8) rfl (by kernel_rfl) (fun K hK => ?_)
      go_simp
      refine hK _ _ (fun _ hS => ⟨hS.1.alloc _, hS.2.alloc _⟩) ?_
      clear hK
      try simp only [Act.put, List.setIfInBounds_toArray, List.set_cons_succ, List.set_cons_zero]
      obtain ⟨g8, hg8⟩ : ∃ g8, V2.heap.size = g8 := ⟨_, rfl⟩
      have HV3 : Hid (Keeps NoB W0 (V2.alloc (.cells #[.slice ta tn tc] 24))) := hide (HV2.out.alloc _)
      have F5_3 := hide (And.intro (F5_2.out.1.keep ((Keeps.refl NoB V2).alloc (.cells #[.slice ta tn tc] 24)) (fun _ _ => id)) (TermsIn.keep ((Keeps.refl NoB V2).alloc (.cells #[.slice ta tn tc] 24)) (fun _ _ => id) _ _ F5_2.out.2))
      have F8_3 := hide (Blk.new V2 24 #[.slice ta tn tc])
      clear F5_2 HV2
      rw [hg8] at F8_3 ⊢
      generalize V2.alloc (.cells #[.slice ta tn tc] 24) = V3 at *
      clear hg8
      refine order_one (i := 9) rfl (by kernel_rfl) (fun K hK => ?_)
      go_simp
      refine (copies_of (Tm.size.sizes tail) (hide (tm_copy _)) tail (Nat.le_refl _) [dss] [.slice ta tn tc] (some ⟨g8, 0, none⟩) 1 1 tn V3 (fun _ => True) B true F (one_head F8_3.out) (heads_one tc (HRT0.out.keep HV3.out (fun _ _ => id))) (by simpa using TermsIn.keep HV3.out (fun _ _ => id) _ _ HTT0.out) HTL.out HRM.out.2.2.1 (by omega)).mono ?_
      rintro e V4 ⟨A9, c9, rfl, css9, hs9, ht9, hf9, hk2⟩
      refine hK _ _ (fun _ hS => ⟨hS.1.trans' hk2 (fun _ _ h => h) (fun _ _ h => h.elim), hS.2.keep hk2 id⟩) ?_
      clear hK
      try simp only [Act.put, List.setIfInBounds_toArray, List.set_cons_succ, List.set_cons_zero]
      have HV4 : Hid (Keeps NoB W0 V4) := hide (HV3.out.trans' hk2 (fun _ _ => id) (fun _ _ => id))
      have F5_4 := hide (And.intro (F5_3.out.1.keep hk2 (fun _ _ => id)) (TermsIn.keep hk2 (fun _ _ => id) _ _ F5_3.out.2))
      have F8_4 := hide (F8_3.out.keep hk2 id)
      have F9_4 := hide (And.intro (hs9.reads.weak.more (B' := Above W0) (fun j _ hj => Nat.le_trans HV3.out.size (hf9 j hj))) (TermsIn.more (B' := Above W0) (fun j _ hj => Nat.le_trans HV3.out.size hj.1) _ _ (TermsIn.weak _ _ ht9)))
      have R9 := hide (show RoomC tn c9 104 from ⟨HRM.out.2.2.1, hs9.2.1, hs9.2.2.1⟩)
      clear hk2 hs9 ht9 hf9 F8_4 F5_3 F8_3 HV3
      refine order_pure (i := 10) rfl (by kernel_rfl) (fun _ _ _ h => h) (.inl ⟨rfl, fun _ => by go_simp; rfl⟩) ?_
      try simp only [Act.put, List.setIfInBounds_toArray, List.set_cons_succ, List.set_cons_zero]
      have HS3K := hide (HS0.out.trans' HV4.out (fun _ _ h => h) (fun _ _ h => h) : Keeps NoB w3 V4)
      have hAW := HA3.out.keep HS3K.out id; have HBW := hide (HB3.out.keep HS3K.out id)
      have HAW := hide hAW; clear hAW
      obtain ⟨z0, z1, z2, z3, z4, z5, z6⟩ := Blk.f7 (w := V4) (g := w.heap.size + 1) HAW.out
      obtain ⟨q0, q1, q2, q3, q4, q5, q6⟩ := Blk.c7 (show Blk V4 (w.heap.size + 1) _ #[.int .u8 kd2, .bool ng2, .slice la2 ln2 lc2, .string tx2, .int .i64 nm2, .slice ia2 im2 ic2, .slice ta2 tn2 tc2] from HAW.out)
      refine order_one (i := 11) rfl (by kernel_rfl) (fun K hK => ?_)
      go_simp
      have hA5 := HAW.out.tput7 (.int .u8 kd2) (.bool ng2) (.slice la2 ln2 lc2) (.string tx2) (.int .i64 nm2) (.slice ia2 im2 ic2) (.slice ta2 tn2 tc2)
      have hk5 := keeps_tput7 V4 (w.heap.size + 1) (.int .u8 kd2) (.bool ng2) (.slice la2 ln2 lc2) (.string tx2) (.int .i64 nm2) (.slice ia2 im2 ic2) (.slice ta2 tn2 tc2)
      refine hK _ _ (fun _ hS => ⟨hS.1.trans' hk5 (fun _ _ h => h) (fun _ _ h => h), hA5⟩) ?_
      clear hK
      try simp only [Act.put, List.setIfInBounds_toArray, List.set_cons_succ, List.set_cons_zero]
      have HA5 := hide hA5; have HB5 := hide (HBW.out.keep hk5 (fun e => by omega)); have HK5 := hide hk5
      clear hA5 hk5 z0 z1 z2 z3 z4 z5 z6 q0 q1 q2 q3 q4 q5 q6
      generalize (((((((V4.setCell ⟨w.heap.size + 1, 0, none⟩ (.int .u8 kd2)).setCell ⟨w.heap.size + 1, 1, none⟩ (.bool ng2)).setCell ⟨w.heap.size + 1, 2, none⟩ (.slice la2 ln2 lc2)).setCell ⟨w.heap.size + 1, 3, none⟩ (.string tx2)).setCell ⟨w.heap.size + 1, 4, none⟩ (.int .i64 nm2)).setCell ⟨w.heap.size + 1, 5, none⟩ (.slice ia2 im2 ic2)).setCell ⟨w.heap.size + 1, 6, none⟩ (.slice ta2 tn2 tc2)) = w8 at *
      obtain ⟨z0, z1, z2, z3, z4, z5, z6⟩ := Blk.f7 (w := w8) (g := w.heap.size + 1 + 1) HB5.out
      obtain ⟨q0, q1, q2, q3, q4, q5, q6⟩ := Blk.c7 (show Blk w8 (w.heap.size + 1 + 1) _ #[.int .u8 0, .bool false, .slice none 0 0, .string ⟨#[]⟩, .int .i64 0, .slice none 0 0, .slice none 0 0] from HB5.out)
      refine order_one (i := 12) rfl (by kernel_rfl) (fun K hK => ?_)
      go_simp
      refine hK _ _ (fun h => absurd h (by decide)) ?_
      clear hK
      try simp only [Act.put, List.setIfInBounds_toArray, List.set_cons_succ, List.set_cons_zero]
      have hB6 := HB5.out.tput7 (.int .u8 7) (.bool false) (.slice none 0 0) (.string ⟨#[]⟩) (.int .i64 0) (.slice A5 (im - 1) c5) (.slice A9 tn c9)
      have hk6 := keeps_tput7 w8 (w.heap.size + 1 + 1) (.int .u8 7) (.bool false) (.slice none 0 0) (.string ⟨#[]⟩) (.int .i64 0) (.slice A5 (im - 1) c5) (.slice A9 tn c9)
      have HB6 := hide hB6; have HA6 := hide (HA5.out.keep hk6 (fun e => by omega)); have HK6 := hide hk6
      clear hB6 hk6 z0 z1 z2 z3 z4 z5 z6 q0 q1 q2 q3 q4 q5 q6
      generalize (((((((w8.setCell ⟨w.heap.size + 1 + 1, 0, none⟩ (.int .u8 7)).setCell ⟨w.heap.size + 1 + 1, 1, none⟩ (.bool false)).setCell ⟨w.heap.size + 1 + 1, 2, none⟩ (.slice none 0 0)).setCell ⟨w.heap.size + 1 + 1, 3, none⟩ (.string ⟨#[]⟩)).setCell ⟨w.heap.size + 1 + 1, 4, none⟩ (.int .i64 0)).setCell ⟨w.heap.size + 1 + 1, 5, none⟩ (.slice A5 (im - 1) c5)).setCell ⟨w.heap.size + 1 + 1, 6, none⟩ (.slice A9 tn c9)) = w9 at *
      refine order_pure (i := 13) rfl (by kernel_rfl) (fun _ _ _ h => h) (.inl ⟨rfl, fun _ => by go_simp; rfl⟩) ?_
      try simp only [Act.put, List.setIfInBounds_toArray, List.set_cons_succ, List.set_cons_zero]
      refine order_done (by kernel_rfl) ?_
      go_wp2_with fail
      have hkk : Keeps (fun k => k = w.heap.size + 1 ∨ k = w.heap.size + 1 + 1) V4 w9 := HK5.out.trans' HK6.out (fun _ _ h => .inl h) (fun _ _ h => .inr h)
      refine bodyPost_ret (results_sp _ _ _ _ _ _ _ _ _ _ _ _ _ _ _ _ _ _ w9 rfl rfl rfl HA6.out HB6.out) rfl ?_
      have hs3 := HK3.out.size; have h4 := HS0.out.size; have h1 := HW1.out; have hla := HLAB.out; have hlb := HB3.out.lt
      refine ⟨_, _, _, _, _, _, _, _, _, _, _, _, _, _, _, _, _, _, _, _, _, _, _, _, _, _, rfl, ?_, ?_, (HK3.out.trans' HS3K.out (fun _ _ => id) (fun _ _ => id) : Keeps NoB w V4).trans' hkk (fun _ _ => id) (fun j hj e => by omega)⟩
      · exact TermIn.weak _ _ (TermIn.more (fun j _ (hj : Above w1 j) => Nat.le_trans HW1.out hj) _ _ (TermIn.keep hkk (fun j (hj : Above w1 j) e => by unfold Above at hj; have := HLAB.out; omega) _ _ (TermIn.keep HS3K.out (fun _ _ => id) _ _ HC3.out)))
      · have hnot : ∀ j, Above W0 j → ¬ (j = w.heap.size + 1 ∨ j = w.heap.size + 1 + 1) := fun j hj e => by unfold Above at hj; omega
        have hup : ∀ j, j < w9.heap.size → Above W0 j → Above w j := fun j _ hj => by unfold Above at hj ⊢; omega
        exact copy_mid (la := none) (ln := 0) (lc := 0) (limbs := []) 7 false ⟨#[]⟩ 0 ⟨RoomC.zero _, R5.out, R9.out⟩ (Reads.zero _ _ _ _ _) ((F5_4.out.1.keep hkk hnot).more hup) (TermsIn.more hup _ _ (TermsIn.keep hkk hnot _ _ F5_4.out.2)) ((F9_4.out.1.keep hkk hnot).more hup) (TermsIn.more hup _ _ (TermsIn.keep hkk hnot _ _ F9_4.out.2))
    · skip
      go_simp
      refine hK _ _ (fun _ hS => ⟨hS.1.alloc _, hS.2.alloc _⟩) ?_
      clear hK
      try simp only [Act.put, List.setIfInBounds_toArray, List.set_cons_succ, List.set_cons_zero]
      obtain ⟨g8, hg8⟩ : ∃ g8, V1.heap.size = g8 := ⟨_, rfl⟩
      have HV5 : Hid (Keeps NoB W0 (V1.alloc (.cells #[.slice ta tn tc] 24))) := hide (HV1.out.alloc _)
      have F4_5 := hide (F4_1.out.keep ((Keeps.refl NoB V1).alloc (.cells #[.slice ta tn tc] 24)) id)
      have F8_5 := hide (Blk.new V1 24 #[.slice ta tn tc])
      clear F4_1 HV1
      rw [hg8] at F8_5 ⊢
      generalize V1.alloc (.cells #[.slice ta tn tc] 24) = V5 at *
      clear hg8
      refine order_one (i := 5) rfl (by kernel_rfl) (fun K hK => ?_)
      go_simp
      refine (copies_of (Tm.size.sizes (y :: l)) (hide (tm_copy _)) (y :: l) (Nat.le_refl _) [(css.drop 1)] [.slice (if ic = 1 then some ⟨ib, io, none⟩ else some ⟨ib, io + 7, none⟩) (im - 1) (ic - 1)] (some ⟨g4, 0, none⟩) 1 1 (im - 1) V5 (fun _ => True) B true F (one_head F4_5.out) (heads_one (ic - 1) (HRC0.out.keep HV5.out (fun _ _ => id))) (by simpa using TermsIn.keep HV5.out (fun _ _ => id) _ _ HTC0.out) HLNC.out HRMC.out (by omega)).mono ?_
      rintro e V6 ⟨A5, c5, rfl, css5, hs5, ht5, hf5, hk2⟩
      refine hK _ _ (fun _ hS => ⟨hS.1.trans' hk2 (fun _ _ h => h) (fun _ _ h => h.elim), hS.2.keep hk2 id⟩) ?_
      clear hK
      try simp only [Act.put, List.setIfInBounds_toArray, List.set_cons_succ, List.set_cons_zero]
      have HV6 : Hid (Keeps NoB W0 V6) := hide (HV5.out.trans' hk2 (fun _ _ => id) (fun _ _ => id))
      have F4_6 := hide (F4_5.out.keep hk2 id)
      have F8_6 := hide (F8_5.out.keep hk2 id)
      have F5_6 := hide (And.intro (hs5.reads.weak.more (B' := Above W0) (fun j _ hj => Nat.le_trans HV5.out.size (hf5 j hj))) (TermsIn.more (B' := Above W0) (fun j _ hj => Nat.le_trans HV5.out.size hj.1) _ _ (TermsIn.weak _ _ ht5)))
      have R5 := hide (show RoomC (im - 1) c5 104 from ⟨HRMC.out, hs5.2.1, hs5.2.2.1⟩)
      clear hk2 hs5 ht5 hf5 F4_6 F4_5 F8_5 HV5
      skip
      refine order_one (i := 9) rfl (by kernel_rfl) (fun K hK => ?_)
      go_simp
      refine (copies_of (Tm.size.sizes tail) (hide (tm_copy _)) tail (Nat.le_refl _) [dss] [.slice ta tn tc] (some ⟨g8, 0, none⟩) 1 1 tn V6 (fun _ => True) B true F (one_head F8_6.out) (heads_one tc (HRT0.out.keep HV6.out (fun _ _ => id))) (by simpa using TermsIn.keep HV6.out (fun _ _ => id) _ _ HTT0.out) HTL.out HRM.out.2.2.1 (by omega)).mono ?_
      rintro e V7 ⟨A9, c9, rfl, css9, hs9, ht9, hf9, hk2⟩
      refine hK _ _ (fun _ hS => ⟨hS.1.trans' hk2 (fun _ _ h => h) (fun _ _ h => h.elim), hS.2.keep hk2 id⟩) ?_
      clear hK
      try simp only [Act.put, List.setIfInBounds_toArray, List.set_cons_succ, List.set_cons_zero]
      have HV7 : Hid (Keeps NoB W0 V7) := hide (HV6.out.trans' hk2 (fun _ _ => id) (fun _ _ => id))
      have F8_7 := hide (F8_6.out.keep hk2 id)
      have F5_7 := hide (And.intro (F5_6.out.1.keep hk2 (fun _ _ => id)) (TermsIn.keep hk2 (fun _ _ => id) _ _ F5_6.out.2))
      have F9_7 := hide (And.intro (hs9.reads.weak.more (B' := Above W0) (fun j _ hj => Nat.le_trans HV6.out.size (hf9 j hj))) (TermsIn.more (B' := Above W0) (fun j _ hj => Nat.le_trans HV6.out.size hj.1) _ _ (TermsIn.weak _ _ ht9)))
      have R9 := hide (show RoomC tn c9 104 from ⟨HRM.out.2.2.1, hs9.2.1, hs9.2.2.1⟩)
      clear hk2 hs9 ht9 hf9 F8_7 F8_6 F5_6 HV6
      refine order_pure (i := 10) rfl (by kernel_rfl) (fun _ _ _ h => h) (.inl ⟨rfl, fun _ => by go_simp; rfl⟩) ?_
      try simp only [Act.put, List.setIfInBounds_toArray, List.set_cons_succ, List.set_cons_zero]
      have HS3K := hide (HS0.out.trans' HV7.out (fun _ _ h => h) (fun _ _ h => h) : Keeps NoB w3 V7)
      have hAW := HA3.out.keep HS3K.out id; have HBW := hide (HB3.out.keep HS3K.out id)
      have HAW := hide hAW; clear hAW
      obtain ⟨z0, z1, z2, z3, z4, z5, z6⟩ := Blk.f7 (w := V7) (g := w.heap.size + 1) HAW.out
      obtain ⟨q0, q1, q2, q3, q4, q5, q6⟩ := Blk.c7 (show Blk V7 (w.heap.size + 1) _ #[.int .u8 kd2, .bool ng2, .slice la2 ln2 lc2, .string tx2, .int .i64 nm2, .slice ia2 im2 ic2, .slice ta2 tn2 tc2] from HAW.out)
      refine order_one (i := 11) rfl (by kernel_rfl) (fun K hK => ?_)
      go_simp
      have hA5 := HAW.out.tput7 (.int .u8 kd2) (.bool ng2) (.slice la2 ln2 lc2) (.string tx2) (.int .i64 nm2) (.slice ia2 im2 ic2) (.slice ta2 tn2 tc2)
      have hk5 := keeps_tput7 V7 (w.heap.size + 1) (.int .u8 kd2) (.bool ng2) (.slice la2 ln2 lc2) (.string tx2) (.int .i64 nm2) (.slice ia2 im2 ic2) (.slice ta2 tn2 tc2)
      refine hK _ _ (fun _ hS => ⟨hS.1.trans' hk5 (fun _ _ h => h) (fun _ _ h => h), hA5⟩) ?_
      clear hK
      try simp only [Act.put, List.setIfInBounds_toArray, List.set_cons_succ, List.set_cons_zero]
      have HA5 := hide hA5; have HB5 := hide (HBW.out.keep hk5 (fun e => by omega)); have HK5 := hide hk5
      clear hA5 hk5 z0 z1 z2 z3 z4 z5 z6 q0 q1 q2 q3 q4 q5 q6
      generalize (((((((V7.setCell ⟨w.heap.size + 1, 0, none⟩ (.int .u8 kd2)).setCell ⟨w.heap.size + 1, 1, none⟩ (.bool ng2)).setCell ⟨w.heap.size + 1, 2, none⟩ (.slice la2 ln2 lc2)).setCell ⟨w.heap.size + 1, 3, none⟩ (.string tx2)).setCell ⟨w.heap.size + 1, 4, none⟩ (.int .i64 nm2)).setCell ⟨w.heap.size + 1, 5, none⟩ (.slice ia2 im2 ic2)).setCell ⟨w.heap.size + 1, 6, none⟩ (.slice ta2 tn2 tc2)) = w8 at *
      obtain ⟨z0, z1, z2, z3, z4, z5, z6⟩ := Blk.f7 (w := w8) (g := w.heap.size + 1 + 1) HB5.out
      obtain ⟨q0, q1, q2, q3, q4, q5, q6⟩ := Blk.c7 (show Blk w8 (w.heap.size + 1 + 1) _ #[.int .u8 0, .bool false, .slice none 0 0, .string ⟨#[]⟩, .int .i64 0, .slice none 0 0, .slice none 0 0] from HB5.out)
      refine order_one (i := 12) rfl (by kernel_rfl) (fun K hK => ?_)
      go_simp
      refine hK _ _ (fun h => absurd h (by decide)) ?_
      clear hK
      try simp only [Act.put, List.setIfInBounds_toArray, List.set_cons_succ, List.set_cons_zero]
      have hB6 := HB5.out.tput7 (.int .u8 7) (.bool false) (.slice none 0 0) (.string ⟨#[]⟩) (.int .i64 0) (.slice A5 (im - 1) c5) (.slice A9 tn c9)
      have hk6 := keeps_tput7 w8 (w.heap.size + 1 + 1) (.int .u8 7) (.bool false) (.slice none 0 0) (.string ⟨#[]⟩) (.int .i64 0) (.slice A5 (im - 1) c5) (.slice A9 tn c9)
      have HB6 := hide hB6; have HA6 := hide (HA5.out.keep hk6 (fun e => by omega)); have HK6 := hide hk6
      clear hB6 hk6 z0 z1 z2 z3 z4 z5 z6 q0 q1 q2 q3 q4 q5 q6
      generalize (((((((w8.setCell ⟨w.heap.size + 1 + 1, 0, none⟩ (.int .u8 7)).setCell ⟨w.heap.size + 1 + 1, 1, none⟩ (.bool false)).setCell ⟨w.heap.size + 1 + 1, 2, none⟩ (.slice none 0 0)).setCell ⟨w.heap.size + 1 + 1, 3, none⟩ (.string ⟨#[]⟩)).setCell ⟨w.heap.size + 1 + 1, 4, none⟩ (.int .i64 0)).setCell ⟨w.heap.size + 1 + 1, 5, none⟩ (.slice A5 (im - 1) c5)).setCell ⟨w.heap.size + 1 + 1, 6, none⟩ (.slice A9 tn c9)) = w9 at *
      refine order_pure (i := 13) rfl (by kernel_rfl) (fun _ _ _ h => h) (.inl ⟨rfl, fun _ => by go_simp; rfl⟩) ?_
      try simp only [Act.put, List.setIfInBounds_toArray, List.set_cons_succ, List.set_cons_zero]
      refine order_done (by kernel_rfl) ?_
      go_wp2_with fail
      have hkk : Keeps (fun k => k = w.heap.size + 1 ∨ k = w.heap.size + 1 + 1) V7 w9 := HK5.out.trans' HK6.out (fun _ _ h => .inl h) (fun _ _ h => .inr h)
      refine bodyPost_ret (results_sp _ _ _ _ _ _ _ _ _ _ _ _ _ _ _ _ _ _ w9 rfl rfl rfl HA6.out HB6.out) rfl ?_
      have hs3 := HK3.out.size; have h4 := HS0.out.size; have h1 := HW1.out; have hla := HLAB.out; have hlb := HB3.out.lt
      refine ⟨_, _, _, _, _, _, _, _, _, _, _, _, _, _, _, _, _, _, _, _, _, _, _, _, _, _, rfl, ?_, ?_, (HK3.out.trans' HS3K.out (fun _ _ => id) (fun _ _ => id) : Keeps NoB w V7).trans' hkk (fun _ _ => id) (fun j hj e => by omega)⟩
      · exact TermIn.weak _ _ (TermIn.more (fun j _ (hj : Above w1 j) => Nat.le_trans HW1.out hj) _ _ (TermIn.keep hkk (fun j (hj : Above w1 j) e => by unfold Above at hj; have := HLAB.out; omega) _ _ (TermIn.keep HS3K.out (fun _ _ => id) _ _ HC3.out)))
      · have hnot : ∀ j, Above W0 j → ¬ (j = w.heap.size + 1 ∨ j = w.heap.size + 1 + 1) := fun j hj e => by unfold Above at hj; omega
        have hup : ∀ j, j < w9.heap.size → Above W0 j → Above w j := fun j _ hj => by unfold Above at hj ⊢; omega
        exact copy_mid (la := none) (ln := 0) (lc := 0) (limbs := []) 7 false ⟨#[]⟩ 0 ⟨RoomC.zero _, R5.out, R9.out⟩ (Reads.zero _ _ _ _ _) ((F5_7.out.1.keep hkk hnot).more hup) (TermsIn.more hup _ _ (TermsIn.keep hkk hnot _ _ F5_7.out.2)) ((F9_7.out.1.keep hkk hnot).more hup) (TermsIn.more hup _ _ (TermsIn.keep hkk hnot _ _ F9_7.out.2))
  · skip
    go_simp
    refine hK _ _ (fun _ hS => ⟨hS.1.alloc _, hS.2.alloc _⟩) ?_
    clear hK
    try simp only [Act.put, List.setIfInBounds_toArray, List.set_cons_succ, List.set_cons_zero]
    obtain ⟨g8, hg8⟩ : ∃ g8, W0.heap.size = g8 := ⟨_, rfl⟩
    have HV8 : Hid (Keeps NoB W0 (W0.alloc (.cells #[.slice ta tn tc] 24))) := hide (HK00.out.alloc _)
    have F8_8 := hide (Blk.new W0 24 #[.slice ta tn tc])
    rw [hg8] at F8_8 ⊢
    generalize W0.alloc (.cells #[.slice ta tn tc] 24) = V8 at *
    clear hg8
    refine order_one (i := 4) rfl (by kernel_rfl) (fun K hK => ?_)
    go_simp
    refine hK _ _ (fun _ hS => ⟨hS.1.alloc _, hS.2.alloc _⟩) ?_
    clear hK
    try simp only [Act.put, List.setIfInBounds_toArray, List.set_cons_succ, List.set_cons_zero]
    obtain ⟨g4, hg4⟩ : ∃ g4, V8.heap.size = g4 := ⟨_, rfl⟩
    have HV9 : Hid (Keeps NoB W0 (V8.alloc (.cells #[.slice (if ic = 1 then some ⟨ib, io, none⟩ else some ⟨ib, io + 7, none⟩) (im - 1) (ic - 1)] 24))) := hide (HV8.out.alloc _)
    have F8_9 := hide (F8_8.out.keep ((Keeps.refl NoB V8).alloc (.cells #[.slice (if ic = 1 then some ⟨ib, io, none⟩ else some ⟨ib, io + 7, none⟩) (im - 1) (ic - 1)] 24)) id)
    have F4_9 := hide (Blk.new V8 24 #[.slice (if ic = 1 then some ⟨ib, io, none⟩ else some ⟨ib, io + 7, none⟩) (im - 1) (ic - 1)])
    clear F8_8 HV8
    rw [hg4] at F4_9 ⊢
    generalize V8.alloc (.cells #[.slice (if ic = 1 then some ⟨ib, io, none⟩ else some ⟨ib, io + 7, none⟩) (im - 1) (ic - 1)] 24) = V9 at *
    clear hg4
    refine order_one (i := 5) rfl (by kernel_rfl) (fun K hK => ?_)
    go_simp
    refine (copies_of (Tm.size.sizes (y :: l)) (hide (tm_copy _)) (y :: l) (Nat.le_refl _) [(css.drop 1)] [.slice (if ic = 1 then some ⟨ib, io, none⟩ else some ⟨ib, io + 7, none⟩) (im - 1) (ic - 1)] (some ⟨g4, 0, none⟩) 1 1 (im - 1) V9 (fun _ => True) B true F (one_head F4_9.out) (heads_one (ic - 1) (HRC0.out.keep HV9.out (fun _ _ => id))) (by simpa using TermsIn.keep HV9.out (fun _ _ => id) _ _ HTC0.out) HLNC.out HRMC.out (by omega)).mono ?_
    rintro e V10 ⟨A5, c5, rfl, css5, hs5, ht5, hf5, hk2⟩
    refine hK _ _ (fun _ hS => ⟨hS.1.trans' hk2 (fun _ _ h => h) (fun _ _ h => h.elim), hS.2.keep hk2 id⟩) ?_
    clear hK
    try simp only [Act.put, List.setIfInBounds_toArray, List.set_cons_succ, List.set_cons_zero]
    have HV10 : Hid (Keeps NoB W0 V10) := hide (HV9.out.trans' hk2 (fun _ _ => id) (fun _ _ => id))
    have F8_10 := hide (F8_9.out.keep hk2 id)
    have F4_10 := hide (F4_9.out.keep hk2 id)
    have F5_10 := hide (And.intro (hs5.reads.weak.more (B' := Above W0) (fun j _ hj => Nat.le_trans HV9.out.size (hf5 j hj))) (TermsIn.more (B' := Above W0) (fun j _ hj => Nat.le_trans HV9.out.size hj.1) _ _ (TermsIn.weak _ _ ht5)))
    have R5 := hide (show RoomC (im - 1) c5 104 from ⟨HRMC.out, hs5.2.1, hs5.2.2.1⟩)
    clear hk2 hs5 ht5 hf5 F4_10 F8_9 F4_9 HV9
    skip
    refine order_one (i := 9) rfl (by kernel_rfl) (fun K hK => ?_)
    go_simp
    refine (copies_of (Tm.size.sizes tail) (hide (tm_copy _)) tail (Nat.le_refl _) [dss] [.slice ta tn tc] (some ⟨g8, 0, none⟩) 1 1 tn V10 (fun _ => True) B true F (one_head F8_10.out) (heads_one tc (HRT0.out.keep HV10.out (fun _ _ => id))) (by simpa using TermsIn.keep HV10.out (fun _ _ => id) _ _ HTT0.out) HTL.out HRM.out.2.2.1 (by omega)).mono ?_
    rintro e V11 ⟨A9, c9, rfl, css9, hs9, ht9, hf9, hk2⟩
    refine hK _ _ (fun _ hS => ⟨hS.1.trans' hk2 (fun _ _ h => h) (fun _ _ h => h.elim), hS.2.keep hk2 id⟩) ?_
    clear hK
    try simp only [Act.put, List.setIfInBounds_toArray, List.set_cons_succ, List.set_cons_zero]
    have HV11 : Hid (Keeps NoB W0 V11) := hide (HV10.out.trans' hk2 (fun _ _ => id) (fun _ _ => id))
    have F8_11 := hide (F8_10.out.keep hk2 id)
    have F5_11 := hide (And.intro (F5_10.out.1.keep hk2 (fun _ _ => id)) (TermsIn.keep hk2 (fun _ _ => id) _ _ F5_10.out.2))
    have F9_11 := hide (And.intro (hs9.reads.weak.more (B' := Above W0) (fun j _ hj => Nat.le_trans HV10.out.size (hf9 j hj))) (TermsIn.more (B' := Above W0) (fun j _ hj => Nat.le_trans HV10.out.size hj.1) _ _ (TermsIn.weak _ _ ht9)))
    have R9 := hide (show RoomC tn c9 104 from ⟨HRM.out.2.2.1, hs9.2.1, hs9.2.2.1⟩)
    clear hk2 hs9 ht9 hf9 F8_11 F8_10 F5_10 HV10
    refine order_pure (i := 10) rfl (by kernel_rfl) (fun _ _ _ h => h) (.inl ⟨rfl, fun _ => by go_simp; rfl⟩) ?_
    try simp only [Act.put, List.setIfInBounds_toArray, List.set_cons_succ, List.set_cons_zero]
    have HS3K := hide (HS0.out.trans' HV11.out (fun _ _ h => h) (fun _ _ h => h) : Keeps NoB w3 V11)
    have hAW := HA3.out.keep HS3K.out id; have HBW := hide (HB3.out.keep HS3K.out id)
    have HAW := hide hAW; clear hAW
    obtain ⟨z0, z1, z2, z3, z4, z5, z6⟩ := Blk.f7 (w := V11) (g := w.heap.size + 1) HAW.out
    obtain ⟨q0, q1, q2, q3, q4, q5, q6⟩ := Blk.c7 (show Blk V11 (w.heap.size + 1) _ #[.int .u8 kd2, .bool ng2, .slice la2 ln2 lc2, .string tx2, .int .i64 nm2, .slice ia2 im2 ic2, .slice ta2 tn2 tc2] from HAW.out)
    refine order_one (i := 11) rfl (by kernel_rfl) (fun K hK => ?_)
    go_simp
    have hA5 := HAW.out.tput7 (.int .u8 kd2) (.bool ng2) (.slice la2 ln2 lc2) (.string tx2) (.int .i64 nm2) (.slice ia2 im2 ic2) (.slice ta2 tn2 tc2)
    have hk5 := keeps_tput7 V11 (w.heap.size + 1) (.int .u8 kd2) (.bool ng2) (.slice la2 ln2 lc2) (.string tx2) (.int .i64 nm2) (.slice ia2 im2 ic2) (.slice ta2 tn2 tc2)
    refine hK _ _ (fun _ hS => ⟨hS.1.trans' hk5 (fun _ _ h => h) (fun _ _ h => h), hA5⟩) ?_
    clear hK
    try simp only [Act.put, List.setIfInBounds_toArray, List.set_cons_succ, List.set_cons_zero]
    have HA5 := hide hA5; have HB5 := hide (HBW.out.keep hk5 (fun e => by omega)); have HK5 := hide hk5
    clear hA5 hk5 z0 z1 z2 z3 z4 z5 z6 q0 q1 q2 q3 q4 q5 q6
    generalize (((((((V11.setCell ⟨w.heap.size + 1, 0, none⟩ (.int .u8 kd2)).setCell ⟨w.heap.size + 1, 1, none⟩ (.bool ng2)).setCell ⟨w.heap.size + 1, 2, none⟩ (.slice la2 ln2 lc2)).setCell ⟨w.heap.size + 1, 3, none⟩ (.string tx2)).setCell ⟨w.heap.size + 1, 4, none⟩ (.int .i64 nm2)).setCell ⟨w.heap.size + 1, 5, none⟩ (.slice ia2 im2 ic2)).setCell ⟨w.heap.size + 1, 6, none⟩ (.slice ta2 tn2 tc2)) = w8 at *
    obtain ⟨z0, z1, z2, z3, z4, z5, z6⟩ := Blk.f7 (w := w8) (g := w.heap.size + 1 + 1) HB5.out
    obtain ⟨q0, q1, q2, q3, q4, q5, q6⟩ := Blk.c7 (show Blk w8 (w.heap.size + 1 + 1) _ #[.int .u8 0, .bool false, .slice none 0 0, .string ⟨#[]⟩, .int .i64 0, .slice none 0 0, .slice none 0 0] from HB5.out)
    refine order_one (i := 12) rfl (by kernel_rfl) (fun K hK => ?_)
    go_simp
    refine hK _ _ (fun h => absurd h (by decide)) ?_
    clear hK
    try simp only [Act.put, List.setIfInBounds_toArray, List.set_cons_succ, List.set_cons_zero]
    have hB6 := HB5.out.tput7 (.int .u8 7) (.bool false) (.slice none 0 0) (.string ⟨#[]⟩) (.int .i64 0) (.slice A5 (im - 1) c5) (.slice A9 tn c9)
    have hk6 := keeps_tput7 w8 (w.heap.size + 1 + 1) (.int .u8 7) (.bool false) (.slice none 0 0) (.string ⟨#[]⟩) (.int .i64 0) (.slice A5 (im - 1) c5) (.slice A9 tn c9)
    have HB6 := hide hB6; have HA6 := hide (HA5.out.keep hk6 (fun e => by omega)); have HK6 := hide hk6
    clear hB6 hk6 z0 z1 z2 z3 z4 z5 z6 q0 q1 q2 q3 q4 q5 q6
    generalize (((((((w8.setCell ⟨w.heap.size + 1 + 1, 0, none⟩ (.int .u8 7)).setCell ⟨w.heap.size + 1 + 1, 1, none⟩ (.bool false)).setCell ⟨w.heap.size + 1 + 1, 2, none⟩ (.slice none 0 0)).setCell ⟨w.heap.size + 1 + 1, 3, none⟩ (.string ⟨#[]⟩)).setCell ⟨w.heap.size + 1 + 1, 4, none⟩ (.int .i64 0)).setCell ⟨w.heap.size + 1 + 1, 5, none⟩ (.slice A5 (im - 1) c5)).setCell ⟨w.heap.size + 1 + 1, 6, none⟩ (.slice A9 tn c9)) = w9 at *
    refine order_pure (i := 13) rfl (by kernel_rfl) (fun _ _ _ h => h) (.inl ⟨rfl, fun _ => by go_simp; rfl⟩) ?_
    try simp only [Act.put, List.setIfInBounds_toArray, List.set_cons_succ, List.set_cons_zero]
    refine order_done (by kernel_rfl) ?_
    go_wp2_with fail
    have hkk : Keeps (fun k => k = w.heap.size + 1 ∨ k = w.heap.size + 1 + 1) V11 w9 := HK5.out.trans' HK6.out (fun _ _ h => .inl h) (fun _ _ h => .inr h)
    refine bodyPost_ret (results_sp _ _ _ _ _ _ _ _ _ _ _ _ _ _ _ _ _ _ w9 rfl rfl rfl HA6.out HB6.out) rfl ?_
    have hs3 := HK3.out.size; have h4 := HS0.out.size; have h1 := HW1.out; have hla := HLAB.out; have hlb := HB3.out.lt
    refine ⟨_, _, _, _, _, _, _, _, _, _, _, _, _, _, _, _, _, _, _, _, _, _, _, _, _, _, rfl, ?_, ?_, (HK3.out.trans' HS3K.out (fun _ _ => id) (fun _ _ => id) : Keeps NoB w V11).trans' hkk (fun _ _ => id) (fun j hj e => by omega)⟩
    · exact TermIn.weak _ _ (TermIn.more (fun j _ (hj : Above w1 j) => Nat.le_trans HW1.out hj) _ _ (TermIn.keep hkk (fun j (hj : Above w1 j) e => by unfold Above at hj; have := HLAB.out; omega) _ _ (TermIn.keep HS3K.out (fun _ _ => id) _ _ HC3.out)))
    · have hnot : ∀ j, Above W0 j → ¬ (j = w.heap.size + 1 ∨ j = w.heap.size + 1 + 1) := fun j hj e => by unfold Above at hj; omega
      have hup : ∀ j, j < w9.heap.size → Above W0 j → Above w j := fun j _ hj => by unfold Above at hj ⊢; omega
      exact copy_mid (la := none) (ln := 0) (lc := 0) (limbs := []) 7 false ⟨#[]⟩ 0 ⟨RoomC.zero _, R5.out, R9.out⟩ (Reads.zero _ _ _ _ _) ((F5_11.out.1.keep hkk hnot).more hup) (TermsIn.more hup _ _ (TermsIn.keep hkk hnot _ _ F5_11.out.2)) ((F9_11.out.1.keep hkk hnot).more hup) (TermsIn.more hup _ _ (TermsIn.keep hkk hnot _ _ F9_11.out.2))
end Go.Proofs.YtjdbjjjbgibpaaaGreatDoor
