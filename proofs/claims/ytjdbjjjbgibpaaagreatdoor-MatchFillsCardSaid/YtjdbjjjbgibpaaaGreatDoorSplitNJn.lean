/- bif.number: its contracts. Printed by mknum.py. slices.ContainsFunc at bif.proper's own function: are terms all proper lists? term.Split at what is no list. Printed by mksplit.py. -/
import Derived.Test.YtjdbjjjbgibpaaaGreatDoorRowJn
import Derived.Test.YtjdbjjjbgibpaaaGreatDoorTwoJn
namespace Go.Proofs.YtjdbjjjbgibpaaaGreatDoor
set_option maxRecDepth 100000
open Go.RowKit

def zeroT : Tm := flatT 0 ByteArray.empty 0
def errT (s : ByteArray) : Tm := .mk 6 false [] ByteArray.empty 0 [flatT 2 ⟨#[101, 114, 114, 111, 114]⟩ 0, flatT 2 s 0] []
theorem ResB.up {N : Nat} {w : World} {k : Nat} (h : w.heap.size ≤ k) : ResB N w k := Or.inr h
theorem ResP.more {N : Nat} {w w' : World} {v r : Tm} {e : Ending} (h : ResP 0 w v r e w') : ResP N w v r e w' := by
  obtain ⟨kv, gv, lv, lvn, lvc, sv, mv, iv, ivn, ivc, tv, tvn, tvc, kr, gr, lr, lrn, lrc, sr, mr, ir, irn, irc, tr, trn, trc, he, h1, h2, h3⟩ := h
  have hb : ∀ k, k < w'.heap.size → ResB 0 w k → ResB N w k := fun k _ hk => by rcases hk with hk | hk; exact absurd hk (Nat.not_lt_zero k); exact Or.inr hk
  exact ⟨kv, gv, lv, lvn, lvc, sv, mv, iv, ivn, ivc, tv, tvn, tvc, kr, gr, lr, lrn, lrc, sr, mr, ir, irn, irc, tr, trn, trc, he, TermIn.more hb _ _ h1, TermIn.more hb _ _ h2, h3⟩
theorem err_in {w : World} {g : Nat} {s : ByteArray} (h : Blk w g 26 #[.int .u8 2, .bool false, .slice none 0 0, .string ⟨#[101, 114, 114, 111, 114]⟩, .int .i64 0, .slice none 0 0, .slice none 0 0, .int .u8 2, .bool false, .slice none 0 0, .string s, .int .i64 0, .slice none 0 0, .slice none 0 0]) : TermIn w (fun k => k = g) false [.int .u8 6, .bool false, .slice none 0 0, .string ⟨#[]⟩, .int .i64 0, .slice (some ⟨g, 0, none⟩) 2 2, .slice none 0 0] (errT s) := by
  unfold errT TermIn
  refine ⟨none, 0, 0, some ⟨g, 0, none⟩, 2, 2, none, 0, 0, [flatC 2 ⟨#[101, 114, 114, 111, 114]⟩ 0, flatC 2 s 0], [], rfl, ⟨RoomC.zero _, ⟨by unfold Roomy; omega, Nat.le_refl _, by unfold maxLen; omega⟩, RoomC.zero _⟩, Reads.zero _ _ _ _ _, ?_, two_terms (flat_in _ _ _ _ _ _) (flat_in _ _ _ _ _ _), Reads.zero _ _ _ _ _, by unfold TermsIn; trivial⟩
  exact ⟨rfl, fun _ => ⟨_, rfl, rfl, rfl, h.lt, fun j u hu => ⟨by rw [h.cell, Nat.zero_add]; simpa [flatC] using hu, fun h => by cases h⟩⟩⟩
end Go.Proofs.YtjdbjjjbgibpaaaGreatDoor
namespace Go.Proofs.YtjdbjjjbgibpaaaGreatDoor
set_option maxRecDepth 100000
open Go.RowKit

def listT (t : Tm) : Bool := decide (t.kind = 7) && decide (t.tail.length = 0)
end Go.Proofs.YtjdbjjjbgibpaaaGreatDoor
namespace Go.Proofs.YtjdbjjjbgibpaaaGreatDoor
set_option maxRecDepth 100000
open Go.RowKit

theorem results_52 (tmps : Array Value) (g4 g5 : Nat) (b : Bool) (v0 v1 v2 v3 v4 v5 v6 u0 u1 u2 u3 u4 u5 u6 : Value) (w : World) (h4 : tmps[2]? = some (.pointer (some ⟨g4, 0, none⟩))) (h5 : tmps[3]? = some (.pointer (some ⟨g5, 0, none⟩))) (h6 : tmps[4]? = some (.bool b)) (hB4 : Blk w g4 26 #[v0, v1, v2, v3, v4, v5, v6]) (hB5 : Blk w g5 26 #[u0, u1, u2, u3, u4, u5, u6]) :
    (results Tryz.f25 tmps).run Tryz.prog w = .ok (.tuple #[.agg #[v0, v1, v2, v3, v4, v5, v6], .agg #[u0, u1, u2, u3, u4, u5, u6], .bool b]) w := by
  have c0 : w.cell? ⟨g4, 0, none⟩ = some v0 := hB4.cell 0
  have d0 : w.cell? ⟨g5, 0, none⟩ = some u0 := hB5.cell 0
  have c1 : w.cell? ⟨g4, 1, none⟩ = some v1 := hB4.cell 1
  have d1 : w.cell? ⟨g5, 1, none⟩ = some u1 := hB5.cell 1
  have c2 : w.cell? ⟨g4, 2, none⟩ = some v2 := hB4.cell 2
  have d2 : w.cell? ⟨g5, 2, none⟩ = some u2 := hB5.cell 2
  have c3 : w.cell? ⟨g4, 3, none⟩ = some v3 := hB4.cell 3
  have d3 : w.cell? ⟨g5, 3, none⟩ = some u3 := hB5.cell 3
  have c4 : w.cell? ⟨g4, 4, none⟩ = some v4 := hB4.cell 4
  have d4 : w.cell? ⟨g5, 4, none⟩ = some u4 := hB5.cell 4
  have c5 : w.cell? ⟨g4, 5, none⟩ = some v5 := hB4.cell 5
  have d5 : w.cell? ⟨g5, 5, none⟩ = some u5 := hB5.cell 5
  have c6 : w.cell? ⟨g4, 6, none⟩ = some v6 := hB4.cell 6
  have d6 : w.cell? ⟨g5, 6, none⟩ = some u6 := hB5.cell 6
  have hr : Tryz.f25.results = #[ResultVar.cell 2 26, ResultVar.cell 3 26, ResultVar.tmp 4] := by kernel_rfl
  simp [results, hr, go_sem, h4, h5, h6, c0, d0, c1, d1, c2, d2, c3, d3, c4, d4, c5, d5, c6, d6]
set_option maxRecDepth 100000 in
set_option maxHeartbeats 2000000 in
theorem split_no (t : Tm) (w : World) (B : Nat → Prop) (F : Bool) (kd : Int) (ng : Bool) (la : Option Addr) (ln lc : Nat) (tx : ByteArray) (nm : Int) (ia : Option Addr) (im ic : Nat) (ta : Option Addr) (tn tc : Nat) (ht : TermIn w B F [.int .u8 kd, .bool ng, .slice la ln lc, .string tx, .int .i64 nm, .slice ia im ic, .slice ta tn tc] t) (hr : rightT t = true) (hk : ¬ kd = 7) :
    Calls Tryz.prog 25 #[.agg #[.int .u8 kd, .bool ng, .slice la ln lc, .string tx, .int .i64 nm, .slice ia im ic, .slice ta tn tc]] w fun e w' => e = .returned (.tuple #[.agg #[.int .u8 0, .bool false, .slice none 0 0, .string ⟨#[]⟩, .int .i64 0, .slice none 0 0, .slice none 0 0], .agg #[.int .u8 0, .bool false, .slice none 0 0, .string ⟨#[]⟩, .int .i64 0, .slice none 0 0, .slice none 0 0], .bool false]) ∧ Keeps NoB w w' := by
  have HK0 := hide ((((Keeps.refl NoB w).alloc (.cells #[.int .u8 kd, .bool ng, .slice la ln lc, .string tx, .int .i64 nm, .slice ia im ic, .slice ta tn tc] 26)).alloc (.cells #[.int .u8 0, .bool false, .slice none 0 0, .string ⟨#[]⟩, .int .i64 0, .slice none 0 0, .slice none 0 0] 26)).alloc (.cells #[.int .u8 0, .bool false, .slice none 0 0, .string ⟨#[]⟩, .int .i64 0, .slice none 0 0, .slice none 0 0] 26))
  have HX0 := hide (three_tblks w 26 26 26 #[.int .u8 kd, .bool ng, .slice la ln lc, .string tx, .int .i64 nm, .slice ia im ic, .slice ta tn tc] #[.int .u8 0, .bool false, .slice none 0 0, .string ⟨#[]⟩, .int .i64 0, .slice none 0 0, .slice none 0 0] #[.int .u8 0, .bool false, .slice none 0 0, .string ⟨#[]⟩, .int .i64 0, .slice none 0 0, .slice none 0 0]).1; have HA0 := hide (three_tblks w 26 26 26 #[.int .u8 kd, .bool ng, .slice la ln lc, .string tx, .int .i64 nm, .slice ia im ic, .slice ta tn tc] #[.int .u8 0, .bool false, .slice none 0 0, .string ⟨#[]⟩, .int .i64 0, .slice none 0 0, .slice none 0 0] #[.int .u8 0, .bool false, .slice none 0 0, .string ⟨#[]⟩, .int .i64 0, .slice none 0 0, .slice none 0 0]).2.1; have HB0 := hide (three_tblks w 26 26 26 #[.int .u8 kd, .bool ng, .slice la ln lc, .string tx, .int .i64 nm, .slice ia im ic, .slice ta tn tc] #[.int .u8 0, .bool false, .slice none 0 0, .string ⟨#[]⟩, .int .i64 0, .slice none 0 0, .slice none 0 0] #[.int .u8 0, .bool false, .slice none 0 0, .string ⟨#[]⟩, .int .i64 0, .slice none 0 0, .slice none 0 0]).2.2
  have HT := hide ht; have HR := hide hr
  have hb1 : (kd == 7) = false := by simpa using hk
  have hb2 : (kd != 7) = true := by simpa using hk
  clear ht hr
  go_enter Tryz.func25, Tryz.ntmps25
  go_upto_region 1 with fail
  generalize ((w.alloc (.cells #[.int .u8 kd, .bool ng, .slice la ln lc, .string tx, .int .i64 nm, .slice ia im ic, .slice ta tn tc] 26)).alloc (.cells #[.int .u8 0, .bool false, .slice none 0 0, .string ⟨#[]⟩, .int .i64 0, .slice none 0 0, .slice none 0 0] 26)).alloc (.cells #[.int .u8 0, .bool false, .slice none 0 0, .string ⟨#[]⟩, .int .i64 0, .slice none 0 0, .slice none 0 0] 26) = w0 at *
  obtain ⟨x0, x1, x2, x3, x4, x5, x6⟩ := Blk.c7 (show Blk w0 (w.heap.size) _ #[.int .u8 kd, .bool ng, .slice la ln lc, .string tx, .int .i64 nm, .slice ia im ic, .slice ta tn tc] from HX0.out)
  go_wp2_with
    first
    | (go_at_call 7
       refine (tm_right t w0 B F _ _ _ _ _ _ _ _ _ _ _ _ _ (TermIn.keep HK0.out (fun _ _ => id) _ _ HT.out)).mono ?_
       rintro e w1 ⟨rfl, hk1⟩
       rw [HR.out]
       have HK1 := hide (HK0.out.trans' hk1 (fun _ _ => id) (fun _ _ => id) : Keeps NoB w w1)
       have HX1 := hide (HX0.out.keep hk1 id); have HA1 := hide (HA0.out.keep hk1 id); have HB1 := hide (HB0.out.keep hk1 id)
       obtain ⟨y0, y1, y2, y3, y4, y5, y6⟩ := Blk.c7 (show Blk w1 (w.heap.size) _ #[.int .u8 kd, .bool ng, .slice la ln lc, .string tx, .int .i64 nm, .slice ia im ic, .slice ta tn tc] from HX1.out)
       obtain ⟨z0, z1, z2, z3, z4, z5, z6⟩ := Blk.f7 (w := w1) (g := w.heap.size + 1) HA1.out
       obtain ⟨f0, f1, f2, f3, f4, f5, f6⟩ := Blk.f7 (w := w1) (g := w.heap.size + 1 + 1) HB1.out
       obtain ⟨q0, q1, q2, q3, q4, q5, q6⟩ := Blk.c7 (show Blk w1 (w.heap.size + 1) _ #[.int .u8 0, .bool false, .slice none 0 0, .string ⟨#[]⟩, .int .i64 0, .slice none 0 0, .slice none 0 0] from HA1.out)
       obtain ⟨p0, p1, p2, p3, p4, p5, p6⟩ := Blk.c7 (show Blk w1 (w.heap.size + 1 + 1) _ #[.int .u8 0, .bool false, .slice none 0 0, .string ⟨#[]⟩, .int .i64 0, .slice none 0 0, .slice none 0 0] from HB1.out)
       clear hk1)
    | fail
  have hka := keeps_tput7 w1 (w.heap.size + 1) (.int .u8 0) (.bool false) (.slice none 0 0) (.string ⟨#[]⟩) (.int .i64 0) (.slice none 0 0) (.slice none 0 0)
  have hA := HA1.out.tput7 (.int .u8 0) (.bool false) (.slice none 0 0) (.string ⟨#[]⟩) (.int .i64 0) (.slice none 0 0) (.slice none 0 0)
  have hB := HB1.out.keep hka (fun e => by omega)
  have HKF := hide (HK1.out.trans' hka (fun _ _ => id) (fun i hi e => by omega) : Keeps NoB w _)
  clear x0 x1 x2 x3 x4 x5 x6 y0 y1 y2 y3 y4 y5 y6 z0 z1 z2 z3 z4 z5 z6 q0 q1 q2 q3 q4 q5 q6 p0 p1 p2 p3 p4 p5 p6 f0 f1 f2 f3 f4 f5 f6 hka HA1 HB1 HK1
  generalize (((((((w1.setCell ⟨w.heap.size + 1, 0, none⟩ (.int .u8 0)).setCell ⟨w.heap.size + 1, 1, none⟩ (.bool false)).setCell ⟨w.heap.size + 1, 2, none⟩ (.slice none 0 0)).setCell ⟨w.heap.size + 1, 3, none⟩ (.string ⟨#[]⟩)).setCell ⟨w.heap.size + 1, 4, none⟩ (.int .i64 0)).setCell ⟨w.heap.size + 1, 5, none⟩ (.slice none 0 0)).setCell ⟨w.heap.size + 1, 6, none⟩ (.slice none 0 0)) = w2 at *
  have hkb := keeps_tput7 w2 (w.heap.size + 1 + 1) (.int .u8 0) (.bool false) (.slice none 0 0) (.string ⟨#[]⟩) (.int .i64 0) (.slice none 0 0) (.slice none 0 0)
  refine bodyPost_ret (results_52 _ _ _ _ _ _ _ _ _ _ _ _ _ _ _ _ _ _ _ rfl rfl rfl (hA.keep hkb (fun e => by omega)) (hB.tput7 (.int .u8 0) (.bool false) (.slice none 0 0) (.string ⟨#[]⟩) (.int .i64 0) (.slice none 0 0) (.slice none 0 0))) rfl ?_
  exact ⟨rfl, HKF.out.trans' hkb (fun _ _ => id) (fun i hi e => by omega)⟩
end Go.Proofs.YtjdbjjjbgibpaaaGreatDoor
