/- Terms that are no integers: what Times, Add, Div, Compare, Sub, Int tell of them. -/
import Derived.Test.YtfehciiidmgopaaMinus
namespace Go.Proofs.Ytfehciiidmgopaa
open Go.RowKit


/-- A term, and whether it is right. -/
def TermA (w : World) (B : Nat → Prop) (r : Bool) (cs : Array Value) : Prop := ∃ (kd : Int) (ng : Bool) (la : Option Addr) (ln lc : Nat) (tx : ByteArray) (nm : Int) (ia : Option Addr) (im ic : Nat) (ta : Option Addr) (tm tc : Nat) (l : List Nat),
  cs = #[.int .u8 kd, .bool ng, .slice la ln lc, .string tx, .int .i64 nm, .slice ia im ic, .slice ta tm tc] ∧ LimbsIn w B la ln lc l ∧ im ≤ 140737488355328 ∧ tm ≤ 140737488355328 ∧ rightB kd ng l tx nm im tm = r
theorem TermA.keep {w w' : World} {B : Nat → Prop} {r : Bool} {cs : Array Value} (h : TermA w B r cs) (hk : Keeps NoB w w') : TermA w' B r cs := by
  obtain ⟨kd, ng, la, ln, lc, tx, nm, ia, im, ic, ta, tm, tc, l, e, hl, h1⟩ := h
  exact ⟨kd, ng, la, ln, lc, tx, nm, ia, im, ic, ta, tm, tc, l, e, hl.keep hk, h1⟩
theorem TermA.right {w : World} {B : Nat → Prop} {r : Bool} {cs : Array Value} (h : TermA w B r cs) : Calls Try.prog 24 #[.agg cs] w fun e w' => e = .returned (.bool r) ∧ Keeps NoB w w' := by
  obtain ⟨kd, ng, la, ln, lc, tx, nm, ia, im, ic, ta, tm, tc, l, rfl, hl, hi, ht, hr⟩ := h
  subst hr
  exact right_any kd nm ng la ia ta ln lc im ic tm tc tx l w B hl hi ht
theorem IA.term {w : World} {B : Nat → Prop} {ng : Bool} {A : Option Addr} {n c : Nat} {z : Int} (h : IA w B ng A n c z) (ia ta : Option Addr) (ic tc : Nat) : TermA w B true #[.int .u8 1, .bool ng, .slice A n c, .string { data := #[] }, .int .i64 0, .slice ia 0 ic, .slice ta 0 tc] :=
  ⟨1, ng, A, n, c, ByteArray.empty, 0, ia, 0, ic, ta, 0, tc, _, rfl, h.limbs, by omega, by omega, IA_right h⟩
theorem TermA.int {w : World} {B : Nat → Prop} {cs : Array Value} (h : TermA w B true cs) : ∃ ng A n c z ia ta ic tc, cs = #[.int .u8 1, .bool ng, .slice A n c, .string { data := #[] }, .int .i64 0, .slice ia 0 ic, .slice ta 0 tc] ∧ IA w B ng A n c z := by
  obtain ⟨kd, ng, la, ln, lc, tx, nm, ia, im, ic, ta, tm, tc, l, rfl, hl, hi, ht, hr⟩ := h
  obtain ⟨rfl, rfl, rfl, rfl, rfl, hI, _, _⟩ := right_IA hr hl
  exact ⟨ng, la, ln, lc, _, ia, ta, ic, tc, rfl, hI⟩
theorem zero_bad (w : World) (B : Nat → Prop) : TermA w B false #[.int .u8 0, .bool false, .slice none 0 0, .string { data := #[] }, .int .i64 0, .slice none 0 0, .slice none 0 0] :=
  ⟨0, false, none, 0, 0, ByteArray.empty, 0, none, 0, 0, none, 0, 0, [], rfl, LimbsIn.nil _ _ _ _ (Nat.zero_le _), by omega, by omega, rfl⟩

set_option maxHeartbeats 1000000 in
set_option maxRecDepth 100000 in
theorem times_bad1 {w : World} {B B' : Nat → Prop} {r : Bool} {cs ds : Array Value} (ha : TermA w B false cs) (hb : TermA w B' r ds) : Calls Try.prog 11 #[.agg cs, .agg ds] w (NoP w) := by
  have HTA := hide ha
  obtain ⟨kd, ng, la, ln, lc, tx, nm, ia, im, ic, ta, tm, tc, l, rfl, hl, hi, ht, hr⟩ := ha
  clear hl hi ht hr
  have HTB := hide hb
  obtain ⟨kd', ng', la', ln', lc', tx', nm', ia', im', ic', ta', tm', tc', l', rfl, hl, hi, ht, hr⟩ := hb
  clear hl hi ht hr
  go_enter Try.func11, Try.ntmps11
  have HY0 := hide ((Blk.new2' w (.cells #[.int .u8 kd, .bool ng, .slice la ln lc, .string tx, .int .i64 nm, .slice ia im ic, .slice ta tm tc] 26) 26 #[.int .u8 kd', .bool ng', .slice la' ln' lc', .string tx', .int .i64 nm', .slice ia' im' ic', .slice ta' tm' tc']).alloc (.cells #[.int .u8 0, .bool false, .slice none 0 0, .string { data := #[] }, .int .i64 0, .slice none 0 0, .slice none 0 0] 26))
  have HZ0 := hide (Blk.new3' w (.cells #[.int .u8 kd, .bool ng, .slice la ln lc, .string tx, .int .i64 nm, .slice ia im ic, .slice ta tm tc] 26) (.cells #[.int .u8 kd', .bool ng', .slice la' ln' lc', .string tx', .int .i64 nm', .slice ia' im' ic', .slice ta' tm' tc'] 26) 26 #[.int .u8 0, .bool false, .slice none 0 0, .string { data := #[] }, .int .i64 0, .slice none 0 0, .slice none 0 0])
  have HK0 := hide ((((Keeps.refl NoB w).alloc (.cells #[.int .u8 kd, .bool ng, .slice la ln lc, .string tx, .int .i64 nm, .slice ia im ic, .slice ta tm tc] 26)).alloc (.cells #[.int .u8 kd', .bool ng', .slice la' ln' lc', .string tx', .int .i64 nm', .slice ia' im' ic', .slice ta' tm' tc'] 26)).alloc (.cells #[.int .u8 0, .bool false, .slice none 0 0, .string { data := #[] }, .int .i64 0, .slice none 0 0, .slice none 0 0] 26))
  go_wp2_with first | (go_at_call 24; refine (HTA.out.keep HK0.out).right.mono ?_; rintro e w1 ⟨rfl, hk1⟩; have HK1 := hide (HK0.out.trans' hk1 (fun _ _ => id) (fun _ _ => id)); have HZ1 := hide (HZ0.out.keep hk1 id); clear hk1 HY0 HZ0 HK0; have z0 : w1.cell? ⟨w.heap.size + 1 + 1, 0, none⟩ = some (.int .u8 0) := HZ1.out.cell 0; have z1 : w1.cell? ⟨w.heap.size + 1 + 1, 1, none⟩ = some (.bool false) := HZ1.out.cell 1; have z2 : w1.cell? ⟨w.heap.size + 1 + 1, 2, none⟩ = some (.slice none 0 0) := HZ1.out.cell 2; have z3 : w1.cell? ⟨w.heap.size + 1 + 1, 3, none⟩ = some (.string { data := #[] }) := HZ1.out.cell 3; have z4 : w1.cell? ⟨w.heap.size + 1 + 1, 4, none⟩ = some (.int .i64 0) := HZ1.out.cell 4; have z5 : w1.cell? ⟨w.heap.size + 1 + 1, 5, none⟩ = some (.slice none 0 0) := HZ1.out.cell 5; have z6 : w1.cell? ⟨w.heap.size + 1 + 1, 6, none⟩ = some (.slice none 0 0) := HZ1.out.cell 6; have f0 : w1.frozen? ⟨w.heap.size + 1 + 1, 0, none⟩ = false := HZ1.out.free 0; have f1 : w1.frozen? ⟨w.heap.size + 1 + 1, 1, none⟩ = false := HZ1.out.free 1; have f2 : w1.frozen? ⟨w.heap.size + 1 + 1, 2, none⟩ = false := HZ1.out.free 2; have f3 : w1.frozen? ⟨w.heap.size + 1 + 1, 3, none⟩ = false := HZ1.out.free 3; have f4 : w1.frozen? ⟨w.heap.size + 1 + 1, 4, none⟩ = false := HZ1.out.free 4; have f5 : w1.frozen? ⟨w.heap.size + 1 + 1, 5, none⟩ = false := HZ1.out.free 5; have f6 : w1.frozen? ⟨w.heap.size + 1 + 1, 6, none⟩ = false := HZ1.out.free 6) | fail
  have HBf := hide (HZ1.out.put7 (.int .u8 0) (.bool false) (.slice none 0 0) (.string { data := #[] }) (.int .i64 0) (.slice none 0 0) (.slice none 0 0))
  have HKf := hide (HK1.out.set7 (g := w.heap.size + 1 + 1) (by omega) (.int .u8 0) (.bool false) (.slice none 0 0) (.string { data := #[] }) (.int .i64 0) (.slice none 0 0) (.slice none 0 0))
  clear z0 z1 z2 z3 z4 z5 z6 f0 f1 f2 f3 f4 f5 f6 HZ1 HK1
  generalize (((((((w1.setCell ⟨w.heap.size + 1 + 1, 0, none⟩ (.int .u8 0)).setCell ⟨w.heap.size + 1 + 1, 1, none⟩ (.bool false)).setCell ⟨w.heap.size + 1 + 1, 2, none⟩ (.slice none 0 0)).setCell ⟨w.heap.size + 1 + 1, 3, none⟩ (.string { data := #[] })).setCell ⟨w.heap.size + 1 + 1, 4, none⟩ (.int .i64 0)).setCell ⟨w.heap.size + 1 + 1, 5, none⟩ (.slice none 0 0)).setCell ⟨w.heap.size + 1 + 1, 6, none⟩ (.slice none 0 0)) = wf at *
  have d0 : wf.cell? ⟨w.heap.size + 1 + 1, 0, none⟩ = some (.int .u8 0) := HBf.out.cell 0
  have d1 : wf.cell? ⟨w.heap.size + 1 + 1, 1, none⟩ = some (.bool false) := HBf.out.cell 1
  have d2 : wf.cell? ⟨w.heap.size + 1 + 1, 2, none⟩ = some (.slice none 0 0) := HBf.out.cell 2
  have d3 : wf.cell? ⟨w.heap.size + 1 + 1, 3, none⟩ = some (.string { data := #[] }) := HBf.out.cell 3
  have d4 : wf.cell? ⟨w.heap.size + 1 + 1, 4, none⟩ = some (.int .i64 0) := HBf.out.cell 4
  have d5 : wf.cell? ⟨w.heap.size + 1 + 1, 5, none⟩ = some (.slice none 0 0) := HBf.out.cell 5
  have d6 : wf.cell? ⟨w.heap.size + 1 + 1, 6, none⟩ = some (.slice none 0 0) := HBf.out.cell 6
  refine bodyPost_ret (v := .tuple #[.agg #[.int .u8 0, .bool false, .slice none 0 0, .string { data := #[] }, .int .i64 0, .slice none 0 0, .slice none 0 0], .bool false]) (by simp [results, Try.results11, go_sem, d0, d1, d2, d3, d4, d5, d6]) rfl ?_
  exact ⟨rfl, HKf.out⟩
set_option maxHeartbeats 1000000 in
set_option maxRecDepth 100000 in
theorem times_bad2 {w : World} {B B' : Nat → Prop} {cs ds : Array Value} (ha : TermA w B true cs) (hb : TermA w B' false ds) : Calls Try.prog 11 #[.agg cs, .agg ds] w (NoP w) := by
  have HTA := hide ha
  obtain ⟨kd, ng, la, ln, lc, tx, nm, ia, im, ic, ta, tm, tc, l, rfl, hl, hi, ht, hr⟩ := ha
  clear hl hi ht hr
  have HTB := hide hb
  obtain ⟨kd', ng', la', ln', lc', tx', nm', ia', im', ic', ta', tm', tc', l', rfl, hl, hi, ht, hr⟩ := hb
  clear hl hi ht hr
  have M1 := hide True.intro
  go_enter Try.func11, Try.ntmps11
  have HY0 := hide ((Blk.new2' w (.cells #[.int .u8 kd, .bool ng, .slice la ln lc, .string tx, .int .i64 nm, .slice ia im ic, .slice ta tm tc] 26) 26 #[.int .u8 kd', .bool ng', .slice la' ln' lc', .string tx', .int .i64 nm', .slice ia' im' ic', .slice ta' tm' tc']).alloc (.cells #[.int .u8 0, .bool false, .slice none 0 0, .string { data := #[] }, .int .i64 0, .slice none 0 0, .slice none 0 0] 26))
  have HZ0 := hide (Blk.new3' w (.cells #[.int .u8 kd, .bool ng, .slice la ln lc, .string tx, .int .i64 nm, .slice ia im ic, .slice ta tm tc] 26) (.cells #[.int .u8 kd', .bool ng', .slice la' ln' lc', .string tx', .int .i64 nm', .slice ia' im' ic', .slice ta' tm' tc'] 26) 26 #[.int .u8 0, .bool false, .slice none 0 0, .string { data := #[] }, .int .i64 0, .slice none 0 0, .slice none 0 0])
  have HK0 := hide ((((Keeps.refl NoB w).alloc (.cells #[.int .u8 kd, .bool ng, .slice la ln lc, .string tx, .int .i64 nm, .slice ia im ic, .slice ta tm tc] 26)).alloc (.cells #[.int .u8 kd', .bool ng', .slice la' ln' lc', .string tx', .int .i64 nm', .slice ia' im' ic', .slice ta' tm' tc'] 26)).alloc (.cells #[.int .u8 0, .bool false, .slice none 0 0, .string { data := #[] }, .int .i64 0, .slice none 0 0, .slice none 0 0] 26))
  go_wp2_with first | (clear M1; go_at_call 24; refine (HTA.out.keep HK0.out).right.mono ?_; rintro e w1 ⟨rfl, hk1⟩; have HK1 := hide (HK0.out.trans' hk1 (fun _ _ => id) (fun _ _ => id)); have HY1 := hide (HY0.out.keep hk1 id); have HZ1 := hide (HZ0.out.keep hk1 id); clear hk1 HY0 HZ0 HK0; have y0 : w1.cell? ⟨w.heap.size + 1, 0, none⟩ = some (.int .u8 kd') := HY1.out.cell 0; have y1 : w1.cell? ⟨w.heap.size + 1, 1, none⟩ = some (.bool ng') := HY1.out.cell 1; have y2 : w1.cell? ⟨w.heap.size + 1, 2, none⟩ = some (.slice la' ln' lc') := HY1.out.cell 2; have y3 : w1.cell? ⟨w.heap.size + 1, 3, none⟩ = some (.string tx') := HY1.out.cell 3; have y4 : w1.cell? ⟨w.heap.size + 1, 4, none⟩ = some (.int .i64 nm') := HY1.out.cell 4; have y5 : w1.cell? ⟨w.heap.size + 1, 5, none⟩ = some (.slice ia' im' ic') := HY1.out.cell 5; have y6 : w1.cell? ⟨w.heap.size + 1, 6, none⟩ = some (.slice ta' tm' tc') := HY1.out.cell 6) | (go_at_call 24; refine (HTB.out.keep HK1.out).right.mono ?_; rintro e w2 ⟨rfl, hk2⟩; have HK2 := hide (HK1.out.trans' hk2 (fun _ _ => id) (fun _ _ => id)); have HZ2 := hide (HZ1.out.keep hk2 id); clear hk2 HY1 HZ1 HK1 y0 y1 y2 y3 y4 y5 y6; have z0 : w2.cell? ⟨w.heap.size + 1 + 1, 0, none⟩ = some (.int .u8 0) := HZ2.out.cell 0; have z1 : w2.cell? ⟨w.heap.size + 1 + 1, 1, none⟩ = some (.bool false) := HZ2.out.cell 1; have z2 : w2.cell? ⟨w.heap.size + 1 + 1, 2, none⟩ = some (.slice none 0 0) := HZ2.out.cell 2; have z3 : w2.cell? ⟨w.heap.size + 1 + 1, 3, none⟩ = some (.string { data := #[] }) := HZ2.out.cell 3; have z4 : w2.cell? ⟨w.heap.size + 1 + 1, 4, none⟩ = some (.int .i64 0) := HZ2.out.cell 4; have z5 : w2.cell? ⟨w.heap.size + 1 + 1, 5, none⟩ = some (.slice none 0 0) := HZ2.out.cell 5; have z6 : w2.cell? ⟨w.heap.size + 1 + 1, 6, none⟩ = some (.slice none 0 0) := HZ2.out.cell 6; have f0 : w2.frozen? ⟨w.heap.size + 1 + 1, 0, none⟩ = false := HZ2.out.free 0; have f1 : w2.frozen? ⟨w.heap.size + 1 + 1, 1, none⟩ = false := HZ2.out.free 1; have f2 : w2.frozen? ⟨w.heap.size + 1 + 1, 2, none⟩ = false := HZ2.out.free 2; have f3 : w2.frozen? ⟨w.heap.size + 1 + 1, 3, none⟩ = false := HZ2.out.free 3; have f4 : w2.frozen? ⟨w.heap.size + 1 + 1, 4, none⟩ = false := HZ2.out.free 4; have f5 : w2.frozen? ⟨w.heap.size + 1 + 1, 5, none⟩ = false := HZ2.out.free 5; have f6 : w2.frozen? ⟨w.heap.size + 1 + 1, 6, none⟩ = false := HZ2.out.free 6) | fail
  have HBf := hide (HZ2.out.put7 (.int .u8 0) (.bool false) (.slice none 0 0) (.string { data := #[] }) (.int .i64 0) (.slice none 0 0) (.slice none 0 0))
  have HKf := hide (HK2.out.set7 (g := w.heap.size + 1 + 1) (by omega) (.int .u8 0) (.bool false) (.slice none 0 0) (.string { data := #[] }) (.int .i64 0) (.slice none 0 0) (.slice none 0 0))
  clear z0 z1 z2 z3 z4 z5 z6 f0 f1 f2 f3 f4 f5 f6 HZ2 HK2
  generalize (((((((w2.setCell ⟨w.heap.size + 1 + 1, 0, none⟩ (.int .u8 0)).setCell ⟨w.heap.size + 1 + 1, 1, none⟩ (.bool false)).setCell ⟨w.heap.size + 1 + 1, 2, none⟩ (.slice none 0 0)).setCell ⟨w.heap.size + 1 + 1, 3, none⟩ (.string { data := #[] })).setCell ⟨w.heap.size + 1 + 1, 4, none⟩ (.int .i64 0)).setCell ⟨w.heap.size + 1 + 1, 5, none⟩ (.slice none 0 0)).setCell ⟨w.heap.size + 1 + 1, 6, none⟩ (.slice none 0 0)) = wf at *
  have d0 : wf.cell? ⟨w.heap.size + 1 + 1, 0, none⟩ = some (.int .u8 0) := HBf.out.cell 0
  have d1 : wf.cell? ⟨w.heap.size + 1 + 1, 1, none⟩ = some (.bool false) := HBf.out.cell 1
  have d2 : wf.cell? ⟨w.heap.size + 1 + 1, 2, none⟩ = some (.slice none 0 0) := HBf.out.cell 2
  have d3 : wf.cell? ⟨w.heap.size + 1 + 1, 3, none⟩ = some (.string { data := #[] }) := HBf.out.cell 3
  have d4 : wf.cell? ⟨w.heap.size + 1 + 1, 4, none⟩ = some (.int .i64 0) := HBf.out.cell 4
  have d5 : wf.cell? ⟨w.heap.size + 1 + 1, 5, none⟩ = some (.slice none 0 0) := HBf.out.cell 5
  have d6 : wf.cell? ⟨w.heap.size + 1 + 1, 6, none⟩ = some (.slice none 0 0) := HBf.out.cell 6
  refine bodyPost_ret (v := .tuple #[.agg #[.int .u8 0, .bool false, .slice none 0 0, .string { data := #[] }, .int .i64 0, .slice none 0 0, .slice none 0 0], .bool false]) (by simp [results, Try.results11, go_sem, d0, d1, d2, d3, d4, d5, d6]) rfl ?_
  exact ⟨rfl, HKf.out⟩
set_option maxHeartbeats 1000000 in
set_option maxRecDepth 100000 in
theorem add_bad1 {w : World} {B B' : Nat → Prop} {r : Bool} {cs ds : Array Value} (ha : TermA w B false cs) (hb : TermA w B' r ds) : Calls Try.prog 25 #[.agg cs, .agg ds] w (NoP w) := by
  have HTA := hide ha
  obtain ⟨kd, ng, la, ln, lc, tx, nm, ia, im, ic, ta, tm, tc, l, rfl, hl, hi, ht, hr⟩ := ha
  clear hl hi ht hr
  have HTB := hide hb
  obtain ⟨kd', ng', la', ln', lc', tx', nm', ia', im', ic', ta', tm', tc', l', rfl, hl, hi, ht, hr⟩ := hb
  clear hl hi ht hr
  go_enter Try.func25, Try.ntmps25
  have HY0 := hide ((Blk.new2' w (.cells #[.int .u8 kd, .bool ng, .slice la ln lc, .string tx, .int .i64 nm, .slice ia im ic, .slice ta tm tc] 26) 26 #[.int .u8 kd', .bool ng', .slice la' ln' lc', .string tx', .int .i64 nm', .slice ia' im' ic', .slice ta' tm' tc']).alloc (.cells #[.int .u8 0, .bool false, .slice none 0 0, .string { data := #[] }, .int .i64 0, .slice none 0 0, .slice none 0 0] 26))
  have HZ0 := hide (Blk.new3' w (.cells #[.int .u8 kd, .bool ng, .slice la ln lc, .string tx, .int .i64 nm, .slice ia im ic, .slice ta tm tc] 26) (.cells #[.int .u8 kd', .bool ng', .slice la' ln' lc', .string tx', .int .i64 nm', .slice ia' im' ic', .slice ta' tm' tc'] 26) 26 #[.int .u8 0, .bool false, .slice none 0 0, .string { data := #[] }, .int .i64 0, .slice none 0 0, .slice none 0 0])
  have HK0 := hide ((((Keeps.refl NoB w).alloc (.cells #[.int .u8 kd, .bool ng, .slice la ln lc, .string tx, .int .i64 nm, .slice ia im ic, .slice ta tm tc] 26)).alloc (.cells #[.int .u8 kd', .bool ng', .slice la' ln' lc', .string tx', .int .i64 nm', .slice ia' im' ic', .slice ta' tm' tc'] 26)).alloc (.cells #[.int .u8 0, .bool false, .slice none 0 0, .string { data := #[] }, .int .i64 0, .slice none 0 0, .slice none 0 0] 26))
  go_wp2_with first | (go_at_call 24; refine (HTA.out.keep HK0.out).right.mono ?_; rintro e w1 ⟨rfl, hk1⟩; have HK1 := hide (HK0.out.trans' hk1 (fun _ _ => id) (fun _ _ => id)); have HZ1 := hide (HZ0.out.keep hk1 id); clear hk1 HY0 HZ0 HK0; have z0 : w1.cell? ⟨w.heap.size + 1 + 1, 0, none⟩ = some (.int .u8 0) := HZ1.out.cell 0; have z1 : w1.cell? ⟨w.heap.size + 1 + 1, 1, none⟩ = some (.bool false) := HZ1.out.cell 1; have z2 : w1.cell? ⟨w.heap.size + 1 + 1, 2, none⟩ = some (.slice none 0 0) := HZ1.out.cell 2; have z3 : w1.cell? ⟨w.heap.size + 1 + 1, 3, none⟩ = some (.string { data := #[] }) := HZ1.out.cell 3; have z4 : w1.cell? ⟨w.heap.size + 1 + 1, 4, none⟩ = some (.int .i64 0) := HZ1.out.cell 4; have z5 : w1.cell? ⟨w.heap.size + 1 + 1, 5, none⟩ = some (.slice none 0 0) := HZ1.out.cell 5; have z6 : w1.cell? ⟨w.heap.size + 1 + 1, 6, none⟩ = some (.slice none 0 0) := HZ1.out.cell 6; have f0 : w1.frozen? ⟨w.heap.size + 1 + 1, 0, none⟩ = false := HZ1.out.free 0; have f1 : w1.frozen? ⟨w.heap.size + 1 + 1, 1, none⟩ = false := HZ1.out.free 1; have f2 : w1.frozen? ⟨w.heap.size + 1 + 1, 2, none⟩ = false := HZ1.out.free 2; have f3 : w1.frozen? ⟨w.heap.size + 1 + 1, 3, none⟩ = false := HZ1.out.free 3; have f4 : w1.frozen? ⟨w.heap.size + 1 + 1, 4, none⟩ = false := HZ1.out.free 4; have f5 : w1.frozen? ⟨w.heap.size + 1 + 1, 5, none⟩ = false := HZ1.out.free 5; have f6 : w1.frozen? ⟨w.heap.size + 1 + 1, 6, none⟩ = false := HZ1.out.free 6) | fail
  have HBf := hide (HZ1.out.put7 (.int .u8 0) (.bool false) (.slice none 0 0) (.string { data := #[] }) (.int .i64 0) (.slice none 0 0) (.slice none 0 0))
  have HKf := hide (HK1.out.set7 (g := w.heap.size + 1 + 1) (by omega) (.int .u8 0) (.bool false) (.slice none 0 0) (.string { data := #[] }) (.int .i64 0) (.slice none 0 0) (.slice none 0 0))
  clear z0 z1 z2 z3 z4 z5 z6 f0 f1 f2 f3 f4 f5 f6 HZ1 HK1
  generalize (((((((w1.setCell ⟨w.heap.size + 1 + 1, 0, none⟩ (.int .u8 0)).setCell ⟨w.heap.size + 1 + 1, 1, none⟩ (.bool false)).setCell ⟨w.heap.size + 1 + 1, 2, none⟩ (.slice none 0 0)).setCell ⟨w.heap.size + 1 + 1, 3, none⟩ (.string { data := #[] })).setCell ⟨w.heap.size + 1 + 1, 4, none⟩ (.int .i64 0)).setCell ⟨w.heap.size + 1 + 1, 5, none⟩ (.slice none 0 0)).setCell ⟨w.heap.size + 1 + 1, 6, none⟩ (.slice none 0 0)) = wf at *
  have d0 : wf.cell? ⟨w.heap.size + 1 + 1, 0, none⟩ = some (.int .u8 0) := HBf.out.cell 0
  have d1 : wf.cell? ⟨w.heap.size + 1 + 1, 1, none⟩ = some (.bool false) := HBf.out.cell 1
  have d2 : wf.cell? ⟨w.heap.size + 1 + 1, 2, none⟩ = some (.slice none 0 0) := HBf.out.cell 2
  have d3 : wf.cell? ⟨w.heap.size + 1 + 1, 3, none⟩ = some (.string { data := #[] }) := HBf.out.cell 3
  have d4 : wf.cell? ⟨w.heap.size + 1 + 1, 4, none⟩ = some (.int .i64 0) := HBf.out.cell 4
  have d5 : wf.cell? ⟨w.heap.size + 1 + 1, 5, none⟩ = some (.slice none 0 0) := HBf.out.cell 5
  have d6 : wf.cell? ⟨w.heap.size + 1 + 1, 6, none⟩ = some (.slice none 0 0) := HBf.out.cell 6
  refine bodyPost_ret (v := .tuple #[.agg #[.int .u8 0, .bool false, .slice none 0 0, .string { data := #[] }, .int .i64 0, .slice none 0 0, .slice none 0 0], .bool false]) (by simp [results, Try.results25, go_sem, d0, d1, d2, d3, d4, d5, d6]) rfl ?_
  exact ⟨rfl, HKf.out⟩
set_option maxHeartbeats 1000000 in
set_option maxRecDepth 100000 in
theorem add_bad2 {w : World} {B B' : Nat → Prop} {cs ds : Array Value} (ha : TermA w B true cs) (hb : TermA w B' false ds) : Calls Try.prog 25 #[.agg cs, .agg ds] w (NoP w) := by
  have HTA := hide ha
  obtain ⟨kd, ng, la, ln, lc, tx, nm, ia, im, ic, ta, tm, tc, l, rfl, hl, hi, ht, hr⟩ := ha
  clear hl hi ht hr
  have HTB := hide hb
  obtain ⟨kd', ng', la', ln', lc', tx', nm', ia', im', ic', ta', tm', tc', l', rfl, hl, hi, ht, hr⟩ := hb
  clear hl hi ht hr
  have M1 := hide True.intro
  go_enter Try.func25, Try.ntmps25
  have HY0 := hide ((Blk.new2' w (.cells #[.int .u8 kd, .bool ng, .slice la ln lc, .string tx, .int .i64 nm, .slice ia im ic, .slice ta tm tc] 26) 26 #[.int .u8 kd', .bool ng', .slice la' ln' lc', .string tx', .int .i64 nm', .slice ia' im' ic', .slice ta' tm' tc']).alloc (.cells #[.int .u8 0, .bool false, .slice none 0 0, .string { data := #[] }, .int .i64 0, .slice none 0 0, .slice none 0 0] 26))
  have HZ0 := hide (Blk.new3' w (.cells #[.int .u8 kd, .bool ng, .slice la ln lc, .string tx, .int .i64 nm, .slice ia im ic, .slice ta tm tc] 26) (.cells #[.int .u8 kd', .bool ng', .slice la' ln' lc', .string tx', .int .i64 nm', .slice ia' im' ic', .slice ta' tm' tc'] 26) 26 #[.int .u8 0, .bool false, .slice none 0 0, .string { data := #[] }, .int .i64 0, .slice none 0 0, .slice none 0 0])
  have HK0 := hide ((((Keeps.refl NoB w).alloc (.cells #[.int .u8 kd, .bool ng, .slice la ln lc, .string tx, .int .i64 nm, .slice ia im ic, .slice ta tm tc] 26)).alloc (.cells #[.int .u8 kd', .bool ng', .slice la' ln' lc', .string tx', .int .i64 nm', .slice ia' im' ic', .slice ta' tm' tc'] 26)).alloc (.cells #[.int .u8 0, .bool false, .slice none 0 0, .string { data := #[] }, .int .i64 0, .slice none 0 0, .slice none 0 0] 26))
  go_wp2_with first | (clear M1; go_at_call 24; refine (HTA.out.keep HK0.out).right.mono ?_; rintro e w1 ⟨rfl, hk1⟩; have HK1 := hide (HK0.out.trans' hk1 (fun _ _ => id) (fun _ _ => id)); have HY1 := hide (HY0.out.keep hk1 id); have HZ1 := hide (HZ0.out.keep hk1 id); clear hk1 HY0 HZ0 HK0; have y0 : w1.cell? ⟨w.heap.size + 1, 0, none⟩ = some (.int .u8 kd') := HY1.out.cell 0; have y1 : w1.cell? ⟨w.heap.size + 1, 1, none⟩ = some (.bool ng') := HY1.out.cell 1; have y2 : w1.cell? ⟨w.heap.size + 1, 2, none⟩ = some (.slice la' ln' lc') := HY1.out.cell 2; have y3 : w1.cell? ⟨w.heap.size + 1, 3, none⟩ = some (.string tx') := HY1.out.cell 3; have y4 : w1.cell? ⟨w.heap.size + 1, 4, none⟩ = some (.int .i64 nm') := HY1.out.cell 4; have y5 : w1.cell? ⟨w.heap.size + 1, 5, none⟩ = some (.slice ia' im' ic') := HY1.out.cell 5; have y6 : w1.cell? ⟨w.heap.size + 1, 6, none⟩ = some (.slice ta' tm' tc') := HY1.out.cell 6) | (go_at_call 24; refine (HTB.out.keep HK1.out).right.mono ?_; rintro e w2 ⟨rfl, hk2⟩; have HK2 := hide (HK1.out.trans' hk2 (fun _ _ => id) (fun _ _ => id)); have HZ2 := hide (HZ1.out.keep hk2 id); clear hk2 HY1 HZ1 HK1 y0 y1 y2 y3 y4 y5 y6; have z0 : w2.cell? ⟨w.heap.size + 1 + 1, 0, none⟩ = some (.int .u8 0) := HZ2.out.cell 0; have z1 : w2.cell? ⟨w.heap.size + 1 + 1, 1, none⟩ = some (.bool false) := HZ2.out.cell 1; have z2 : w2.cell? ⟨w.heap.size + 1 + 1, 2, none⟩ = some (.slice none 0 0) := HZ2.out.cell 2; have z3 : w2.cell? ⟨w.heap.size + 1 + 1, 3, none⟩ = some (.string { data := #[] }) := HZ2.out.cell 3; have z4 : w2.cell? ⟨w.heap.size + 1 + 1, 4, none⟩ = some (.int .i64 0) := HZ2.out.cell 4; have z5 : w2.cell? ⟨w.heap.size + 1 + 1, 5, none⟩ = some (.slice none 0 0) := HZ2.out.cell 5; have z6 : w2.cell? ⟨w.heap.size + 1 + 1, 6, none⟩ = some (.slice none 0 0) := HZ2.out.cell 6; have f0 : w2.frozen? ⟨w.heap.size + 1 + 1, 0, none⟩ = false := HZ2.out.free 0; have f1 : w2.frozen? ⟨w.heap.size + 1 + 1, 1, none⟩ = false := HZ2.out.free 1; have f2 : w2.frozen? ⟨w.heap.size + 1 + 1, 2, none⟩ = false := HZ2.out.free 2; have f3 : w2.frozen? ⟨w.heap.size + 1 + 1, 3, none⟩ = false := HZ2.out.free 3; have f4 : w2.frozen? ⟨w.heap.size + 1 + 1, 4, none⟩ = false := HZ2.out.free 4; have f5 : w2.frozen? ⟨w.heap.size + 1 + 1, 5, none⟩ = false := HZ2.out.free 5; have f6 : w2.frozen? ⟨w.heap.size + 1 + 1, 6, none⟩ = false := HZ2.out.free 6) | fail
  have HBf := hide (HZ2.out.put7 (.int .u8 0) (.bool false) (.slice none 0 0) (.string { data := #[] }) (.int .i64 0) (.slice none 0 0) (.slice none 0 0))
  have HKf := hide (HK2.out.set7 (g := w.heap.size + 1 + 1) (by omega) (.int .u8 0) (.bool false) (.slice none 0 0) (.string { data := #[] }) (.int .i64 0) (.slice none 0 0) (.slice none 0 0))
  clear z0 z1 z2 z3 z4 z5 z6 f0 f1 f2 f3 f4 f5 f6 HZ2 HK2
  generalize (((((((w2.setCell ⟨w.heap.size + 1 + 1, 0, none⟩ (.int .u8 0)).setCell ⟨w.heap.size + 1 + 1, 1, none⟩ (.bool false)).setCell ⟨w.heap.size + 1 + 1, 2, none⟩ (.slice none 0 0)).setCell ⟨w.heap.size + 1 + 1, 3, none⟩ (.string { data := #[] })).setCell ⟨w.heap.size + 1 + 1, 4, none⟩ (.int .i64 0)).setCell ⟨w.heap.size + 1 + 1, 5, none⟩ (.slice none 0 0)).setCell ⟨w.heap.size + 1 + 1, 6, none⟩ (.slice none 0 0)) = wf at *
  have d0 : wf.cell? ⟨w.heap.size + 1 + 1, 0, none⟩ = some (.int .u8 0) := HBf.out.cell 0
  have d1 : wf.cell? ⟨w.heap.size + 1 + 1, 1, none⟩ = some (.bool false) := HBf.out.cell 1
  have d2 : wf.cell? ⟨w.heap.size + 1 + 1, 2, none⟩ = some (.slice none 0 0) := HBf.out.cell 2
  have d3 : wf.cell? ⟨w.heap.size + 1 + 1, 3, none⟩ = some (.string { data := #[] }) := HBf.out.cell 3
  have d4 : wf.cell? ⟨w.heap.size + 1 + 1, 4, none⟩ = some (.int .i64 0) := HBf.out.cell 4
  have d5 : wf.cell? ⟨w.heap.size + 1 + 1, 5, none⟩ = some (.slice none 0 0) := HBf.out.cell 5
  have d6 : wf.cell? ⟨w.heap.size + 1 + 1, 6, none⟩ = some (.slice none 0 0) := HBf.out.cell 6
  refine bodyPost_ret (v := .tuple #[.agg #[.int .u8 0, .bool false, .slice none 0 0, .string { data := #[] }, .int .i64 0, .slice none 0 0, .slice none 0 0], .bool false]) (by simp [results, Try.results25, go_sem, d0, d1, d2, d3, d4, d5, d6]) rfl ?_
  exact ⟨rfl, HKf.out⟩
end Go.Proofs.Ytfehciiidmgopaa
