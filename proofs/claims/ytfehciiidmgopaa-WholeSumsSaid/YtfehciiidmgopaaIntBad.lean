/- What Int, Compare, Sub tell of what is no integer (both sides). -/
import Derived.Test.YtfehciiidmgopaaRAdd
import Derived.Test.YtfehciiidmgopaaInt
import Derived.Test.YtfehciiidmgopaaCompare
namespace Go.Proofs.Ytfehciiidmgopaa
open Go.RowKit


set_option maxRecDepth 100000 in
theorem int_bad {w : World} {B : Nat → Prop} {cs : Array Value} (ha : TermA w B false cs) : Calls Try.prog 22 #[.agg cs] w fun e w' => e = .returned (.tuple #[.int .i64 0, .bool false]) ∧ Keeps NoB w w' := by
  have HTA := hide ha
  obtain ⟨kd, ng, la, ln, lc, tx, nm, ia, im, ic, ta, tm, tc, l, rfl, hl, hi, ht, hr⟩ := ha
  clear hl hi ht hr
  have HR := hide ((HTA.out.keep ((Keeps.refl NoB w).alloc (.cells #[.int .u8 kd, .bool ng, .slice la ln lc, .string tx, .int .i64 nm, .slice ia im ic, .slice ta tm tc] 26))).right)
  have HK0 := hide ((Keeps.refl NoB w).alloc (.cells #[.int .u8 kd, .bool ng, .slice la ln lc, .string tx, .int .i64 nm, .slice ia im ic, .slice ta tm tc] 26))
  go_enter Try.func22, Try.ntmps22
  go_wp2_with (go_at_call 24; refine HR.out.mono ?_; rintro e w1 ⟨rfl, hk1⟩)
  go_ret2
  exact ⟨rfl, HK0.out.trans' hk1 (fun _ _ h => h) (fun _ _ h => h)⟩
set_option maxRecDepth 100000 in
theorem rint_bad {w : World} {B : Nat → Prop} {cs : Array Value} (ha : TermA w B false cs) : Calls Try.prog 31 #[.agg cs] w fun e w' => e = .returned (.tuple #[.int .i64 0, .bool false]) ∧ Keeps NoB w w' := by
  have HTA := hide ha
  obtain ⟨kd, ng, la, ln, lc, tx, nm, ia, im, ic, ta, tm, tc, l, rfl, hl, hi, ht, hr⟩ := ha
  clear hl hi ht hr
  have HR := hide ((HTA.out.keep ((Keeps.refl NoB w).alloc (.cells #[.int .u8 kd, .bool ng, .slice la ln lc, .string tx, .int .i64 nm, .slice ia im ic, .slice ta tm tc] 26))).rright)
  have HK0 := hide ((Keeps.refl NoB w).alloc (.cells #[.int .u8 kd, .bool ng, .slice la ln lc, .string tx, .int .i64 nm, .slice ia im ic, .slice ta tm tc] 26))
  go_enter Try.func31, Try.ntmps31
  go_wp2_with (go_at_call 33; refine HR.out.mono ?_; rintro e w1 ⟨rfl, hk1⟩)
  go_ret2
  exact ⟨rfl, HK0.out.trans' hk1 (fun _ _ h => h) (fun _ _ h => h)⟩
set_option maxRecDepth 100000 in
theorem compare_bad1 {w : World} {B B' : Nat → Prop} {r : Bool} {cs ds : Array Value} (ha : TermA w B false cs) (hb : TermA w B' r ds) : Calls Try.prog 23 #[.agg cs, .agg ds] w fun e w' => e = .returned (.int .i64 0) ∧ Keeps NoB w w' := by
  have HTA := hide ha
  obtain ⟨kd, ng, la, ln, lc, tx, nm, ia, im, ic, ta, tm, tc, l, rfl, hl, hi, ht, hr⟩ := ha
  clear hl hi ht hr
  have HTB := hide hb
  obtain ⟨kd', ng', la', ln', lc', tx', nm', ia', im', ic', ta', tm', tc', l', rfl, hl, hi, ht, hr⟩ := hb
  clear hl hi ht hr
  have HK0 := hide (((Keeps.refl NoB w).alloc (.cells #[.int .u8 kd, .bool ng, .slice la ln lc, .string tx, .int .i64 nm, .slice ia im ic, .slice ta tm tc] 26)).alloc (.cells #[.int .u8 kd', .bool ng', .slice la' ln' lc', .string tx', .int .i64 nm', .slice ia' im' ic', .slice ta' tm' tc'] 26))
  go_enter Try.func23, Try.ntmps23
  go_wp2_with (go_at_call 24; refine (HTA.out.keep HK0.out).right.mono ?_; rintro e w1 ⟨rfl, hk1⟩)
  go_ret
  exact ⟨rfl, HK0.out.trans' hk1 (fun _ _ h => h) (fun _ _ h => h)⟩
set_option maxRecDepth 100000 in
theorem compare_bad2 {w : World} {B B' : Nat → Prop} {cs ds : Array Value} (ha : TermA w B true cs) (hb : TermA w B' false ds) : Calls Try.prog 23 #[.agg cs, .agg ds] w fun e w' => e = .returned (.int .i64 0) ∧ Keeps NoB w w' := by
  have HTA := hide ha
  obtain ⟨kd, ng, la, ln, lc, tx, nm, ia, im, ic, ta, tm, tc, l, rfl, hl, hi, ht, hr⟩ := ha
  clear hl hi ht hr
  have HTB := hide hb
  obtain ⟨kd', ng', la', ln', lc', tx', nm', ia', im', ic', ta', tm', tc', l', rfl, hl, hi, ht, hr⟩ := hb
  clear hl hi ht hr
  have M1 := hide True.intro
  have HK0 := hide (((Keeps.refl NoB w).alloc (.cells #[.int .u8 kd, .bool ng, .slice la ln lc, .string tx, .int .i64 nm, .slice ia im ic, .slice ta tm tc] 26)).alloc (.cells #[.int .u8 kd', .bool ng', .slice la' ln' lc', .string tx', .int .i64 nm', .slice ia' im' ic', .slice ta' tm' tc'] 26))
  have HY0 := hide (Blk.new2' w (.cells #[.int .u8 kd, .bool ng, .slice la ln lc, .string tx, .int .i64 nm, .slice ia im ic, .slice ta tm tc] 26) 26 #[.int .u8 kd', .bool ng', .slice la' ln' lc', .string tx', .int .i64 nm', .slice ia' im' ic', .slice ta' tm' tc'])
  go_enter Try.func23, Try.ntmps23
  go_wp2_with first | (clear M1; go_at_call 24; refine (HTA.out.keep HK0.out).right.mono ?_; rintro e w1 ⟨rfl, hk1⟩; have HK1 := hide (HK0.out.trans' hk1 (fun _ _ h => h) (fun _ _ h => h)); have HY1 := hide (HY0.out.keep hk1 id); clear hk1 HY0 HK0; have y0 : w1.cell? ⟨w.heap.size + 1, 0, none⟩ = some (.int .u8 kd') := HY1.out.cell 0; have y1 : w1.cell? ⟨w.heap.size + 1, 1, none⟩ = some (.bool ng') := HY1.out.cell 1; have y2 : w1.cell? ⟨w.heap.size + 1, 2, none⟩ = some (.slice la' ln' lc') := HY1.out.cell 2; have y3 : w1.cell? ⟨w.heap.size + 1, 3, none⟩ = some (.string tx') := HY1.out.cell 3; have y4 : w1.cell? ⟨w.heap.size + 1, 4, none⟩ = some (.int .i64 nm') := HY1.out.cell 4; have y5 : w1.cell? ⟨w.heap.size + 1, 5, none⟩ = some (.slice ia' im' ic') := HY1.out.cell 5; have y6 : w1.cell? ⟨w.heap.size + 1, 6, none⟩ = some (.slice ta' tm' tc') := HY1.out.cell 6) | (go_at_call 24; refine (HTB.out.keep HK1.out).right.mono ?_; rintro e w2 ⟨rfl, hk2⟩; have HK2 := hide (HK1.out.trans' hk2 (fun _ _ h => h) (fun _ _ h => h))) | fail
  go_ret
  exact ⟨rfl, HK2.out⟩
set_option maxRecDepth 100000 in
theorem rcompare_bad1 {w : World} {B B' : Nat → Prop} {r : Bool} {cs ds : Array Value} (ha : TermA w B false cs) (hb : TermA w B' r ds) : Calls Try.prog 32 #[.agg cs, .agg ds] w fun e w' => e = .returned (.int .i64 0) ∧ Keeps NoB w w' := by
  have HTA := hide ha
  obtain ⟨kd, ng, la, ln, lc, tx, nm, ia, im, ic, ta, tm, tc, l, rfl, hl, hi, ht, hr⟩ := ha
  clear hl hi ht hr
  have HTB := hide hb
  obtain ⟨kd', ng', la', ln', lc', tx', nm', ia', im', ic', ta', tm', tc', l', rfl, hl, hi, ht, hr⟩ := hb
  clear hl hi ht hr
  have HK0 := hide (((Keeps.refl NoB w).alloc (.cells #[.int .u8 kd, .bool ng, .slice la ln lc, .string tx, .int .i64 nm, .slice ia im ic, .slice ta tm tc] 26)).alloc (.cells #[.int .u8 kd', .bool ng', .slice la' ln' lc', .string tx', .int .i64 nm', .slice ia' im' ic', .slice ta' tm' tc'] 26))
  go_enter Try.func32, Try.ntmps32
  go_wp2_with (go_at_call 33; refine (HTA.out.keep HK0.out).rright.mono ?_; rintro e w1 ⟨rfl, hk1⟩)
  go_ret
  exact ⟨rfl, HK0.out.trans' hk1 (fun _ _ h => h) (fun _ _ h => h)⟩
set_option maxRecDepth 100000 in
theorem rcompare_bad2 {w : World} {B B' : Nat → Prop} {cs ds : Array Value} (ha : TermA w B true cs) (hb : TermA w B' false ds) : Calls Try.prog 32 #[.agg cs, .agg ds] w fun e w' => e = .returned (.int .i64 0) ∧ Keeps NoB w w' := by
  have HTA := hide ha
  obtain ⟨kd, ng, la, ln, lc, tx, nm, ia, im, ic, ta, tm, tc, l, rfl, hl, hi, ht, hr⟩ := ha
  clear hl hi ht hr
  have HTB := hide hb
  obtain ⟨kd', ng', la', ln', lc', tx', nm', ia', im', ic', ta', tm', tc', l', rfl, hl, hi, ht, hr⟩ := hb
  clear hl hi ht hr
  have M1 := hide True.intro
  have HK0 := hide (((Keeps.refl NoB w).alloc (.cells #[.int .u8 kd, .bool ng, .slice la ln lc, .string tx, .int .i64 nm, .slice ia im ic, .slice ta tm tc] 26)).alloc (.cells #[.int .u8 kd', .bool ng', .slice la' ln' lc', .string tx', .int .i64 nm', .slice ia' im' ic', .slice ta' tm' tc'] 26))
  have HY0 := hide (Blk.new2' w (.cells #[.int .u8 kd, .bool ng, .slice la ln lc, .string tx, .int .i64 nm, .slice ia im ic, .slice ta tm tc] 26) 26 #[.int .u8 kd', .bool ng', .slice la' ln' lc', .string tx', .int .i64 nm', .slice ia' im' ic', .slice ta' tm' tc'])
  go_enter Try.func32, Try.ntmps32
  go_wp2_with first | (clear M1; go_at_call 33; refine (HTA.out.keep HK0.out).rright.mono ?_; rintro e w1 ⟨rfl, hk1⟩; have HK1 := hide (HK0.out.trans' hk1 (fun _ _ h => h) (fun _ _ h => h)); have HY1 := hide (HY0.out.keep hk1 id); clear hk1 HY0 HK0; have y0 : w1.cell? ⟨w.heap.size + 1, 0, none⟩ = some (.int .u8 kd') := HY1.out.cell 0; have y1 : w1.cell? ⟨w.heap.size + 1, 1, none⟩ = some (.bool ng') := HY1.out.cell 1; have y2 : w1.cell? ⟨w.heap.size + 1, 2, none⟩ = some (.slice la' ln' lc') := HY1.out.cell 2; have y3 : w1.cell? ⟨w.heap.size + 1, 3, none⟩ = some (.string tx') := HY1.out.cell 3; have y4 : w1.cell? ⟨w.heap.size + 1, 4, none⟩ = some (.int .i64 nm') := HY1.out.cell 4; have y5 : w1.cell? ⟨w.heap.size + 1, 5, none⟩ = some (.slice ia' im' ic') := HY1.out.cell 5; have y6 : w1.cell? ⟨w.heap.size + 1, 6, none⟩ = some (.slice ta' tm' tc') := HY1.out.cell 6) | (go_at_call 33; refine (HTB.out.keep HK1.out).rright.mono ?_; rintro e w2 ⟨rfl, hk2⟩; have HK2 := hide (HK1.out.trans' hk2 (fun _ _ h => h) (fun _ _ h => h))) | fail
  go_ret
  exact ⟨rfl, HK2.out⟩
set_option maxRecDepth 100000 in
theorem sub_bad2 {w : World} {B B' : Nat → Prop} {r : Bool} {cs ds : Array Value} (ha : TermA w B r cs) (hb : TermA w B' false ds) : Calls Try.prog 27 #[.agg cs, .agg ds] w (NoP w) := by
  have HTA := hide ha
  obtain ⟨kd, ng, la, ln, lc, tx, nm, ia, im, ic, ta, tm, tc, l, rfl, hl, hi, ht, hr⟩ := ha
  clear hl hi ht hr
  have HTB := hide hb
  obtain ⟨kd', ng', la', ln', lc', tx', nm', ia', im', ic', ta', tm', tc', l', rfl, hl, hi, ht, hr⟩ := hb
  clear hl hi ht hr
  go_enter Try.func27, Try.ntmps27
  have HY0 := hide ((Blk.new2' w (.cells #[.int .u8 kd, .bool ng, .slice la ln lc, .string tx, .int .i64 nm, .slice ia im ic, .slice ta tm tc] 26) 26 #[.int .u8 kd', .bool ng', .slice la' ln' lc', .string tx', .int .i64 nm', .slice ia' im' ic', .slice ta' tm' tc']).alloc (.cells #[.int .u8 0, .bool false, .slice none 0 0, .string { data := #[] }, .int .i64 0, .slice none 0 0, .slice none 0 0] 26))
  have HZ0 := hide (Blk.new3' w (.cells #[.int .u8 kd, .bool ng, .slice la ln lc, .string tx, .int .i64 nm, .slice ia im ic, .slice ta tm tc] 26) (.cells #[.int .u8 kd', .bool ng', .slice la' ln' lc', .string tx', .int .i64 nm', .slice ia' im' ic', .slice ta' tm' tc'] 26) 26 #[.int .u8 0, .bool false, .slice none 0 0, .string { data := #[] }, .int .i64 0, .slice none 0 0, .slice none 0 0])
  have HK0 := hide ((((Keeps.refl NoB w).alloc (.cells #[.int .u8 kd, .bool ng, .slice la ln lc, .string tx, .int .i64 nm, .slice ia im ic, .slice ta tm tc] 26)).alloc (.cells #[.int .u8 kd', .bool ng', .slice la' ln' lc', .string tx', .int .i64 nm', .slice ia' im' ic', .slice ta' tm' tc'] 26)).alloc (.cells #[.int .u8 0, .bool false, .slice none 0 0, .string { data := #[] }, .int .i64 0, .slice none 0 0, .slice none 0 0] 26))
  go_wp2_with first | (go_at_call 24; refine (HTB.out.keep HK0.out).right.mono ?_; rintro e w1 ⟨rfl, hk1⟩; have HK1 := hide (HK0.out.trans' hk1 (fun _ _ => id) (fun _ _ => id)); have HZ1 := hide (HZ0.out.keep hk1 id); clear hk1 HY0 HZ0 HK0; have z0 : w1.cell? ⟨w.heap.size + 1 + 1, 0, none⟩ = some (.int .u8 0) := HZ1.out.cell 0; have z1 : w1.cell? ⟨w.heap.size + 1 + 1, 1, none⟩ = some (.bool false) := HZ1.out.cell 1; have z2 : w1.cell? ⟨w.heap.size + 1 + 1, 2, none⟩ = some (.slice none 0 0) := HZ1.out.cell 2; have z3 : w1.cell? ⟨w.heap.size + 1 + 1, 3, none⟩ = some (.string { data := #[] }) := HZ1.out.cell 3; have z4 : w1.cell? ⟨w.heap.size + 1 + 1, 4, none⟩ = some (.int .i64 0) := HZ1.out.cell 4; have z5 : w1.cell? ⟨w.heap.size + 1 + 1, 5, none⟩ = some (.slice none 0 0) := HZ1.out.cell 5; have z6 : w1.cell? ⟨w.heap.size + 1 + 1, 6, none⟩ = some (.slice none 0 0) := HZ1.out.cell 6; have f0 : w1.frozen? ⟨w.heap.size + 1 + 1, 0, none⟩ = false := HZ1.out.free 0; have f1 : w1.frozen? ⟨w.heap.size + 1 + 1, 1, none⟩ = false := HZ1.out.free 1; have f2 : w1.frozen? ⟨w.heap.size + 1 + 1, 2, none⟩ = false := HZ1.out.free 2; have f3 : w1.frozen? ⟨w.heap.size + 1 + 1, 3, none⟩ = false := HZ1.out.free 3; have f4 : w1.frozen? ⟨w.heap.size + 1 + 1, 4, none⟩ = false := HZ1.out.free 4; have f5 : w1.frozen? ⟨w.heap.size + 1 + 1, 5, none⟩ = false := HZ1.out.free 5; have f6 : w1.frozen? ⟨w.heap.size + 1 + 1, 6, none⟩ = false := HZ1.out.free 6) | fail
  have HBf := hide (HZ1.out.put7 (.int .u8 0) (.bool false) (.slice none 0 0) (.string { data := #[] }) (.int .i64 0) (.slice none 0 0) (.slice none 0 0))
  have HKf := hide (HK1.out.set7 (g := w.heap.size + 1 + 1) (by omega) (.int .u8 0) (.bool false) (.slice none 0 0) (.string { data := #[] }) (.int .i64 0) (.slice none 0 0) (.slice none 0 0))
  clear z0 z1 z2 z3 z4 z5 z6 f0 f1 f2 f3 f4 f5 f6 HZ1 HK1
  generalize (((((((w1.setCell ⟨w.heap.size + 1 + 1, 0, none⟩ (.int .u8 0)).setCell ⟨w.heap.size + 1 + 1, 1, none⟩ (.bool false)).setCell ⟨w.heap.size + 1 + 1, 2, none⟩ (.slice none 0 0)).setCell ⟨w.heap.size + 1 + 1, 3, none⟩ (.string { data := #[] })).setCell ⟨w.heap.size + 1 + 1, 4, none⟩ (.int .i64 0)).setCell ⟨w.heap.size + 1 + 1, 5, none⟩ (.slice none 0 0)).setCell ⟨w.heap.size + 1 + 1, 6, none⟩ (.slice none 0 0)) = wf at *
  have d0 : wf.cell? ⟨w.heap.size + 1 + 1, 0, none⟩ = some (.int .u8 0) := HBf.out.cell 0
  have d1 : wf.cell? ⟨w.heap.size + 1 + 1, 1, none⟩ = some (.bool false) := HBf.out.cell 1
  have d2 : wf.cell? ⟨w.heap.size + 1 + 1, 2, none⟩ = some (.slice none 0 0) := HBf.out.cell 2
  have d3 : wf.cell? ⟨w.heap.size + 1 + 1, 3, none⟩ = some (.string { data := #[] }) := HBf.out.cell 3
  have d4 : wf.cell? ⟨w.heap.size + 1 + 1, 4, none⟩ = some (.int .i64 0) := HBf.out.cell 4
  have d5 : wf.cell? ⟨w.heap.size + 1 + 1, 5, none⟩ = some (.slice none 0 0) := HBf.out.cell 5
  have d6 : wf.cell? ⟨w.heap.size + 1 + 1, 6, none⟩ = some (.slice none 0 0) := HBf.out.cell 6
  refine bodyPost_ret (v := .tuple #[.agg #[.int .u8 0, .bool false, .slice none 0 0, .string { data := #[] }, .int .i64 0, .slice none 0 0, .slice none 0 0], .bool false]) (by simp [results, Try.results27, go_sem, d0, d1, d2, d3, d4, d5, d6]) rfl ?_
  exact ⟨rfl, HKf.out⟩
set_option maxRecDepth 100000 in
theorem rsub_bad2 {w : World} {B B' : Nat → Prop} {r : Bool} {cs ds : Array Value} (ha : TermA w B r cs) (hb : TermA w B' false ds) : Calls Try.prog 30 #[.agg cs, .agg ds] w (NoP w) := by
  have HTA := hide ha
  obtain ⟨kd, ng, la, ln, lc, tx, nm, ia, im, ic, ta, tm, tc, l, rfl, hl, hi, ht, hr⟩ := ha
  clear hl hi ht hr
  have HTB := hide hb
  obtain ⟨kd', ng', la', ln', lc', tx', nm', ia', im', ic', ta', tm', tc', l', rfl, hl, hi, ht, hr⟩ := hb
  clear hl hi ht hr
  go_enter Try.func30, Try.ntmps30
  have HY0 := hide ((Blk.new2' w (.cells #[.int .u8 kd, .bool ng, .slice la ln lc, .string tx, .int .i64 nm, .slice ia im ic, .slice ta tm tc] 26) 26 #[.int .u8 kd', .bool ng', .slice la' ln' lc', .string tx', .int .i64 nm', .slice ia' im' ic', .slice ta' tm' tc']).alloc (.cells #[.int .u8 0, .bool false, .slice none 0 0, .string { data := #[] }, .int .i64 0, .slice none 0 0, .slice none 0 0] 26))
  have HZ0 := hide (Blk.new3' w (.cells #[.int .u8 kd, .bool ng, .slice la ln lc, .string tx, .int .i64 nm, .slice ia im ic, .slice ta tm tc] 26) (.cells #[.int .u8 kd', .bool ng', .slice la' ln' lc', .string tx', .int .i64 nm', .slice ia' im' ic', .slice ta' tm' tc'] 26) 26 #[.int .u8 0, .bool false, .slice none 0 0, .string { data := #[] }, .int .i64 0, .slice none 0 0, .slice none 0 0])
  have HK0 := hide ((((Keeps.refl NoB w).alloc (.cells #[.int .u8 kd, .bool ng, .slice la ln lc, .string tx, .int .i64 nm, .slice ia im ic, .slice ta tm tc] 26)).alloc (.cells #[.int .u8 kd', .bool ng', .slice la' ln' lc', .string tx', .int .i64 nm', .slice ia' im' ic', .slice ta' tm' tc'] 26)).alloc (.cells #[.int .u8 0, .bool false, .slice none 0 0, .string { data := #[] }, .int .i64 0, .slice none 0 0, .slice none 0 0] 26))
  go_wp2_with first | (go_at_call 33; refine (HTB.out.keep HK0.out).rright.mono ?_; rintro e w1 ⟨rfl, hk1⟩; have HK1 := hide (HK0.out.trans' hk1 (fun _ _ => id) (fun _ _ => id)); have HZ1 := hide (HZ0.out.keep hk1 id); clear hk1 HY0 HZ0 HK0; have z0 : w1.cell? ⟨w.heap.size + 1 + 1, 0, none⟩ = some (.int .u8 0) := HZ1.out.cell 0; have z1 : w1.cell? ⟨w.heap.size + 1 + 1, 1, none⟩ = some (.bool false) := HZ1.out.cell 1; have z2 : w1.cell? ⟨w.heap.size + 1 + 1, 2, none⟩ = some (.slice none 0 0) := HZ1.out.cell 2; have z3 : w1.cell? ⟨w.heap.size + 1 + 1, 3, none⟩ = some (.string { data := #[] }) := HZ1.out.cell 3; have z4 : w1.cell? ⟨w.heap.size + 1 + 1, 4, none⟩ = some (.int .i64 0) := HZ1.out.cell 4; have z5 : w1.cell? ⟨w.heap.size + 1 + 1, 5, none⟩ = some (.slice none 0 0) := HZ1.out.cell 5; have z6 : w1.cell? ⟨w.heap.size + 1 + 1, 6, none⟩ = some (.slice none 0 0) := HZ1.out.cell 6; have f0 : w1.frozen? ⟨w.heap.size + 1 + 1, 0, none⟩ = false := HZ1.out.free 0; have f1 : w1.frozen? ⟨w.heap.size + 1 + 1, 1, none⟩ = false := HZ1.out.free 1; have f2 : w1.frozen? ⟨w.heap.size + 1 + 1, 2, none⟩ = false := HZ1.out.free 2; have f3 : w1.frozen? ⟨w.heap.size + 1 + 1, 3, none⟩ = false := HZ1.out.free 3; have f4 : w1.frozen? ⟨w.heap.size + 1 + 1, 4, none⟩ = false := HZ1.out.free 4; have f5 : w1.frozen? ⟨w.heap.size + 1 + 1, 5, none⟩ = false := HZ1.out.free 5; have f6 : w1.frozen? ⟨w.heap.size + 1 + 1, 6, none⟩ = false := HZ1.out.free 6) | fail
  have HBf := hide (HZ1.out.put7 (.int .u8 0) (.bool false) (.slice none 0 0) (.string { data := #[] }) (.int .i64 0) (.slice none 0 0) (.slice none 0 0))
  have HKf := hide (HK1.out.set7 (g := w.heap.size + 1 + 1) (by omega) (.int .u8 0) (.bool false) (.slice none 0 0) (.string { data := #[] }) (.int .i64 0) (.slice none 0 0) (.slice none 0 0))
  clear z0 z1 z2 z3 z4 z5 z6 f0 f1 f2 f3 f4 f5 f6 HZ1 HK1
  generalize (((((((w1.setCell ⟨w.heap.size + 1 + 1, 0, none⟩ (.int .u8 0)).setCell ⟨w.heap.size + 1 + 1, 1, none⟩ (.bool false)).setCell ⟨w.heap.size + 1 + 1, 2, none⟩ (.slice none 0 0)).setCell ⟨w.heap.size + 1 + 1, 3, none⟩ (.string { data := #[] })).setCell ⟨w.heap.size + 1 + 1, 4, none⟩ (.int .i64 0)).setCell ⟨w.heap.size + 1 + 1, 5, none⟩ (.slice none 0 0)).setCell ⟨w.heap.size + 1 + 1, 6, none⟩ (.slice none 0 0)) = wf at *
  have d0 : wf.cell? ⟨w.heap.size + 1 + 1, 0, none⟩ = some (.int .u8 0) := HBf.out.cell 0
  have d1 : wf.cell? ⟨w.heap.size + 1 + 1, 1, none⟩ = some (.bool false) := HBf.out.cell 1
  have d2 : wf.cell? ⟨w.heap.size + 1 + 1, 2, none⟩ = some (.slice none 0 0) := HBf.out.cell 2
  have d3 : wf.cell? ⟨w.heap.size + 1 + 1, 3, none⟩ = some (.string { data := #[] }) := HBf.out.cell 3
  have d4 : wf.cell? ⟨w.heap.size + 1 + 1, 4, none⟩ = some (.int .i64 0) := HBf.out.cell 4
  have d5 : wf.cell? ⟨w.heap.size + 1 + 1, 5, none⟩ = some (.slice none 0 0) := HBf.out.cell 5
  have d6 : wf.cell? ⟨w.heap.size + 1 + 1, 6, none⟩ = some (.slice none 0 0) := HBf.out.cell 6
  refine bodyPost_ret (v := .tuple #[.agg #[.int .u8 0, .bool false, .slice none 0 0, .string { data := #[] }, .int .i64 0, .slice none 0 0, .slice none 0 0], .bool false]) (by simp [results, Try.results30, go_sem, d0, d1, d2, d3, d4, d5, d6]) rfl ?_
  exact ⟨rfl, HKf.out⟩
end Go.Proofs.Ytfehciiidmgopaa
