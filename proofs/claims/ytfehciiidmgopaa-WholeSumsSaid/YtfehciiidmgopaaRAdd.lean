/- Add of the reference. -/
import Derived.Test.YtfehciiidmgopaaRTimes
import Derived.Test.YtfehciiidmgopaaAdd
namespace Go.Proofs.Ytfehciiidmgopaa
open Go.RowKit


set_option maxHeartbeats 1000000 in
set_option maxRecDepth 100000 in
theorem radd_bad1 {w : World} {B B' : Nat → Prop} {r : Bool} {cs ds : Array Value} (ha : TermA w B false cs) (hb : TermA w B' r ds) : Calls Try.prog 29 #[.agg cs, .agg ds] w (NoP w) := by
  have HTA := hide ha
  obtain ⟨kd, ng, la, ln, lc, tx, nm, ia, im, ic, ta, tm, tc, l, rfl, hl, hi, ht, hr⟩ := ha
  clear hl hi ht hr
  have HTB := hide hb
  obtain ⟨kd', ng', la', ln', lc', tx', nm', ia', im', ic', ta', tm', tc', l', rfl, hl, hi, ht, hr⟩ := hb
  clear hl hi ht hr
  go_enter Try.func29, Try.ntmps29
  have HY0 := hide ((Blk.new2' w (.cells #[.int .u8 kd, .bool ng, .slice la ln lc, .string tx, .int .i64 nm, .slice ia im ic, .slice ta tm tc] 26) 26 #[.int .u8 kd', .bool ng', .slice la' ln' lc', .string tx', .int .i64 nm', .slice ia' im' ic', .slice ta' tm' tc']).alloc (.cells #[.int .u8 0, .bool false, .slice none 0 0, .string { data := #[] }, .int .i64 0, .slice none 0 0, .slice none 0 0] 26))
  have HZ0 := hide (Blk.new3' w (.cells #[.int .u8 kd, .bool ng, .slice la ln lc, .string tx, .int .i64 nm, .slice ia im ic, .slice ta tm tc] 26) (.cells #[.int .u8 kd', .bool ng', .slice la' ln' lc', .string tx', .int .i64 nm', .slice ia' im' ic', .slice ta' tm' tc'] 26) 26 #[.int .u8 0, .bool false, .slice none 0 0, .string { data := #[] }, .int .i64 0, .slice none 0 0, .slice none 0 0])
  have HK0 := hide ((((Keeps.refl NoB w).alloc (.cells #[.int .u8 kd, .bool ng, .slice la ln lc, .string tx, .int .i64 nm, .slice ia im ic, .slice ta tm tc] 26)).alloc (.cells #[.int .u8 kd', .bool ng', .slice la' ln' lc', .string tx', .int .i64 nm', .slice ia' im' ic', .slice ta' tm' tc'] 26)).alloc (.cells #[.int .u8 0, .bool false, .slice none 0 0, .string { data := #[] }, .int .i64 0, .slice none 0 0, .slice none 0 0] 26))
  go_wp2_with first | (go_at_call 33; refine (HTA.out.keep HK0.out).rright.mono ?_; rintro e w1 ⟨rfl, hk1⟩; have HK1 := hide (HK0.out.trans' hk1 (fun _ _ => id) (fun _ _ => id)); have HZ1 := hide (HZ0.out.keep hk1 id); clear hk1 HY0 HZ0 HK0; have z0 : w1.cell? ⟨w.heap.size + 1 + 1, 0, none⟩ = some (.int .u8 0) := HZ1.out.cell 0; have z1 : w1.cell? ⟨w.heap.size + 1 + 1, 1, none⟩ = some (.bool false) := HZ1.out.cell 1; have z2 : w1.cell? ⟨w.heap.size + 1 + 1, 2, none⟩ = some (.slice none 0 0) := HZ1.out.cell 2; have z3 : w1.cell? ⟨w.heap.size + 1 + 1, 3, none⟩ = some (.string { data := #[] }) := HZ1.out.cell 3; have z4 : w1.cell? ⟨w.heap.size + 1 + 1, 4, none⟩ = some (.int .i64 0) := HZ1.out.cell 4; have z5 : w1.cell? ⟨w.heap.size + 1 + 1, 5, none⟩ = some (.slice none 0 0) := HZ1.out.cell 5; have z6 : w1.cell? ⟨w.heap.size + 1 + 1, 6, none⟩ = some (.slice none 0 0) := HZ1.out.cell 6; have f0 : w1.frozen? ⟨w.heap.size + 1 + 1, 0, none⟩ = false := HZ1.out.free 0; have f1 : w1.frozen? ⟨w.heap.size + 1 + 1, 1, none⟩ = false := HZ1.out.free 1; have f2 : w1.frozen? ⟨w.heap.size + 1 + 1, 2, none⟩ = false := HZ1.out.free 2; have f3 : w1.frozen? ⟨w.heap.size + 1 + 1, 3, none⟩ = false := HZ1.out.free 3; have f4 : w1.frozen? ⟨w.heap.size + 1 + 1, 4, none⟩ = false := HZ1.out.free 4; have f5 : w1.frozen? ⟨w.heap.size + 1 + 1, 5, none⟩ = false := HZ1.out.free 5; have f6 : w1.frozen? ⟨w.heap.size + 1 + 1, 6, none⟩ = false := HZ1.out.free 6) | fail
  have HBf := hide (HZ1.out.put7 (.int .u8 0) (.bool false) (.slice none 0 0) (.string { data := #[] }) (.int .i64 0) (.slice none 0 0) (.slice none 0 0))
  have HKf := hide (HK1.out.set7 (g := w.heap.size + 1 + 1) (by omega) (.int .u8 0) (.bool false) (.slice none 0 0) (.string { data := #[] }) (.int .i64 0) (.slice none 0 0) (.slice none 0 0))
  clear z0 z1 z2 z3 z4 z5 z6 f0 f1 f2 f3 f4 f5 f6 HZ1 HK1
  generalize (((((((w1.setCell ⟨w.heap.size + 1 + 1, 0, none⟩ (.int .u8 0)).setCell ⟨w.heap.size + 1 + 1, 1, none⟩ (.bool false)).setCell ⟨w.heap.size + 1 + 1, 2, none⟩ (.slice none 0 0)).setCell ⟨w.heap.size + 1 + 1, 3, none⟩ (.string { data := #[] })).setCell ⟨w.heap.size + 1 + 1, 4, none⟩ (.int .i64 0)).setCell ⟨w.heap.size + 1 + 1, 5, none⟩ (.slice none 0 0)).setCell ⟨w.heap.size + 1 + 1, 6, none⟩ (.slice none 0 0)) = wf at *
  have d0 : wf.cell? ⟨w.heap.size + 1 + 1, 0, none⟩ = some (.int .u8 0) := HBf.out.cell 0
  have d1 : wf.cell? ⟨w.heap.size + 1 + 1, 1, none⟩ = some (.bool false) := HBf.out.cell 1
  have d2 : wf.cell? ⟨w.heap.size + 1 + 1, 2, none⟩ = some (.slice none 0 0) := HBf.out.cell 2
  have d3 : wf.cell? ⟨w.heap.size + 1 + 1, 3, none⟩ = some (.string { data := #[] }) := HBf.out.cell 3
  have d4 : wf.cell? ⟨w.heap.size + 1 + 1, 4, none⟩ = some (.int .i64 0) := HBf.out.cell 4
  have d5 : wf.cell? ⟨w.heap.size + 1 + 1, 5, none⟩ = some (.slice none 0 0) := HBf.out.cell 5
  have d6 : wf.cell? ⟨w.heap.size + 1 + 1, 6, none⟩ = some (.slice none 0 0) := HBf.out.cell 6
  refine bodyPost_ret (v := .tuple #[.agg #[.int .u8 0, .bool false, .slice none 0 0, .string { data := #[] }, .int .i64 0, .slice none 0 0, .slice none 0 0], .bool false]) (by simp [results, Try.results29, go_sem, d0, d1, d2, d3, d4, d5, d6]) rfl ?_
  exact ⟨rfl, HKf.out⟩
set_option maxHeartbeats 1000000 in
set_option maxRecDepth 100000 in
theorem radd_bad2 {w : World} {B B' : Nat → Prop} {cs ds : Array Value} (ha : TermA w B true cs) (hb : TermA w B' false ds) : Calls Try.prog 29 #[.agg cs, .agg ds] w (NoP w) := by
  have HTA := hide ha
  obtain ⟨kd, ng, la, ln, lc, tx, nm, ia, im, ic, ta, tm, tc, l, rfl, hl, hi, ht, hr⟩ := ha
  clear hl hi ht hr
  have HTB := hide hb
  obtain ⟨kd', ng', la', ln', lc', tx', nm', ia', im', ic', ta', tm', tc', l', rfl, hl, hi, ht, hr⟩ := hb
  clear hl hi ht hr
  have M1 := hide True.intro
  go_enter Try.func29, Try.ntmps29
  have HY0 := hide ((Blk.new2' w (.cells #[.int .u8 kd, .bool ng, .slice la ln lc, .string tx, .int .i64 nm, .slice ia im ic, .slice ta tm tc] 26) 26 #[.int .u8 kd', .bool ng', .slice la' ln' lc', .string tx', .int .i64 nm', .slice ia' im' ic', .slice ta' tm' tc']).alloc (.cells #[.int .u8 0, .bool false, .slice none 0 0, .string { data := #[] }, .int .i64 0, .slice none 0 0, .slice none 0 0] 26))
  have HZ0 := hide (Blk.new3' w (.cells #[.int .u8 kd, .bool ng, .slice la ln lc, .string tx, .int .i64 nm, .slice ia im ic, .slice ta tm tc] 26) (.cells #[.int .u8 kd', .bool ng', .slice la' ln' lc', .string tx', .int .i64 nm', .slice ia' im' ic', .slice ta' tm' tc'] 26) 26 #[.int .u8 0, .bool false, .slice none 0 0, .string { data := #[] }, .int .i64 0, .slice none 0 0, .slice none 0 0])
  have HK0 := hide ((((Keeps.refl NoB w).alloc (.cells #[.int .u8 kd, .bool ng, .slice la ln lc, .string tx, .int .i64 nm, .slice ia im ic, .slice ta tm tc] 26)).alloc (.cells #[.int .u8 kd', .bool ng', .slice la' ln' lc', .string tx', .int .i64 nm', .slice ia' im' ic', .slice ta' tm' tc'] 26)).alloc (.cells #[.int .u8 0, .bool false, .slice none 0 0, .string { data := #[] }, .int .i64 0, .slice none 0 0, .slice none 0 0] 26))
  go_wp2_with first | (clear M1; go_at_call 33; refine (HTA.out.keep HK0.out).rright.mono ?_; rintro e w1 ⟨rfl, hk1⟩; have HK1 := hide (HK0.out.trans' hk1 (fun _ _ => id) (fun _ _ => id)); have HY1 := hide (HY0.out.keep hk1 id); have HZ1 := hide (HZ0.out.keep hk1 id); clear hk1 HY0 HZ0 HK0; have y0 : w1.cell? ⟨w.heap.size + 1, 0, none⟩ = some (.int .u8 kd') := HY1.out.cell 0; have y1 : w1.cell? ⟨w.heap.size + 1, 1, none⟩ = some (.bool ng') := HY1.out.cell 1; have y2 : w1.cell? ⟨w.heap.size + 1, 2, none⟩ = some (.slice la' ln' lc') := HY1.out.cell 2; have y3 : w1.cell? ⟨w.heap.size + 1, 3, none⟩ = some (.string tx') := HY1.out.cell 3; have y4 : w1.cell? ⟨w.heap.size + 1, 4, none⟩ = some (.int .i64 nm') := HY1.out.cell 4; have y5 : w1.cell? ⟨w.heap.size + 1, 5, none⟩ = some (.slice ia' im' ic') := HY1.out.cell 5; have y6 : w1.cell? ⟨w.heap.size + 1, 6, none⟩ = some (.slice ta' tm' tc') := HY1.out.cell 6) | (go_at_call 33; refine (HTB.out.keep HK1.out).rright.mono ?_; rintro e w2 ⟨rfl, hk2⟩; have HK2 := hide (HK1.out.trans' hk2 (fun _ _ => id) (fun _ _ => id)); have HZ2 := hide (HZ1.out.keep hk2 id); clear hk2 HY1 HZ1 HK1 y0 y1 y2 y3 y4 y5 y6; have z0 : w2.cell? ⟨w.heap.size + 1 + 1, 0, none⟩ = some (.int .u8 0) := HZ2.out.cell 0; have z1 : w2.cell? ⟨w.heap.size + 1 + 1, 1, none⟩ = some (.bool false) := HZ2.out.cell 1; have z2 : w2.cell? ⟨w.heap.size + 1 + 1, 2, none⟩ = some (.slice none 0 0) := HZ2.out.cell 2; have z3 : w2.cell? ⟨w.heap.size + 1 + 1, 3, none⟩ = some (.string { data := #[] }) := HZ2.out.cell 3; have z4 : w2.cell? ⟨w.heap.size + 1 + 1, 4, none⟩ = some (.int .i64 0) := HZ2.out.cell 4; have z5 : w2.cell? ⟨w.heap.size + 1 + 1, 5, none⟩ = some (.slice none 0 0) := HZ2.out.cell 5; have z6 : w2.cell? ⟨w.heap.size + 1 + 1, 6, none⟩ = some (.slice none 0 0) := HZ2.out.cell 6; have f0 : w2.frozen? ⟨w.heap.size + 1 + 1, 0, none⟩ = false := HZ2.out.free 0; have f1 : w2.frozen? ⟨w.heap.size + 1 + 1, 1, none⟩ = false := HZ2.out.free 1; have f2 : w2.frozen? ⟨w.heap.size + 1 + 1, 2, none⟩ = false := HZ2.out.free 2; have f3 : w2.frozen? ⟨w.heap.size + 1 + 1, 3, none⟩ = false := HZ2.out.free 3; have f4 : w2.frozen? ⟨w.heap.size + 1 + 1, 4, none⟩ = false := HZ2.out.free 4; have f5 : w2.frozen? ⟨w.heap.size + 1 + 1, 5, none⟩ = false := HZ2.out.free 5; have f6 : w2.frozen? ⟨w.heap.size + 1 + 1, 6, none⟩ = false := HZ2.out.free 6) | fail
  have HBf := hide (HZ2.out.put7 (.int .u8 0) (.bool false) (.slice none 0 0) (.string { data := #[] }) (.int .i64 0) (.slice none 0 0) (.slice none 0 0))
  have HKf := hide (HK2.out.set7 (g := w.heap.size + 1 + 1) (by omega) (.int .u8 0) (.bool false) (.slice none 0 0) (.string { data := #[] }) (.int .i64 0) (.slice none 0 0) (.slice none 0 0))
  clear z0 z1 z2 z3 z4 z5 z6 f0 f1 f2 f3 f4 f5 f6 HZ2 HK2
  generalize (((((((w2.setCell ⟨w.heap.size + 1 + 1, 0, none⟩ (.int .u8 0)).setCell ⟨w.heap.size + 1 + 1, 1, none⟩ (.bool false)).setCell ⟨w.heap.size + 1 + 1, 2, none⟩ (.slice none 0 0)).setCell ⟨w.heap.size + 1 + 1, 3, none⟩ (.string { data := #[] })).setCell ⟨w.heap.size + 1 + 1, 4, none⟩ (.int .i64 0)).setCell ⟨w.heap.size + 1 + 1, 5, none⟩ (.slice none 0 0)).setCell ⟨w.heap.size + 1 + 1, 6, none⟩ (.slice none 0 0)) = wf at *
  have d0 : wf.cell? ⟨w.heap.size + 1 + 1, 0, none⟩ = some (.int .u8 0) := HBf.out.cell 0
  have d1 : wf.cell? ⟨w.heap.size + 1 + 1, 1, none⟩ = some (.bool false) := HBf.out.cell 1
  have d2 : wf.cell? ⟨w.heap.size + 1 + 1, 2, none⟩ = some (.slice none 0 0) := HBf.out.cell 2
  have d3 : wf.cell? ⟨w.heap.size + 1 + 1, 3, none⟩ = some (.string { data := #[] }) := HBf.out.cell 3
  have d4 : wf.cell? ⟨w.heap.size + 1 + 1, 4, none⟩ = some (.int .i64 0) := HBf.out.cell 4
  have d5 : wf.cell? ⟨w.heap.size + 1 + 1, 5, none⟩ = some (.slice none 0 0) := HBf.out.cell 5
  have d6 : wf.cell? ⟨w.heap.size + 1 + 1, 6, none⟩ = some (.slice none 0 0) := HBf.out.cell 6
  refine bodyPost_ret (v := .tuple #[.agg #[.int .u8 0, .bool false, .slice none 0 0, .string { data := #[] }, .int .i64 0, .slice none 0 0, .slice none 0 0], .bool false]) (by simp [results, Try.results29, go_sem, d0, d1, d2, d3, d4, d5, d6]) rfl ?_
  exact ⟨rfl, HKf.out⟩
theorem radd_like {x y : Int} (h : decide (x < 0) = decide (y < 0)) : sgn (decide (x < 0)) (x.natAbs + y.natAbs) = x + y := by
  unfold sgn
  by_cases hx : x < 0
  · have hy : y < 0 := by rw [decide_eq_true hx] at h; exact of_decide_eq_true h.symm
    rw [if_pos (decide_eq_true hx)]; omega
  · have hy : ¬ y < 0 := by rw [decide_eq_false hx] at h; exact of_decide_eq_false h.symm
    rw [if_neg (by simp [hx])]; omega
theorem radd_below {x y : Int} (h : decide (x < 0) ≠ decide (y < 0)) (hl : x.natAbs < y.natAbs) : sgn (decide (y < 0)) (y.natAbs - x.natAbs) = x + y := by
  unfold sgn
  by_cases hx : x < 0
  · have hy : ¬ y < 0 := fun e => h (by rw [decide_eq_true hx, decide_eq_true e])
    rw [if_neg (by simp [hy])]; omega
  · have hy : y < 0 := by
      by_cases e : y < 0
      · exact e
      · exact absurd (by rw [decide_eq_false hx, decide_eq_false e]) h
    rw [if_pos (decide_eq_true hy)]; omega
theorem radd_above {x y : Int} (h : decide (x < 0) ≠ decide (y < 0)) (hl : ¬ x.natAbs < y.natAbs) : sgn (decide (x < 0)) (x.natAbs - y.natAbs) = x + y := by
  unfold sgn
  by_cases hx : x < 0
  · have hy : ¬ y < 0 := fun e => h (by rw [decide_eq_true hx, decide_eq_true e])
    rw [if_pos (decide_eq_true hx)]; omega
  · have hy : y < 0 := by
      by_cases e : y < 0
      · exact e
      · exact absurd (by rw [decide_eq_false hx, decide_eq_false e]) h
    rw [if_neg (by simp [hx])]; omega
theorem lenB_add {x y k : Nat} (hx : lenB x ≤ k) (hy : lenB y ≤ k) : lenB (x + y) ≤ k + 1 := by
  have h1 := lenB_le.1 hx; have h2 := lenB_le.1 hy
  rw [lenB_le, Nat.pow_succ]
  omega
set_option maxHeartbeats 4000000 in
set_option maxRecDepth 100000 in
theorem radd_any (ng ng' : Bool) (A A' ia ta ia' ta' : Option Addr) (n c n' c' ic tc ic' tc' : Nat) (x y : Int) (w : World) (B B' : Nat → Prop) (h : IA w B ng A n c x) (h' : IA w B' ng' A' n' c' y) :
    Calls Try.prog 29 #[.agg #[.int .u8 1, .bool ng, .slice A n c, .string { data := #[] }, .int .i64 0, .slice ia 0 ic, .slice ta 0 tc], .agg #[.int .u8 1, .bool ng', .slice A' n' c', .string { data := #[] }, .int .i64 0, .slice ia' 0 ic', .slice ta' 0 tc']] w (AnyP w (x + y)) := by
  have hn := h.len; have hn' := h'.len
  have HI := hide h; have HI' := hide h'
  have hb := h.bits; have hb' := h'.bits
  have hsx := h.sign; have hsy := h'.sign
  have HSX := hide hsx; have HSY := hide hsy
  have HTA := hide (h.term ia ta ic tc); have HTB := hide (h'.term ia' ta' ic' tc')
  clear h h' hsx hsy
  go_enter Try.func29, Try.ntmps29
  have HX0 := hide (((Blk.new w 26 #[.int .u8 1, .bool ng, .slice A n c, .string { data := #[] }, .int .i64 0, .slice ia 0 ic, .slice ta 0 tc]).alloc (.cells #[.int .u8 1, .bool ng', .slice A' n' c', .string { data := #[] }, .int .i64 0, .slice ia' 0 ic', .slice ta' 0 tc'] 26)).alloc (.cells #[.int .u8 0, .bool false, .slice none 0 0, .string { data := #[] }, .int .i64 0, .slice none 0 0, .slice none 0 0] 26))
  have HY0 := hide ((Blk.new2' w (.cells #[.int .u8 1, .bool ng, .slice A n c, .string { data := #[] }, .int .i64 0, .slice ia 0 ic, .slice ta 0 tc] 26) 26 #[.int .u8 1, .bool ng', .slice A' n' c', .string { data := #[] }, .int .i64 0, .slice ia' 0 ic', .slice ta' 0 tc']).alloc (.cells #[.int .u8 0, .bool false, .slice none 0 0, .string { data := #[] }, .int .i64 0, .slice none 0 0, .slice none 0 0] 26))
  have HZ0 := hide (Blk.new3' w (.cells #[.int .u8 1, .bool ng, .slice A n c, .string { data := #[] }, .int .i64 0, .slice ia 0 ic, .slice ta 0 tc] 26) (.cells #[.int .u8 1, .bool ng', .slice A' n' c', .string { data := #[] }, .int .i64 0, .slice ia' 0 ic', .slice ta' 0 tc'] 26) 26 #[.int .u8 0, .bool false, .slice none 0 0, .string { data := #[] }, .int .i64 0, .slice none 0 0, .slice none 0 0])
  have HK0 := hide ((((Keeps.refl NoB w).alloc (.cells #[.int .u8 1, .bool ng, .slice A n c, .string { data := #[] }, .int .i64 0, .slice ia 0 ic, .slice ta 0 tc] 26)).alloc (.cells #[.int .u8 1, .bool ng', .slice A' n' c', .string { data := #[] }, .int .i64 0, .slice ia' 0 ic', .slice ta' 0 tc'] 26)).alloc (.cells #[.int .u8 0, .bool false, .slice none 0 0, .string { data := #[] }, .int .i64 0, .slice none 0 0, .slice none 0 0] 26))
  have HR1 := hide True.intro
  go_wp2_with first | (clear HR1; go_at_call 33; refine ((HTA.out.keep HK0.out).rright).mono ?_; rintro e w1 ⟨rfl, hk1⟩; have HK1 := hide (HK0.out.trans' hk1 (fun _ _ => id) (fun _ _ => id)); have HX1 := hide (HX0.out.keep hk1 id); have HY1 := hide (HY0.out.keep hk1 id); have HZ1 := hide (HZ0.out.keep hk1 id); clear hk1 HX0 HY0 HZ0 HK0; have y0 : w1.cell? ⟨w.heap.size + 1, 0, none⟩ = some (.int .u8 1) := HY1.out.cell 0; have y1 : w1.cell? ⟨w.heap.size + 1, 1, none⟩ = some (.bool ng') := HY1.out.cell 1; have y2 : w1.cell? ⟨w.heap.size + 1, 2, none⟩ = some (.slice A' n' c') := HY1.out.cell 2; have y3 : w1.cell? ⟨w.heap.size + 1, 3, none⟩ = some (.string { data := #[] }) := HY1.out.cell 3; have y4 : w1.cell? ⟨w.heap.size + 1, 4, none⟩ = some (.int .i64 0) := HY1.out.cell 4; have y5 : w1.cell? ⟨w.heap.size + 1, 5, none⟩ = some (.slice ia' 0 ic') := HY1.out.cell 5; have y6 : w1.cell? ⟨w.heap.size + 1, 6, none⟩ = some (.slice ta' 0 tc') := HY1.out.cell 6) | (go_at_call 33; refine ((HTB.out.keep HK1.out).rright).mono ?_; rintro e w2 ⟨rfl, hk2⟩; have HK2 := hide (HK1.out.trans' hk2 (fun _ _ => id) (fun _ _ => id)); have HX2 := hide (HX1.out.keep hk2 id); have HY2 := hide (HY1.out.keep hk2 id); have HZ2 := hide (HZ1.out.keep hk2 id); clear hk2 HX1 HY1 HZ1 HK1 y0 y1 y2 y3 y4 y5 y6) | fail
  refine order_begin (fun W => Keeps NoB w2.drew W) (fun _ => true) (by kernel_rfl) 6 rfl ?_
  have BX := hide (HX2.out.drew); have BY := hide (HY2.out.drew); have BZ := hide (HZ2.out.drew)
  have IX := hide (HI.out.keep (HK2.out.drew)); have IY := hide (HI'.out.keep (HK2.out.drew))
  have HKD := hide (HK2.out.drew)
  generalize w2.drew = W0 at *
  have HS : Keeps NoB W0 W0 := Keeps.refl _ _
  refine order_held (i := 0) rfl (by kernel_rfl) (fun _ _ _ h => h) (.inl ⟨rfl, fun W hW => by
    have q0 : W.cell? ⟨w.heap.size, 0, none⟩ = some (.int .u8 1) := hW.cell id (BX.out.cell 0)
    have q1 : W.cell? ⟨w.heap.size, 1, none⟩ = some (.bool ng) := hW.cell id (BX.out.cell 1)
    have q2 : W.cell? ⟨w.heap.size, 2, none⟩ = some (.slice A n c) := hW.cell id (BX.out.cell 2)
    have q3 : W.cell? ⟨w.heap.size, 3, none⟩ = some (.string { data := #[] }) := hW.cell id (BX.out.cell 3)
    have q4 : W.cell? ⟨w.heap.size, 4, none⟩ = some (.int .i64 0) := hW.cell id (BX.out.cell 4)
    have q5 : W.cell? ⟨w.heap.size, 5, none⟩ = some (.slice ia 0 ic) := hW.cell id (BX.out.cell 5)
    have q6 : W.cell? ⟨w.heap.size, 6, none⟩ = some (.slice ta 0 tc) := hW.cell id (BX.out.cell 6)
    go_simp; rfl⟩) HS ?_
  try simp only [Act.put, List.setIfInBounds_toArray, List.set_cons_succ, List.set_cons_zero]
  refine order_held (i := 2) rfl (by kernel_rfl) (fun _ _ _ h => h) (.inl ⟨rfl, fun W hW => by
    have q0 : W.cell? ⟨w.heap.size + 1, 0, none⟩ = some (.int .u8 1) := hW.cell id (BY.out.cell 0)
    have q1 : W.cell? ⟨w.heap.size + 1, 1, none⟩ = some (.bool ng') := hW.cell id (BY.out.cell 1)
    have q2 : W.cell? ⟨w.heap.size + 1, 2, none⟩ = some (.slice A' n' c') := hW.cell id (BY.out.cell 2)
    have q3 : W.cell? ⟨w.heap.size + 1, 3, none⟩ = some (.string { data := #[] }) := hW.cell id (BY.out.cell 3)
    have q4 : W.cell? ⟨w.heap.size + 1, 4, none⟩ = some (.int .i64 0) := hW.cell id (BY.out.cell 4)
    have q5 : W.cell? ⟨w.heap.size + 1, 5, none⟩ = some (.slice ia' 0 ic') := hW.cell id (BY.out.cell 5)
    have q6 : W.cell? ⟨w.heap.size + 1, 6, none⟩ = some (.slice ta' 0 tc') := hW.cell id (BY.out.cell 6)
    go_simp; rfl⟩) HS ?_
  try simp only [Act.put, List.setIfInBounds_toArray, List.set_cons_succ, List.set_cons_zero]
  clear HS
  refine order_one (i := 1) rfl (by kernel_rfl) (fun K hK => ?_)
  go_simp
  refine (bits_any _ _ _ _ _ _ _ _ _ W0 _ IX.out).mono ?_
  rintro e V1 ⟨A1, n1, c1, rfl, hn1, hb1, hk1⟩
  refine hK _ _ (fun _ hS => hS.trans' hk1 (fun _ _ => id) (fun _ _ => id)) ?_
  clear hK
  have HN1 := hide hn1
  clear hn1
  try simp only [Act.put, List.setIfInBounds_toArray, List.set_cons_succ, List.set_cons_zero]
  refine order_one (i := 3) rfl (by kernel_rfl) (fun K hK => ?_)
  go_simp
  refine (bits_any _ _ _ _ _ _ _ _ _ V1 _ (IY.out.keep hk1)).mono ?_
  rintro e V2 ⟨A2, n2, c2, rfl, hn2, hb2, hk2⟩
  refine hK _ _ (fun _ hS => hS.trans' hk2 (fun _ _ => id) (fun _ _ => id)) ?_
  clear hK
  try simp only [Act.put, List.setIfInBounds_toArray, List.set_cons_succ, List.set_cons_zero]
  have HB1 := hide (hb1.keep hk2); have HB2 := hide hb2; have HN2 := hide hn2
  have HKK : Hid (Keeps NoB W0 V2) := hide (hk1.trans' hk2 (fun _ _ h => h) (fun _ _ h => h))
  have HX3 := hide (BX.out.keep HKK.out id); have HY3 := hide (BY.out.keep HKK.out id); have HZ3 := hide (BZ.out.keep HKK.out id)
  have HK3 := hide (HKD.out.trans' HKK.out (fun _ _ h => h) (fun _ _ h => h))
  clear hk1 hk2 hn2 hb1 hb2 BX BY BZ IX IY HKD
  refine order_pure (i := 4) rfl (by kernel_rfl) (fun _ _ _ h => h) (.inl ⟨rfl, fun _ => by go_simp; rfl⟩) ?_
  try simp only [Act.put, List.setIfInBounds_toArray, List.set_cons_succ, List.set_cons_zero]
  refine order_pure (i := 5) rfl (by kernel_rfl) (fun _ _ _ h => h) (.inl ⟨rfl, fun _ => by go_simp; rfl⟩) ?_
  try simp only [Act.put, List.setIfInBounds_toArray, List.set_cons_succ, List.set_cons_zero]
  refine order_done (by kernel_rfl) ?_
  have hN1 : n1 ≤ 1024 := by rw [HN1.out]; exact hb
  have hN2 : n2 ≤ 1024 := by rw [HN2.out]; exact hb'
  clear HX2 HY2 HZ2 HK2 HKK
  have x1 : V2.cell? ⟨w.heap.size, 1, none⟩ = some (.bool ng) := HX3.out.cell 1
  have y1 : V2.cell? ⟨w.heap.size + 1, 1, none⟩ = some (.bool ng') := HY3.out.cell 1
  by_cases hs : ng = ng'
  · have HSG := hide (show sgn ng (x.natAbs + y.natAbs) = x + y from by rw [HSX.out]; exact radd_like (by rw [← HSX.out, ← HSY.out]; exact hs))
    subst hs
    have HB1' := HB1; have HB2' := HB2
    clear HB1 HB2
    go_wp2_with fail
    refine order_begin (fun W => Keeps NoB V2.drew W) (fun k => k != 8) (by kernel_rfl) 10 rfl ?_
    have BX := hide (HX3.out.drew); have BY := hide (HY3.out.drew); have BZ := hide (HZ3.out.drew)
    have C1 := hide (HB1'.out.keep (Keeps.refl NoB V2).drew); have C2 := hide (HB2'.out.keep (Keeps.refl NoB V2).drew)
    have HKD := hide (HK3.out.drew)
    clear HX3 HY3 HZ3 HK3 HB1' HB2'
    generalize V2.drew = W0 at *
    have HS : Keeps NoB W0 W0 := Keeps.refl _ _
    refine order_pure (i := 0) rfl (by kernel_rfl) (fun _ _ _ h => h) (.inl ⟨rfl, fun _ => by go_simp; rfl⟩) ?_
    try simp only [Act.put, List.setIfInBounds_toArray, List.set_cons_succ, List.set_cons_zero]
    refine order_pure (i := 1) rfl (by kernel_rfl) (fun _ _ _ h => h) (.inl ⟨rfl, fun _ => by go_simp; rfl⟩) ?_
    try simp only [Act.put, List.setIfInBounds_toArray, List.set_cons_succ, List.set_cons_zero]
    refine order_pure (i := 3) rfl (by kernel_rfl) (fun _ _ _ h => h) (.inl ⟨rfl, fun _ => by go_simp; rfl⟩) ?_
    try simp only [Act.put, List.setIfInBounds_toArray, List.set_cons_succ, List.set_cons_zero]
    refine order_held (i := 4) rfl (by kernel_rfl) (fun _ _ _ h => h) (.inl ⟨rfl, fun W hW => by
      have q0 : W.cell? ⟨w.heap.size, 1, none⟩ = some (.bool ng) := hW.cell id (BX.out.cell 1)
      go_simp; rfl⟩) HS ?_
    try simp only [Act.put, List.setIfInBounds_toArray, List.set_cons_succ, List.set_cons_zero]
    clear HS
    refine order_one (i := 2) rfl (by kernel_rfl) (fun K hK => ?_)
    go_simp
    refine (bsum_any A1 A2 n1 c1 n2 c2 (max n1 n2) _ _ W0 _ _ C1.out C2.out rfl (by omega)).mono ?_
    rintro e V1 ⟨A3, n3, c3, rfl, hn3, hb3, hk3⟩
    refine hK _ _ (fun _ hS => hS.trans' hk3 (fun _ _ => id) (fun _ _ => id)) ?_
    clear hK
    rw [natB_dig, natB_dig] at hn3 hb3
    have HN3 := hide hn3; have HB3 := hide hb3; have HZ4 := hide (BZ.out.keep hk3 id); have HK4 := hide (HKD.out.trans' hk3 (fun _ _ h => h) (fun _ _ h => h))
    clear hn3 hb3 hk3 BX BY BZ C1 C2 HKD
    try simp only [Act.put, List.setIfInBounds_toArray, List.set_cons_succ, List.set_cons_zero]
    have hn3 : n3 ≤ 1025 := by rw [HN3.out]; exact lenB_add hb hb'
    have HMD := hide (rmade_any A3 n3 c3 ng _ V1 _ HB3.out (by omega))
    rw [natB_dig, HSG.out] at HMD
    clear hn3
    refine order_one (i := 5) rfl (by kernel_rfl) (fun K hK => ?_)
    go_simp
    refine HMD.out.mono ?_
    rintro e w5 ⟨kd, ngz, A, n, c, ok, rfl, hr, hk⟩
    refine hK _ _ (fun _ hS => hS.trans' hk (fun _ _ => id) (fun _ _ => id)) ?_
    clear hK
    have HB5 := hide (HZ4.out.keep hk id); have HA5 := hide hr; have HK6 := hide (HK4.out.trans' hk (fun _ _ => id) (fun _ _ => id))
    have hsz := HK4.out.size
    have hsz3 := HZ4.out.lt
    clear hr hk HZ4 HK4 HB3 HN3 HMD
    try simp only [Act.put, List.setIfInBounds_toArray, List.set_cons_succ, List.set_cons_zero]
    refine order_pure (i := 6) rfl (by kernel_rfl) (fun _ _ _ h => h) (.inl ⟨rfl, fun _ => by go_simp; rfl⟩) ?_
    try simp only [Act.put, List.setIfInBounds_toArray, List.set_cons_succ, List.set_cons_zero]
    refine order_pure (i := 7) rfl (by kernel_rfl) (fun _ _ _ h => h) (.inl ⟨rfl, fun _ => by go_simp; rfl⟩) ?_
    try simp only [Act.put, List.setIfInBounds_toArray, List.set_cons_succ, List.set_cons_zero]
    have z0 : w5.cell? ⟨w.heap.size + 1 + 1, 0, none⟩ = some (.int .u8 0) := HB5.out.cell 0; have z1 : w5.cell? ⟨w.heap.size + 1 + 1, 1, none⟩ = some (.bool false) := HB5.out.cell 1; have z2 : w5.cell? ⟨w.heap.size + 1 + 1, 2, none⟩ = some (.slice none 0 0) := HB5.out.cell 2; have z3 : w5.cell? ⟨w.heap.size + 1 + 1, 3, none⟩ = some (.string { data := #[] }) := HB5.out.cell 3; have z4 : w5.cell? ⟨w.heap.size + 1 + 1, 4, none⟩ = some (.int .i64 0) := HB5.out.cell 4; have z5 : w5.cell? ⟨w.heap.size + 1 + 1, 5, none⟩ = some (.slice none 0 0) := HB5.out.cell 5; have z6 : w5.cell? ⟨w.heap.size + 1 + 1, 6, none⟩ = some (.slice none 0 0) := HB5.out.cell 6
    have f0 : w5.frozen? ⟨w.heap.size + 1 + 1, 0, none⟩ = false := HB5.out.free 0; have f1 : w5.frozen? ⟨w.heap.size + 1 + 1, 1, none⟩ = false := HB5.out.free 1; have f2 : w5.frozen? ⟨w.heap.size + 1 + 1, 2, none⟩ = false := HB5.out.free 2; have f3 : w5.frozen? ⟨w.heap.size + 1 + 1, 3, none⟩ = false := HB5.out.free 3; have f4 : w5.frozen? ⟨w.heap.size + 1 + 1, 4, none⟩ = false := HB5.out.free 4; have f5 : w5.frozen? ⟨w.heap.size + 1 + 1, 5, none⟩ = false := HB5.out.free 5; have f6 : w5.frozen? ⟨w.heap.size + 1 + 1, 6, none⟩ = false := HB5.out.free 6
    refine order_one (i := 8) rfl (by kernel_rfl) (fun K hK => ?_)
    go_simp
    refine hK _ _ (fun h => absurd h (by decide)) ?_
    clear hK
    try simp only [Act.put, List.setIfInBounds_toArray, List.set_cons_succ, List.set_cons_zero]
    refine order_pure (i := 9) rfl (by kernel_rfl) (fun _ _ _ h => h) (.inl ⟨rfl, fun _ => by go_simp; rfl⟩) ?_
    try simp only [Act.put, List.setIfInBounds_toArray, List.set_cons_succ, List.set_cons_zero]
    refine order_done (by kernel_rfl) ?_
    go_wp2
    obtain ⟨ng, hngz⟩ : ∃ ng, ngz = ng := ⟨_, rfl⟩
    subst hngz
    have HBf := hide (HB5.out.put7 (.int .u8 kd) (.bool ngz) (.slice A n c) (.string { data := #[] }) (.int .i64 0) (.slice none 0 0) (.slice none 0 0))
    have HKf := hide (HK6.out.set7 (g := w.heap.size + 1 + 1) (by omega) (.int .u8 kd) (.bool ngz) (.slice A n c) (.string { data := #[] }) (.int .i64 0) (.slice none 0 0) (.slice none 0 0))
    have HAf := hide ((HA5.out.far (Keeps.set7' (g := w.heap.size + 1 + 1) (.int .u8 kd) (.bool ngz) (.slice A n c) (.string { data := #[] }) (.int .i64 0) (.slice none 0 0) (.slice none 0 0)) (fun k hk e => by first | omega | (simp at hk; omega))).more (B' := fun k => w.heap.size ≤ k) (fun k _ hk => by first | omega | (simp at hk; omega)))
    clear z0 z1 z2 z3 z4 z5 z6 f0 f1 f2 f3 f4 f5 f6 HB5 HK6 HA5
    generalize (((((((w5.setCell ⟨w.heap.size + 1 + 1, 0, none⟩ (.int .u8 kd)).setCell ⟨w.heap.size + 1 + 1, 1, none⟩ (.bool ngz)).setCell ⟨w.heap.size + 1 + 1, 2, none⟩ (.slice A n c)).setCell ⟨w.heap.size + 1 + 1, 3, none⟩ (.string { data := #[] })).setCell ⟨w.heap.size + 1 + 1, 4, none⟩ (.int .i64 0)).setCell ⟨w.heap.size + 1 + 1, 5, none⟩ (.slice none 0 0)).setCell ⟨w.heap.size + 1 + 1, 6, none⟩ (.slice none 0 0)) = wf at *
    have d0 : wf.cell? ⟨w.heap.size + 1 + 1, 0, none⟩ = some (.int .u8 kd) := HBf.out.cell 0; have d1 : wf.cell? ⟨w.heap.size + 1 + 1, 1, none⟩ = some (.bool ngz) := HBf.out.cell 1; have d2 : wf.cell? ⟨w.heap.size + 1 + 1, 2, none⟩ = some (.slice A n c) := HBf.out.cell 2; have d3 : wf.cell? ⟨w.heap.size + 1 + 1, 3, none⟩ = some (.string { data := #[] }) := HBf.out.cell 3; have d4 : wf.cell? ⟨w.heap.size + 1 + 1, 4, none⟩ = some (.int .i64 0) := HBf.out.cell 4; have d5 : wf.cell? ⟨w.heap.size + 1 + 1, 5, none⟩ = some (.slice none 0 0) := HBf.out.cell 5; have d6 : wf.cell? ⟨w.heap.size + 1 + 1, 6, none⟩ = some (.slice none 0 0) := HBf.out.cell 6
    refine bodyPost_ret (v := .tuple #[.agg #[.int .u8 kd, .bool ngz, .slice A n c, .string { data := #[] }, .int .i64 0, .slice none 0 0, .slice none 0 0], .bool ok]) (by simp [results, Try.results29, go_sem, d0, d1, d2, d3, d4, d5, d6]) rfl ?_
    exact ⟨kd, ngz, A, n, c, ok, rfl, HAf.out, HKf.out⟩
  · have HNE := hide (show decide (x < 0) ≠ decide (y < 0) from by rw [← HSX.out, ← HSY.out]; exact hs)
    have hse : (ng == ng') = false := by simp [hs]
    clear hs
    by_cases hlt : x.natAbs < y.natAbs
    · have HD := hide (show decide (natB (digB x.natAbs) < natB (digB y.natAbs)) = true from by rw [natB_dig, natB_dig]; exact decide_eq_true hlt)
      have HSG := hide (show sgn ng' (y.natAbs - x.natAbs) = x + y from by rw [HSY.out]; exact radd_below HNE.out hlt)
      have HLE := hide (show natB (digB x.natAbs) ≤ natB (digB y.natAbs) from by rw [natB_dig, natB_dig]; omega)
      clear hlt
      go_upto_if 35 with (go_at_call 54; refine (below_any A1 A2 n1 c1 n2 c2 (max n1 n2) _ _ V2 _ _ HB1.out HB2.out rfl (by omega)).mono ?_; rintro e w4 ⟨rfl, hk4⟩; rw [HD.out]; have HB1' := hide (HB1.out.keep hk4); have HB2' := hide (HB2.out.keep hk4); have HX4 := hide (HX3.out.keep hk4 id); have HY4 := hide (HY3.out.keep hk4 id); have HZ4' := hide (HZ3.out.keep hk4 id); have HK4' := hide (HK3.out.trans' hk4 (fun _ _ h => h) (fun _ _ h => h)); clear hk4 HB1 HB2 HX3 HY3 HZ3 HK3 x1 y1)
      go_wp2_with fail
      refine order_begin (fun W => Keeps NoB w4.drew W) (fun k => k != 8) (by kernel_rfl) 10 rfl ?_
      have BX := hide (HX4.out.drew); have BY := hide (HY4.out.drew); have BZ := hide (HZ4'.out.drew)
      have C1 := hide (HB1'.out.keep (Keeps.refl NoB w4).drew); have C2 := hide (HB2'.out.keep (Keeps.refl NoB w4).drew)
      have HKD := hide (HK4'.out.drew)
      clear HX4 HY4 HZ4' HK4' HB1' HB2'
      generalize w4.drew = W0 at *
      have HS : Keeps NoB W0 W0 := Keeps.refl _ _
      refine order_pure (i := 0) rfl (by kernel_rfl) (fun _ _ _ h => h) (.inl ⟨rfl, fun _ => by go_simp; rfl⟩) ?_
      try simp only [Act.put, List.setIfInBounds_toArray, List.set_cons_succ, List.set_cons_zero]
      refine order_pure (i := 1) rfl (by kernel_rfl) (fun _ _ _ h => h) (.inl ⟨rfl, fun _ => by go_simp; rfl⟩) ?_
      try simp only [Act.put, List.setIfInBounds_toArray, List.set_cons_succ, List.set_cons_zero]
      refine order_pure (i := 3) rfl (by kernel_rfl) (fun _ _ _ h => h) (.inl ⟨rfl, fun _ => by go_simp; rfl⟩) ?_
      try simp only [Act.put, List.setIfInBounds_toArray, List.set_cons_succ, List.set_cons_zero]
      refine order_held (i := 4) rfl (by kernel_rfl) (fun _ _ _ h => h) (.inl ⟨rfl, fun W hW => by
        have q0 : W.cell? ⟨w.heap.size + 1, 1, none⟩ = some (.bool ng') := hW.cell id (BY.out.cell 1)
        go_simp; rfl⟩) HS ?_
      try simp only [Act.put, List.setIfInBounds_toArray, List.set_cons_succ, List.set_cons_zero]
      clear HS
      refine order_one (i := 2) rfl (by kernel_rfl) (fun K hK => ?_)
      go_simp
      refine (bless_any A2 A1 n2 c2 n1 c1 _ _ W0 _ _ C2.out C1.out (by omega) (by omega) HLE.out).mono ?_
      rintro e V1 ⟨A3, n3, c3, rfl, hn3, hb3, hk3⟩
      refine hK _ _ (fun _ hS => hS.trans' hk3 (fun _ _ => id) (fun _ _ => id)) ?_
      clear hK
      rw [natB_dig, natB_dig] at hn3 hb3
      have HN3 := hide hn3; have HB3 := hide hb3; have HZ4 := hide (BZ.out.keep hk3 id); have HK4 := hide (HKD.out.trans' hk3 (fun _ _ h => h) (fun _ _ h => h))
      clear hn3 hb3 hk3 BX BY BZ C1 C2 HKD
      try simp only [Act.put, List.setIfInBounds_toArray, List.set_cons_succ, List.set_cons_zero]
      have hn3 : n3 ≤ 1025 := by rw [HN3.out]; exact Nat.le_trans (lenB_mono (Nat.sub_le _ _)) (Nat.le_trans hb' (by omega))
      have HMD := hide (rmade_any A3 n3 c3 ng' _ V1 _ HB3.out (by omega))
      rw [natB_dig, HSG.out] at HMD
      clear hn3
      refine order_one (i := 5) rfl (by kernel_rfl) (fun K hK => ?_)
      go_simp
      refine HMD.out.mono ?_
      rintro e w5 ⟨kd, ngz, A, n, c, ok, rfl, hr, hk⟩
      refine hK _ _ (fun _ hS => hS.trans' hk (fun _ _ => id) (fun _ _ => id)) ?_
      clear hK
      have HB5 := hide (HZ4.out.keep hk id); have HA5 := hide hr; have HK6 := hide (HK4.out.trans' hk (fun _ _ => id) (fun _ _ => id))
      have hsz := HK4.out.size
      have hsz3 := HZ4.out.lt
      clear hr hk HZ4 HK4 HB3 HN3 HMD
      try simp only [Act.put, List.setIfInBounds_toArray, List.set_cons_succ, List.set_cons_zero]
      refine order_pure (i := 6) rfl (by kernel_rfl) (fun _ _ _ h => h) (.inl ⟨rfl, fun _ => by go_simp; rfl⟩) ?_
      try simp only [Act.put, List.setIfInBounds_toArray, List.set_cons_succ, List.set_cons_zero]
      refine order_pure (i := 7) rfl (by kernel_rfl) (fun _ _ _ h => h) (.inl ⟨rfl, fun _ => by go_simp; rfl⟩) ?_
      try simp only [Act.put, List.setIfInBounds_toArray, List.set_cons_succ, List.set_cons_zero]
      have z0 : w5.cell? ⟨w.heap.size + 1 + 1, 0, none⟩ = some (.int .u8 0) := HB5.out.cell 0; have z1 : w5.cell? ⟨w.heap.size + 1 + 1, 1, none⟩ = some (.bool false) := HB5.out.cell 1; have z2 : w5.cell? ⟨w.heap.size + 1 + 1, 2, none⟩ = some (.slice none 0 0) := HB5.out.cell 2; have z3 : w5.cell? ⟨w.heap.size + 1 + 1, 3, none⟩ = some (.string { data := #[] }) := HB5.out.cell 3; have z4 : w5.cell? ⟨w.heap.size + 1 + 1, 4, none⟩ = some (.int .i64 0) := HB5.out.cell 4; have z5 : w5.cell? ⟨w.heap.size + 1 + 1, 5, none⟩ = some (.slice none 0 0) := HB5.out.cell 5; have z6 : w5.cell? ⟨w.heap.size + 1 + 1, 6, none⟩ = some (.slice none 0 0) := HB5.out.cell 6
      have f0 : w5.frozen? ⟨w.heap.size + 1 + 1, 0, none⟩ = false := HB5.out.free 0; have f1 : w5.frozen? ⟨w.heap.size + 1 + 1, 1, none⟩ = false := HB5.out.free 1; have f2 : w5.frozen? ⟨w.heap.size + 1 + 1, 2, none⟩ = false := HB5.out.free 2; have f3 : w5.frozen? ⟨w.heap.size + 1 + 1, 3, none⟩ = false := HB5.out.free 3; have f4 : w5.frozen? ⟨w.heap.size + 1 + 1, 4, none⟩ = false := HB5.out.free 4; have f5 : w5.frozen? ⟨w.heap.size + 1 + 1, 5, none⟩ = false := HB5.out.free 5; have f6 : w5.frozen? ⟨w.heap.size + 1 + 1, 6, none⟩ = false := HB5.out.free 6
      refine order_one (i := 8) rfl (by kernel_rfl) (fun K hK => ?_)
      go_simp
      refine hK _ _ (fun h => absurd h (by decide)) ?_
      clear hK
      try simp only [Act.put, List.setIfInBounds_toArray, List.set_cons_succ, List.set_cons_zero]
      refine order_pure (i := 9) rfl (by kernel_rfl) (fun _ _ _ h => h) (.inl ⟨rfl, fun _ => by go_simp; rfl⟩) ?_
      try simp only [Act.put, List.setIfInBounds_toArray, List.set_cons_succ, List.set_cons_zero]
      refine order_done (by kernel_rfl) ?_
      go_wp2
      obtain ⟨ng, hngz⟩ : ∃ ng, ngz = ng := ⟨_, rfl⟩
      subst hngz
      have HBf := hide (HB5.out.put7 (.int .u8 kd) (.bool ngz) (.slice A n c) (.string { data := #[] }) (.int .i64 0) (.slice none 0 0) (.slice none 0 0))
      have HKf := hide (HK6.out.set7 (g := w.heap.size + 1 + 1) (by omega) (.int .u8 kd) (.bool ngz) (.slice A n c) (.string { data := #[] }) (.int .i64 0) (.slice none 0 0) (.slice none 0 0))
      have HAf := hide ((HA5.out.far (Keeps.set7' (g := w.heap.size + 1 + 1) (.int .u8 kd) (.bool ngz) (.slice A n c) (.string { data := #[] }) (.int .i64 0) (.slice none 0 0) (.slice none 0 0)) (fun k hk e => by first | omega | (simp at hk; omega))).more (B' := fun k => w.heap.size ≤ k) (fun k _ hk => by first | omega | (simp at hk; omega)))
      clear z0 z1 z2 z3 z4 z5 z6 f0 f1 f2 f3 f4 f5 f6 HB5 HK6 HA5
      generalize (((((((w5.setCell ⟨w.heap.size + 1 + 1, 0, none⟩ (.int .u8 kd)).setCell ⟨w.heap.size + 1 + 1, 1, none⟩ (.bool ngz)).setCell ⟨w.heap.size + 1 + 1, 2, none⟩ (.slice A n c)).setCell ⟨w.heap.size + 1 + 1, 3, none⟩ (.string { data := #[] })).setCell ⟨w.heap.size + 1 + 1, 4, none⟩ (.int .i64 0)).setCell ⟨w.heap.size + 1 + 1, 5, none⟩ (.slice none 0 0)).setCell ⟨w.heap.size + 1 + 1, 6, none⟩ (.slice none 0 0)) = wf at *
      have d0 : wf.cell? ⟨w.heap.size + 1 + 1, 0, none⟩ = some (.int .u8 kd) := HBf.out.cell 0; have d1 : wf.cell? ⟨w.heap.size + 1 + 1, 1, none⟩ = some (.bool ngz) := HBf.out.cell 1; have d2 : wf.cell? ⟨w.heap.size + 1 + 1, 2, none⟩ = some (.slice A n c) := HBf.out.cell 2; have d3 : wf.cell? ⟨w.heap.size + 1 + 1, 3, none⟩ = some (.string { data := #[] }) := HBf.out.cell 3; have d4 : wf.cell? ⟨w.heap.size + 1 + 1, 4, none⟩ = some (.int .i64 0) := HBf.out.cell 4; have d5 : wf.cell? ⟨w.heap.size + 1 + 1, 5, none⟩ = some (.slice none 0 0) := HBf.out.cell 5; have d6 : wf.cell? ⟨w.heap.size + 1 + 1, 6, none⟩ = some (.slice none 0 0) := HBf.out.cell 6
      refine bodyPost_ret (v := .tuple #[.agg #[.int .u8 kd, .bool ngz, .slice A n c, .string { data := #[] }, .int .i64 0, .slice none 0 0, .slice none 0 0], .bool ok]) (by simp [results, Try.results29, go_sem, d0, d1, d2, d3, d4, d5, d6]) rfl ?_
      exact ⟨kd, ngz, A, n, c, ok, rfl, HAf.out, HKf.out⟩
    · have HD := hide (show decide (natB (digB x.natAbs) < natB (digB y.natAbs)) = false from by rw [natB_dig, natB_dig]; exact decide_eq_false hlt)
      have HSG := hide (show sgn ng (x.natAbs - y.natAbs) = x + y from by rw [HSX.out]; exact radd_above HNE.out hlt)
      have HLE := hide (show natB (digB y.natAbs) ≤ natB (digB x.natAbs) from by rw [natB_dig, natB_dig]; omega)
      clear hlt
      go_upto_if 35 with (go_at_call 54; refine (below_any A1 A2 n1 c1 n2 c2 (max n1 n2) _ _ V2 _ _ HB1.out HB2.out rfl (by omega)).mono ?_; rintro e w4 ⟨rfl, hk4⟩; rw [HD.out]; have HB1' := hide (HB1.out.keep hk4); have HB2' := hide (HB2.out.keep hk4); have HX4 := hide (HX3.out.keep hk4 id); have HY4 := hide (HY3.out.keep hk4 id); have HZ4' := hide (HZ3.out.keep hk4 id); have HK4' := hide (HK3.out.trans' hk4 (fun _ _ h => h) (fun _ _ h => h)); clear hk4 HB1 HB2 HX3 HY3 HZ3 HK3 x1 y1)
      go_wp2_with fail
      refine order_begin (fun W => Keeps NoB w4.drew W) (fun k => k != 8) (by kernel_rfl) 10 rfl ?_
      have BX := hide (HX4.out.drew); have BY := hide (HY4.out.drew); have BZ := hide (HZ4'.out.drew)
      have C1 := hide (HB1'.out.keep (Keeps.refl NoB w4).drew); have C2 := hide (HB2'.out.keep (Keeps.refl NoB w4).drew)
      have HKD := hide (HK4'.out.drew)
      clear HX4 HY4 HZ4' HK4' HB1' HB2'
      generalize w4.drew = W0 at *
      have HS : Keeps NoB W0 W0 := Keeps.refl _ _
      refine order_pure (i := 0) rfl (by kernel_rfl) (fun _ _ _ h => h) (.inl ⟨rfl, fun _ => by go_simp; rfl⟩) ?_
      try simp only [Act.put, List.setIfInBounds_toArray, List.set_cons_succ, List.set_cons_zero]
      refine order_pure (i := 1) rfl (by kernel_rfl) (fun _ _ _ h => h) (.inl ⟨rfl, fun _ => by go_simp; rfl⟩) ?_
      try simp only [Act.put, List.setIfInBounds_toArray, List.set_cons_succ, List.set_cons_zero]
      refine order_pure (i := 3) rfl (by kernel_rfl) (fun _ _ _ h => h) (.inl ⟨rfl, fun _ => by go_simp; rfl⟩) ?_
      try simp only [Act.put, List.setIfInBounds_toArray, List.set_cons_succ, List.set_cons_zero]
      refine order_held (i := 4) rfl (by kernel_rfl) (fun _ _ _ h => h) (.inl ⟨rfl, fun W hW => by
        have q0 : W.cell? ⟨w.heap.size, 1, none⟩ = some (.bool ng) := hW.cell id (BX.out.cell 1)
        go_simp; rfl⟩) HS ?_
      try simp only [Act.put, List.setIfInBounds_toArray, List.set_cons_succ, List.set_cons_zero]
      clear HS
      refine order_one (i := 2) rfl (by kernel_rfl) (fun K hK => ?_)
      go_simp
      refine (bless_any A1 A2 n1 c1 n2 c2 _ _ W0 _ _ C1.out C2.out (by omega) (by omega) HLE.out).mono ?_
      rintro e V1 ⟨A3, n3, c3, rfl, hn3, hb3, hk3⟩
      refine hK _ _ (fun _ hS => hS.trans' hk3 (fun _ _ => id) (fun _ _ => id)) ?_
      clear hK
      rw [natB_dig, natB_dig] at hn3 hb3
      have HN3 := hide hn3; have HB3 := hide hb3; have HZ4 := hide (BZ.out.keep hk3 id); have HK4 := hide (HKD.out.trans' hk3 (fun _ _ h => h) (fun _ _ h => h))
      clear hn3 hb3 hk3 BX BY BZ C1 C2 HKD
      try simp only [Act.put, List.setIfInBounds_toArray, List.set_cons_succ, List.set_cons_zero]
      have hn3 : n3 ≤ 1025 := by rw [HN3.out]; exact Nat.le_trans (lenB_mono (Nat.sub_le _ _)) (Nat.le_trans hb (by omega))
      have HMD := hide (rmade_any A3 n3 c3 ng _ V1 _ HB3.out (by omega))
      rw [natB_dig, HSG.out] at HMD
      clear hn3
      refine order_one (i := 5) rfl (by kernel_rfl) (fun K hK => ?_)
      go_simp
      refine HMD.out.mono ?_
      rintro e w5 ⟨kd, ngz, A, n, c, ok, rfl, hr, hk⟩
      refine hK _ _ (fun _ hS => hS.trans' hk (fun _ _ => id) (fun _ _ => id)) ?_
      clear hK
      have HB5 := hide (HZ4.out.keep hk id); have HA5 := hide hr; have HK6 := hide (HK4.out.trans' hk (fun _ _ => id) (fun _ _ => id))
      have hsz := HK4.out.size
      have hsz3 := HZ4.out.lt
      clear hr hk HZ4 HK4 HB3 HN3 HMD
      try simp only [Act.put, List.setIfInBounds_toArray, List.set_cons_succ, List.set_cons_zero]
      refine order_pure (i := 6) rfl (by kernel_rfl) (fun _ _ _ h => h) (.inl ⟨rfl, fun _ => by go_simp; rfl⟩) ?_
      try simp only [Act.put, List.setIfInBounds_toArray, List.set_cons_succ, List.set_cons_zero]
      refine order_pure (i := 7) rfl (by kernel_rfl) (fun _ _ _ h => h) (.inl ⟨rfl, fun _ => by go_simp; rfl⟩) ?_
      try simp only [Act.put, List.setIfInBounds_toArray, List.set_cons_succ, List.set_cons_zero]
      have z0 : w5.cell? ⟨w.heap.size + 1 + 1, 0, none⟩ = some (.int .u8 0) := HB5.out.cell 0; have z1 : w5.cell? ⟨w.heap.size + 1 + 1, 1, none⟩ = some (.bool false) := HB5.out.cell 1; have z2 : w5.cell? ⟨w.heap.size + 1 + 1, 2, none⟩ = some (.slice none 0 0) := HB5.out.cell 2; have z3 : w5.cell? ⟨w.heap.size + 1 + 1, 3, none⟩ = some (.string { data := #[] }) := HB5.out.cell 3; have z4 : w5.cell? ⟨w.heap.size + 1 + 1, 4, none⟩ = some (.int .i64 0) := HB5.out.cell 4; have z5 : w5.cell? ⟨w.heap.size + 1 + 1, 5, none⟩ = some (.slice none 0 0) := HB5.out.cell 5; have z6 : w5.cell? ⟨w.heap.size + 1 + 1, 6, none⟩ = some (.slice none 0 0) := HB5.out.cell 6
      have f0 : w5.frozen? ⟨w.heap.size + 1 + 1, 0, none⟩ = false := HB5.out.free 0; have f1 : w5.frozen? ⟨w.heap.size + 1 + 1, 1, none⟩ = false := HB5.out.free 1; have f2 : w5.frozen? ⟨w.heap.size + 1 + 1, 2, none⟩ = false := HB5.out.free 2; have f3 : w5.frozen? ⟨w.heap.size + 1 + 1, 3, none⟩ = false := HB5.out.free 3; have f4 : w5.frozen? ⟨w.heap.size + 1 + 1, 4, none⟩ = false := HB5.out.free 4; have f5 : w5.frozen? ⟨w.heap.size + 1 + 1, 5, none⟩ = false := HB5.out.free 5; have f6 : w5.frozen? ⟨w.heap.size + 1 + 1, 6, none⟩ = false := HB5.out.free 6
      refine order_one (i := 8) rfl (by kernel_rfl) (fun K hK => ?_)
      go_simp
      refine hK _ _ (fun h => absurd h (by decide)) ?_
      clear hK
      try simp only [Act.put, List.setIfInBounds_toArray, List.set_cons_succ, List.set_cons_zero]
      refine order_pure (i := 9) rfl (by kernel_rfl) (fun _ _ _ h => h) (.inl ⟨rfl, fun _ => by go_simp; rfl⟩) ?_
      try simp only [Act.put, List.setIfInBounds_toArray, List.set_cons_succ, List.set_cons_zero]
      refine order_done (by kernel_rfl) ?_
      go_wp2
      obtain ⟨ng, hngz⟩ : ∃ ng, ngz = ng := ⟨_, rfl⟩
      subst hngz
      have HBf := hide (HB5.out.put7 (.int .u8 kd) (.bool ngz) (.slice A n c) (.string { data := #[] }) (.int .i64 0) (.slice none 0 0) (.slice none 0 0))
      have HKf := hide (HK6.out.set7 (g := w.heap.size + 1 + 1) (by omega) (.int .u8 kd) (.bool ngz) (.slice A n c) (.string { data := #[] }) (.int .i64 0) (.slice none 0 0) (.slice none 0 0))
      have HAf := hide ((HA5.out.far (Keeps.set7' (g := w.heap.size + 1 + 1) (.int .u8 kd) (.bool ngz) (.slice A n c) (.string { data := #[] }) (.int .i64 0) (.slice none 0 0) (.slice none 0 0)) (fun k hk e => by first | omega | (simp at hk; omega))).more (B' := fun k => w.heap.size ≤ k) (fun k _ hk => by first | omega | (simp at hk; omega)))
      clear z0 z1 z2 z3 z4 z5 z6 f0 f1 f2 f3 f4 f5 f6 HB5 HK6 HA5
      generalize (((((((w5.setCell ⟨w.heap.size + 1 + 1, 0, none⟩ (.int .u8 kd)).setCell ⟨w.heap.size + 1 + 1, 1, none⟩ (.bool ngz)).setCell ⟨w.heap.size + 1 + 1, 2, none⟩ (.slice A n c)).setCell ⟨w.heap.size + 1 + 1, 3, none⟩ (.string { data := #[] })).setCell ⟨w.heap.size + 1 + 1, 4, none⟩ (.int .i64 0)).setCell ⟨w.heap.size + 1 + 1, 5, none⟩ (.slice none 0 0)).setCell ⟨w.heap.size + 1 + 1, 6, none⟩ (.slice none 0 0)) = wf at *
      have d0 : wf.cell? ⟨w.heap.size + 1 + 1, 0, none⟩ = some (.int .u8 kd) := HBf.out.cell 0; have d1 : wf.cell? ⟨w.heap.size + 1 + 1, 1, none⟩ = some (.bool ngz) := HBf.out.cell 1; have d2 : wf.cell? ⟨w.heap.size + 1 + 1, 2, none⟩ = some (.slice A n c) := HBf.out.cell 2; have d3 : wf.cell? ⟨w.heap.size + 1 + 1, 3, none⟩ = some (.string { data := #[] }) := HBf.out.cell 3; have d4 : wf.cell? ⟨w.heap.size + 1 + 1, 4, none⟩ = some (.int .i64 0) := HBf.out.cell 4; have d5 : wf.cell? ⟨w.heap.size + 1 + 1, 5, none⟩ = some (.slice none 0 0) := HBf.out.cell 5; have d6 : wf.cell? ⟨w.heap.size + 1 + 1, 6, none⟩ = some (.slice none 0 0) := HBf.out.cell 6
      refine bodyPost_ret (v := .tuple #[.agg #[.int .u8 kd, .bool ngz, .slice A n c, .string { data := #[] }, .int .i64 0, .slice none 0 0, .slice none 0 0], .bool ok]) (by simp [results, Try.results29, go_sem, d0, d1, d2, d3, d4, d5, d6]) rfl ?_
      exact ⟨kd, ngz, A, n, c, ok, rfl, HAf.out, HKf.out⟩
end Go.Proofs.Ytfehciiidmgopaa
