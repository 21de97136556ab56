/- Times of the reference. -/
import Derived.Test.YtfehciiidmgopaaRMade
import Derived.Test.YtfehciiidmgopaaRRight
namespace Go.Proofs.Ytfehciiidmgopaa
open Go.RowKit


set_option maxHeartbeats 1000000 in
set_option maxRecDepth 100000 in
theorem rtimes_bad1 {w : World} {B B' : Nat → Prop} {r : Bool} {cs ds : Array Value} (ha : TermA w B false cs) (hb : TermA w B' r ds) : Calls Try.prog 12 #[.agg cs, .agg ds] w (NoP w) := by
  have HTA := hide ha
  obtain ⟨kd, ng, la, ln, lc, tx, nm, ia, im, ic, ta, tm, tc, l, rfl, hl, hi, ht, hr⟩ := ha
  clear hl hi ht hr
  have HTB := hide hb
  obtain ⟨kd', ng', la', ln', lc', tx', nm', ia', im', ic', ta', tm', tc', l', rfl, hl, hi, ht, hr⟩ := hb
  clear hl hi ht hr
  go_enter Try.func12, Try.ntmps12
  have HY0 := hide ((Blk.new2' w (.cells #[.int .u8 kd, .bool ng, .slice la ln lc, .string tx, .int .i64 nm, .slice ia im ic, .slice ta tm tc] 26) 26 #[.int .u8 kd', .bool ng', .slice la' ln' lc', .string tx', .int .i64 nm', .slice ia' im' ic', .slice ta' tm' tc']).alloc (.cells #[.int .u8 0, .bool false, .slice none 0 0, .string { data := #[] }, .int .i64 0, .slice none 0 0, .slice none 0 0] 26))
  have HZ0 := hide (Blk.new3' w (.cells #[.int .u8 kd, .bool ng, .slice la ln lc, .string tx, .int .i64 nm, .slice ia im ic, .slice ta tm tc] 26) (.cells #[.int .u8 kd', .bool ng', .slice la' ln' lc', .string tx', .int .i64 nm', .slice ia' im' ic', .slice ta' tm' tc'] 26) 26 #[.int .u8 0, .bool false, .slice none 0 0, .string { data := #[] }, .int .i64 0, .slice none 0 0, .slice none 0 0])
  have HK0 := hide ((((Keeps.refl NoB w).alloc (.cells #[.int .u8 kd, .bool ng, .slice la ln lc, .string tx, .int .i64 nm, .slice ia im ic, .slice ta tm tc] 26)).alloc (.cells #[.int .u8 kd', .bool ng', .slice la' ln' lc', .string tx', .int .i64 nm', .slice ia' im' ic', .slice ta' tm' tc'] 26)).alloc (.cells #[.int .u8 0, .bool false, .slice none 0 0, .string { data := #[] }, .int .i64 0, .slice none 0 0, .slice none 0 0] 26))
  go_wp2_with first | (go_at_call 33; refine (HTA.out.keep HK0.out).rright.mono ?_; rintro e w1 ⟨rfl, hk1⟩; have HK1 := hide (HK0.out.trans' hk1 (fun _ _ => id) (fun _ _ => id)); have HZ1 := hide (HZ0.out.keep hk1 id); clear hk1 HY0 HZ0 HK0; have z0 : w1.cell? ⟨w.heap.size + 1 + 1, 0, none⟩ = some (.int .u8 0) := HZ1.out.cell 0; have z1 : w1.cell? ⟨w.heap.size + 1 + 1, 1, none⟩ = some (.bool false) := HZ1.out.cell 1; have z2 : w1.cell? ⟨w.heap.size + 1 + 1, 2, none⟩ = some (.slice none 0 0) := HZ1.out.cell 2; have z3 : w1.cell? ⟨w.heap.size + 1 + 1, 3, none⟩ = some (.string { data := #[] }) := HZ1.out.cell 3; have z4 : w1.cell? ⟨w.heap.size + 1 + 1, 4, none⟩ = some (.int .i64 0) := HZ1.out.cell 4; have z5 : w1.cell? ⟨w.heap.size + 1 + 1, 5, none⟩ = some (.slice none 0 0) := HZ1.out.cell 5; have z6 : w1.cell? ⟨w.heap.size + 1 + 1, 6, none⟩ = some (.slice none 0 0) := HZ1.out.cell 6; have f0 : w1.frozen? ⟨w.heap.size + 1 + 1, 0, none⟩ = false := HZ1.out.free 0; have f1 : w1.frozen? ⟨w.heap.size + 1 + 1, 1, none⟩ = false := HZ1.out.free 1; have f2 : w1.frozen? ⟨w.heap.size + 1 + 1, 2, none⟩ = false := HZ1.out.free 2; have f3 : w1.frozen? ⟨w.heap.size + 1 + 1, 3, none⟩ = false := HZ1.out.free 3; have f4 : w1.frozen? ⟨w.heap.size + 1 + 1, 4, none⟩ = false := HZ1.out.free 4; have f5 : w1.frozen? ⟨w.heap.size + 1 + 1, 5, none⟩ = false := HZ1.out.free 5; have f6 : w1.frozen? ⟨w.heap.size + 1 + 1, 6, none⟩ = false := HZ1.out.free 6) | fail
  have HBf := hide (HZ1.out.put7 (.int .u8 0) (.bool false) (.slice none 0 0) (.string { data := #[] }) (.int .i64 0) (.slice none 0 0) (.slice none 0 0))
  have HKf := hide (HK1.out.set7 (g := w.heap.size + 1 + 1) (by omega) (.int .u8 0) (.bool false) (.slice none 0 0) (.string { data := #[] }) (.int .i64 0) (.slice none 0 0) (.slice none 0 0))
  clear z0 z1 z2 z3 z4 z5 z6 f0 f1 f2 f3 f4 f5 f6 HZ1 HK1
  generalize (((((((w1.setCell ⟨w.heap.size + 1 + 1, 0, none⟩ (.int .u8 0)).setCell ⟨w.heap.size + 1 + 1, 1, none⟩ (.bool false)).setCell ⟨w.heap.size + 1 + 1, 2, none⟩ (.slice none 0 0)).setCell ⟨w.heap.size + 1 + 1, 3, none⟩ (.string { data := #[] })).setCell ⟨w.heap.size + 1 + 1, 4, none⟩ (.int .i64 0)).setCell ⟨w.heap.size + 1 + 1, 5, none⟩ (.slice none 0 0)).setCell ⟨w.heap.size + 1 + 1, 6, none⟩ (.slice none 0 0)) = wf at *
  have d0 : wf.cell? ⟨w.heap.size + 1 + 1, 0, none⟩ = some (.int .u8 0) := HBf.out.cell 0
  have d1 : wf.cell? ⟨w.heap.size + 1 + 1, 1, none⟩ = some (.bool false) := HBf.out.cell 1
  have d2 : wf.cell? ⟨w.heap.size + 1 + 1, 2, none⟩ = some (.slice none 0 0) := HBf.out.cell 2
  have d3 : wf.cell? ⟨w.heap.size + 1 + 1, 3, none⟩ = some (.string { data := #[] }) := HBf.out.cell 3
  have d4 : wf.cell? ⟨w.heap.size + 1 + 1, 4, none⟩ = some (.int .i64 0) := HBf.out.cell 4
  have d5 : wf.cell? ⟨w.heap.size + 1 + 1, 5, none⟩ = some (.slice none 0 0) := HBf.out.cell 5
  have d6 : wf.cell? ⟨w.heap.size + 1 + 1, 6, none⟩ = some (.slice none 0 0) := HBf.out.cell 6
  refine bodyPost_ret (v := .tuple #[.agg #[.int .u8 0, .bool false, .slice none 0 0, .string { data := #[] }, .int .i64 0, .slice none 0 0, .slice none 0 0], .bool false]) (by simp [results, Try.results12, go_sem, d0, d1, d2, d3, d4, d5, d6]) rfl ?_
  exact ⟨rfl, HKf.out⟩
set_option maxHeartbeats 1000000 in
set_option maxRecDepth 100000 in
theorem rtimes_bad2 {w : World} {B B' : Nat → Prop} {cs ds : Array Value} (ha : TermA w B true cs) (hb : TermA w B' false ds) : Calls Try.prog 12 #[.agg cs, .agg ds] w (NoP w) := by
  have HTA := hide ha
  obtain ⟨kd, ng, la, ln, lc, tx, nm, ia, im, ic, ta, tm, tc, l, rfl, hl, hi, ht, hr⟩ := ha
  clear hl hi ht hr
  have HTB := hide hb
  obtain ⟨kd', ng', la', ln', lc', tx', nm', ia', im', ic', ta', tm', tc', l', rfl, hl, hi, ht, hr⟩ := hb
  clear hl hi ht hr
  have M1 := hide True.intro
  go_enter Try.func12, Try.ntmps12
  have HY0 := hide ((Blk.new2' w (.cells #[.int .u8 kd, .bool ng, .slice la ln lc, .string tx, .int .i64 nm, .slice ia im ic, .slice ta tm tc] 26) 26 #[.int .u8 kd', .bool ng', .slice la' ln' lc', .string tx', .int .i64 nm', .slice ia' im' ic', .slice ta' tm' tc']).alloc (.cells #[.int .u8 0, .bool false, .slice none 0 0, .string { data := #[] }, .int .i64 0, .slice none 0 0, .slice none 0 0] 26))
  have HZ0 := hide (Blk.new3' w (.cells #[.int .u8 kd, .bool ng, .slice la ln lc, .string tx, .int .i64 nm, .slice ia im ic, .slice ta tm tc] 26) (.cells #[.int .u8 kd', .bool ng', .slice la' ln' lc', .string tx', .int .i64 nm', .slice ia' im' ic', .slice ta' tm' tc'] 26) 26 #[.int .u8 0, .bool false, .slice none 0 0, .string { data := #[] }, .int .i64 0, .slice none 0 0, .slice none 0 0])
  have HK0 := hide ((((Keeps.refl NoB w).alloc (.cells #[.int .u8 kd, .bool ng, .slice la ln lc, .string tx, .int .i64 nm, .slice ia im ic, .slice ta tm tc] 26)).alloc (.cells #[.int .u8 kd', .bool ng', .slice la' ln' lc', .string tx', .int .i64 nm', .slice ia' im' ic', .slice ta' tm' tc'] 26)).alloc (.cells #[.int .u8 0, .bool false, .slice none 0 0, .string { data := #[] }, .int .i64 0, .slice none 0 0, .slice none 0 0] 26))
  go_wp2_with first | (clear M1; go_at_call 33; refine (HTA.out.keep HK0.out).rright.mono ?_; rintro e w1 ⟨rfl, hk1⟩; have HK1 := hide (HK0.out.trans' hk1 (fun _ _ => id) (fun _ _ => id)); have HY1 := hide (HY0.out.keep hk1 id); have HZ1 := hide (HZ0.out.keep hk1 id); clear hk1 HY0 HZ0 HK0; have y0 : w1.cell? ⟨w.heap.size + 1, 0, none⟩ = some (.int .u8 kd') := HY1.out.cell 0; have y1 : w1.cell? ⟨w.heap.size + 1, 1, none⟩ = some (.bool ng') := HY1.out.cell 1; have y2 : w1.cell? ⟨w.heap.size + 1, 2, none⟩ = some (.slice la' ln' lc') := HY1.out.cell 2; have y3 : w1.cell? ⟨w.heap.size + 1, 3, none⟩ = some (.string tx') := HY1.out.cell 3; have y4 : w1.cell? ⟨w.heap.size + 1, 4, none⟩ = some (.int .i64 nm') := HY1.out.cell 4; have y5 : w1.cell? ⟨w.heap.size + 1, 5, none⟩ = some (.slice ia' im' ic') := HY1.out.cell 5; have y6 : w1.cell? ⟨w.heap.size + 1, 6, none⟩ = some (.slice ta' tm' tc') := HY1.out.cell 6) | (go_at_call 33; refine (HTB.out.keep HK1.out).rright.mono ?_; rintro e w2 ⟨rfl, hk2⟩; have HK2 := hide (HK1.out.trans' hk2 (fun _ _ => id) (fun _ _ => id)); have HZ2 := hide (HZ1.out.keep hk2 id); clear hk2 HY1 HZ1 HK1 y0 y1 y2 y3 y4 y5 y6; have z0 : w2.cell? ⟨w.heap.size + 1 + 1, 0, none⟩ = some (.int .u8 0) := HZ2.out.cell 0; have z1 : w2.cell? ⟨w.heap.size + 1 + 1, 1, none⟩ = some (.bool false) := HZ2.out.cell 1; have z2 : w2.cell? ⟨w.heap.size + 1 + 1, 2, none⟩ = some (.slice none 0 0) := HZ2.out.cell 2; have z3 : w2.cell? ⟨w.heap.size + 1 + 1, 3, none⟩ = some (.string { data := #[] }) := HZ2.out.cell 3; have z4 : w2.cell? ⟨w.heap.size + 1 + 1, 4, none⟩ = some (.int .i64 0) := HZ2.out.cell 4; have z5 : w2.cell? ⟨w.heap.size + 1 + 1, 5, none⟩ = some (.slice none 0 0) := HZ2.out.cell 5; have z6 : w2.cell? ⟨w.heap.size + 1 + 1, 6, none⟩ = some (.slice none 0 0) := HZ2.out.cell 6; have f0 : w2.frozen? ⟨w.heap.size + 1 + 1, 0, none⟩ = false := HZ2.out.free 0; have f1 : w2.frozen? ⟨w.heap.size + 1 + 1, 1, none⟩ = false := HZ2.out.free 1; have f2 : w2.frozen? ⟨w.heap.size + 1 + 1, 2, none⟩ = false := HZ2.out.free 2; have f3 : w2.frozen? ⟨w.heap.size + 1 + 1, 3, none⟩ = false := HZ2.out.free 3; have f4 : w2.frozen? ⟨w.heap.size + 1 + 1, 4, none⟩ = false := HZ2.out.free 4; have f5 : w2.frozen? ⟨w.heap.size + 1 + 1, 5, none⟩ = false := HZ2.out.free 5; have f6 : w2.frozen? ⟨w.heap.size + 1 + 1, 6, none⟩ = false := HZ2.out.free 6) | fail
  have HBf := hide (HZ2.out.put7 (.int .u8 0) (.bool false) (.slice none 0 0) (.string { data := #[] }) (.int .i64 0) (.slice none 0 0) (.slice none 0 0))
  have HKf := hide (HK2.out.set7 (g := w.heap.size + 1 + 1) (by omega) (.int .u8 0) (.bool false) (.slice none 0 0) (.string { data := #[] }) (.int .i64 0) (.slice none 0 0) (.slice none 0 0))
  clear z0 z1 z2 z3 z4 z5 z6 f0 f1 f2 f3 f4 f5 f6 HZ2 HK2
  generalize (((((((w2.setCell ⟨w.heap.size + 1 + 1, 0, none⟩ (.int .u8 0)).setCell ⟨w.heap.size + 1 + 1, 1, none⟩ (.bool false)).setCell ⟨w.heap.size + 1 + 1, 2, none⟩ (.slice none 0 0)).setCell ⟨w.heap.size + 1 + 1, 3, none⟩ (.string { data := #[] })).setCell ⟨w.heap.size + 1 + 1, 4, none⟩ (.int .i64 0)).setCell ⟨w.heap.size + 1 + 1, 5, none⟩ (.slice none 0 0)).setCell ⟨w.heap.size + 1 + 1, 6, none⟩ (.slice none 0 0)) = wf at *
  have d0 : wf.cell? ⟨w.heap.size + 1 + 1, 0, none⟩ = some (.int .u8 0) := HBf.out.cell 0
  have d1 : wf.cell? ⟨w.heap.size + 1 + 1, 1, none⟩ = some (.bool false) := HBf.out.cell 1
  have d2 : wf.cell? ⟨w.heap.size + 1 + 1, 2, none⟩ = some (.slice none 0 0) := HBf.out.cell 2
  have d3 : wf.cell? ⟨w.heap.size + 1 + 1, 3, none⟩ = some (.string { data := #[] }) := HBf.out.cell 3
  have d4 : wf.cell? ⟨w.heap.size + 1 + 1, 4, none⟩ = some (.int .i64 0) := HBf.out.cell 4
  have d5 : wf.cell? ⟨w.heap.size + 1 + 1, 5, none⟩ = some (.slice none 0 0) := HBf.out.cell 5
  have d6 : wf.cell? ⟨w.heap.size + 1 + 1, 6, none⟩ = some (.slice none 0 0) := HBf.out.cell 6
  refine bodyPost_ret (v := .tuple #[.agg #[.int .u8 0, .bool false, .slice none 0 0, .string { data := #[] }, .int .i64 0, .slice none 0 0, .slice none 0 0], .bool false]) (by simp [results, Try.results12, go_sem, d0, d1, d2, d3, d4, d5, d6]) rfl ?_
  exact ⟨rfl, HKf.out⟩
theorem natB_cons2 (x : Bool) (l : List Bool) : natB (x :: l) = x.toNat + 2 * natB l := rfl
/-- The loop's state: i bits of the second one are done. -/
structure TimesSt (w3 : World) (x y i : Nat) (AX : Option Addr) (nX cX : Nat) (lX : List Bool) (AO : Option Addr) (nO cO : Nat) (wr : World) : Prop where
  keep : Keeps NoB w3 wr
  xs : BitsIn wr (fun _ => True) AX nX cX lX
  val : natB lX = x * 2 ^ i
  len : nX = lenB x + i
  out : BitsIn wr (fun _ => True) AO nO cO (digB (x * (y % 2 ^ i)))
theorem times_bit {x y i : Nat} (h : y.testBit i = true) : x * (y % 2 ^ i) + x * 2 ^ i = x * (y % 2 ^ (i + 1)) := by
  rw [mod_bit y i, h, Nat.mul_add]; simp
theorem times_nobit {x y i : Nat} (h : y.testBit i = false) : x * (y % 2 ^ i) = x * (y % 2 ^ (i + 1)) := by
  rw [mod_bit y i, h]; simp
theorem lenB_times {x y : Nat} : lenB (x * y) ≤ lenB x + lenB y := by
  rw [lenB_le, Nat.pow_add]
  have h1 := lenB_le.1 (Nat.le_refl (lenB x)); have h2 := lenB_le.1 (Nat.le_refl (lenB y))
  have h3 : 0 < 2 ^ lenB y := Nat.pow_pos (by decide)
  calc x * y ≤ x * 2 ^ lenB y := Nat.mul_le_mul_left _ (Nat.le_of_lt h2)
    _ < 2 ^ lenB x * 2 ^ lenB y := Nat.mul_lt_mul_of_pos_right h1 h3
theorem lenB_mono {x y : Nat} (h : x ≤ y) : lenB x ≤ lenB y := lenB_le.2 (Nat.lt_of_le_of_lt h (lenB_le.1 (Nat.le_refl _)))
theorem lenB_part {x y i : Nat} : lenB (x * (y % 2 ^ i)) ≤ lenB x + lenB y := Nat.le_trans lenB_times (Nat.add_le_add_left (lenB_mono (Nat.mod_le _ _)) _)
theorem IA.bits {w : World} {B : Nat → Prop} {ng : Bool} {A : Option Addr} {n c : Nat} {z : Int} (h : IA w B ng A n c z) : lenB z.natAbs ≤ 1024 := big_bits.2 (Big_eq ▸ h.room)
set_option maxHeartbeats 4000000 in
set_option maxRecDepth 100000 in
theorem rtimes_any (ng ng' : Bool) (A A' ia ta ia' ta' : Option Addr) (n c n' c' ic tc ic' tc' : Nat) (x y : Int) (w : World) (B B' : Nat → Prop) (h : IA w B ng A n c x) (h' : IA w B' ng' A' n' c' y) :
    Calls Try.prog 12 #[.agg #[.int .u8 1, .bool ng, .slice A n c, .string { data := #[] }, .int .i64 0, .slice ia 0 ic, .slice ta 0 tc], .agg #[.int .u8 1, .bool ng', .slice A' n' c', .string { data := #[] }, .int .i64 0, .slice ia' 0 ic', .slice ta' 0 tc']] w (AnyP w (x * y)) := by
  have hn := h.len; have hn' := h'.len
  have HI := hide h; have HI' := hide h'
  have HS0 := hide (mul_sgn h.sign h'.sign)
  have hb := h.bits; have hb' := h'.bits
  have HTA := hide (h.term ia ta ic tc); have HTB := hide (h'.term ia' ta' ic' tc')
  obtain ⟨i0, hi0, hz0, hz1, hz2⟩ := info_parts Try.info4
  clear h h'
  go_enter Try.func12, Try.ntmps12
  have HX0 := hide (((Blk.new w 26 #[.int .u8 1, .bool ng, .slice A n c, .string { data := #[] }, .int .i64 0, .slice ia 0 ic, .slice ta 0 tc]).alloc (.cells #[.int .u8 1, .bool ng', .slice A' n' c', .string { data := #[] }, .int .i64 0, .slice ia' 0 ic', .slice ta' 0 tc'] 26)).alloc (.cells #[.int .u8 0, .bool false, .slice none 0 0, .string { data := #[] }, .int .i64 0, .slice none 0 0, .slice none 0 0] 26))
  have HY0 := hide ((Blk.new2' w (.cells #[.int .u8 1, .bool ng, .slice A n c, .string { data := #[] }, .int .i64 0, .slice ia 0 ic, .slice ta 0 tc] 26) 26 #[.int .u8 1, .bool ng', .slice A' n' c', .string { data := #[] }, .int .i64 0, .slice ia' 0 ic', .slice ta' 0 tc']).alloc (.cells #[.int .u8 0, .bool false, .slice none 0 0, .string { data := #[] }, .int .i64 0, .slice none 0 0, .slice none 0 0] 26))
  have HZ0 := hide (Blk.new3' w (.cells #[.int .u8 1, .bool ng, .slice A n c, .string { data := #[] }, .int .i64 0, .slice ia 0 ic, .slice ta 0 tc] 26) (.cells #[.int .u8 1, .bool ng', .slice A' n' c', .string { data := #[] }, .int .i64 0, .slice ia' 0 ic', .slice ta' 0 tc'] 26) 26 #[.int .u8 0, .bool false, .slice none 0 0, .string { data := #[] }, .int .i64 0, .slice none 0 0, .slice none 0 0])
  have HK0 := hide ((((Keeps.refl NoB w).alloc (.cells #[.int .u8 1, .bool ng, .slice A n c, .string { data := #[] }, .int .i64 0, .slice ia 0 ic, .slice ta 0 tc] 26)).alloc (.cells #[.int .u8 1, .bool ng', .slice A' n' c', .string { data := #[] }, .int .i64 0, .slice ia' 0 ic', .slice ta' 0 tc'] 26)).alloc (.cells #[.int .u8 0, .bool false, .slice none 0 0, .string { data := #[] }, .int .i64 0, .slice none 0 0, .slice none 0 0] 26))
  have HR1 := hide True.intro
  go_wp2_with first | (clear HR1; go_at_call 33; refine ((HTA.out.keep HK0.out).rright).mono ?_; rintro e w1 ⟨rfl, hk1⟩; have HK1 := hide (HK0.out.trans' hk1 (fun _ _ => id) (fun _ _ => id)); have HX1 := hide (HX0.out.keep hk1 id); have HY1 := hide (HY0.out.keep hk1 id); have HZ1 := hide (HZ0.out.keep hk1 id); clear hk1 HX0 HY0 HZ0 HK0; have y0 : w1.cell? ⟨w.heap.size + 1, 0, none⟩ = some (.int .u8 1) := HY1.out.cell 0; have y1 : w1.cell? ⟨w.heap.size + 1, 1, none⟩ = some (.bool ng') := HY1.out.cell 1; have y2 : w1.cell? ⟨w.heap.size + 1, 2, none⟩ = some (.slice A' n' c') := HY1.out.cell 2; have y3 : w1.cell? ⟨w.heap.size + 1, 3, none⟩ = some (.string { data := #[] }) := HY1.out.cell 3; have y4 : w1.cell? ⟨w.heap.size + 1, 4, none⟩ = some (.int .i64 0) := HY1.out.cell 4; have y5 : w1.cell? ⟨w.heap.size + 1, 5, none⟩ = some (.slice ia' 0 ic') := HY1.out.cell 5; have y6 : w1.cell? ⟨w.heap.size + 1, 6, none⟩ = some (.slice ta' 0 tc') := HY1.out.cell 6) | (go_at_call 33; refine ((HTB.out.keep HK1.out).rright).mono ?_; rintro e w2 ⟨rfl, hk2⟩; have HK2 := hide (HK1.out.trans' hk2 (fun _ _ => id) (fun _ _ => id)); have HX2 := hide (HX1.out.keep hk2 id); have HY2 := hide (HY1.out.keep hk2 id); have HZ2 := hide (HZ1.out.keep hk2 id); clear hk2 HX1 HY1 HZ1 HK1 y0 y1 y2 y3 y4 y5 y6) | fail
  go_wp2_with fail
  refine order_begin (fun W => Keeps NoB w2.drew W) (fun _ => true) (by kernel_rfl) 6 rfl ?_
  have BX := hide (HX2.out.drew); have BY := hide (HY2.out.drew); have BZ := hide (HZ2.out.drew)
  have IX := hide (HI.out.keep (HK2.out.drew)); have IY := hide (HI'.out.keep (HK2.out.drew))
  have HKD := hide (HK2.out.drew)
  generalize w2.drew = W0 at *
  have HS : Keeps NoB W0 W0 := Keeps.refl _ _
  refine order_held (i := 0) rfl (by kernel_rfl) (fun _ _ _ h => h) (.inl ⟨rfl, fun W hW => by
    have q0 : W.cell? ⟨w.heap.size, 0, none⟩ = some (.int .u8 1) := hW.cell id (BX.out.cell 0)
    have q1 : W.cell? ⟨w.heap.size, 1, none⟩ = some (.bool ng) := hW.cell id (BX.out.cell 1)
    have q2 : W.cell? ⟨w.heap.size, 2, none⟩ = some (.slice A n c) := hW.cell id (BX.out.cell 2)
    have q3 : W.cell? ⟨w.heap.size, 3, none⟩ = some (.string { data := #[] }) := hW.cell id (BX.out.cell 3)
    have q4 : W.cell? ⟨w.heap.size, 4, none⟩ = some (.int .i64 0) := hW.cell id (BX.out.cell 4)
    have q5 : W.cell? ⟨w.heap.size, 5, none⟩ = some (.slice ia 0 ic) := hW.cell id (BX.out.cell 5)
    have q6 : W.cell? ⟨w.heap.size, 6, none⟩ = some (.slice ta 0 tc) := hW.cell id (BX.out.cell 6)
    go_simp; rfl⟩) HS ?_
  try simp only [Act.put, List.setIfInBounds_toArray, List.set_cons_succ, List.set_cons_zero]
  refine order_held (i := 2) rfl (by kernel_rfl) (fun _ _ _ h => h) (.inl ⟨rfl, fun W hW => by
    have q0 : W.cell? ⟨w.heap.size + 1, 0, none⟩ = some (.int .u8 1) := hW.cell id (BY.out.cell 0)
    have q1 : W.cell? ⟨w.heap.size + 1, 1, none⟩ = some (.bool ng') := hW.cell id (BY.out.cell 1)
    have q2 : W.cell? ⟨w.heap.size + 1, 2, none⟩ = some (.slice A' n' c') := hW.cell id (BY.out.cell 2)
    have q3 : W.cell? ⟨w.heap.size + 1, 3, none⟩ = some (.string { data := #[] }) := hW.cell id (BY.out.cell 3)
    have q4 : W.cell? ⟨w.heap.size + 1, 4, none⟩ = some (.int .i64 0) := hW.cell id (BY.out.cell 4)
    have q5 : W.cell? ⟨w.heap.size + 1, 5, none⟩ = some (.slice ia' 0 ic') := hW.cell id (BY.out.cell 5)
    have q6 : W.cell? ⟨w.heap.size + 1, 6, none⟩ = some (.slice ta' 0 tc') := hW.cell id (BY.out.cell 6)
    go_simp; rfl⟩) HS ?_
  try simp only [Act.put, List.setIfInBounds_toArray, List.set_cons_succ, List.set_cons_zero]
  clear HS
  refine order_one (i := 1) rfl (by kernel_rfl) (fun K hK => ?_)
  go_simp
  refine (bits_any _ _ _ _ _ _ _ _ _ W0 _ IX.out).mono ?_
  rintro e V1 ⟨A1, n1, c1, rfl, hn1, hb1, hk1⟩
  refine hK _ _ (fun _ hS => hS.trans' hk1 (fun _ _ => id) (fun _ _ => id)) ?_
  clear hK
  have HN1 := hide hn1
  clear hn1
  try simp only [Act.put, List.setIfInBounds_toArray, List.set_cons_succ, List.set_cons_zero]
  refine order_one (i := 3) rfl (by kernel_rfl) (fun K hK => ?_)
  go_simp
  refine (bits_any _ _ _ _ _ _ _ _ _ V1 _ (IY.out.keep hk1)).mono ?_
  rintro e V2 ⟨A2, n2, c2, rfl, hn2, hb2, hk2⟩
  refine hK _ _ (fun _ hS => hS.trans' hk2 (fun _ _ => id) (fun _ _ => id)) ?_
  clear hK
  try simp only [Act.put, List.setIfInBounds_toArray, List.set_cons_succ, List.set_cons_zero]
  have HB1 := hide (hb1.keep hk2); have HB2 := hide hb2; have HN2 := hide hn2
  have HKK : Hid (Keeps NoB W0 V2) := hide (hk1.trans' hk2 (fun _ _ h => h) (fun _ _ h => h))
  have HX3 := hide (BX.out.keep HKK.out id); have HY3 := hide (BY.out.keep HKK.out id); have HZ3 := hide (BZ.out.keep HKK.out id)
  have HK3 := hide (HKD.out.trans' HKK.out (fun _ _ h => h) (fun _ _ h => h))
  clear hk1 hk2 hn2 hb1 hb2 BX BY BZ IX IY HKD
  refine order_pure (i := 4) rfl (by kernel_rfl) (fun _ _ _ h => h) (.inl ⟨rfl, fun _ => by go_simp; rfl⟩) ?_
  try simp only [Act.put, List.setIfInBounds_toArray, List.set_cons_succ, List.set_cons_zero]
  refine order_pure (i := 5) rfl (by kernel_rfl) (fun _ _ _ h => h) (.inl ⟨rfl, fun _ => by go_simp; rfl⟩) ?_
  try simp only [Act.put, List.setIfInBounds_toArray, List.set_cons_succ, List.set_cons_zero]
  refine order_done (by kernel_rfl) ?_
  have HS3 := hide (⟨Keeps.refl _ _, HB1.out.more (fun _ _ _ => trivial), by rw [natB_dig]; simp, by rw [HN1.out]; rfl, by rw [Nat.pow_zero, Nat.mod_one, Nat.mul_zero]; exact BitsIn.nil _ _ _ _ (Nat.zero_le _)⟩ : TimesSt V2 x.natAbs y.natAbs 0 A1 n1 c1 (digB x.natAbs) none 0 0 V2)
  have hN2 : n2 ≤ 1024 := by rw [HN2.out]; exact hb'
  clear HB1 HN1 HX2 HY2 HZ2 HK2 HKK
  go_wp2
  go_loopw [6, 8, 9] (fun xv ov iv wr => ∃ (i : Nat) (AX : Option Addr) (nX cX : Nat) (lX : List Bool) (AO : Option Addr) (nO cO : Nat), xv = .slice AX nX cX ∧ ov = .slice AO nO cO ∧ iv = .int .i64 (i : Int) ∧ i ≤ n2 ∧ Hid (TimesSt V2 x.natAbs y.natAbs i AX nX cX lX AO nO cO wr)) (fun _ _ iv _ => n2 - (intOf iv).toNat)
  case atStart => exact ⟨0, _, _, _, _, _, _, _, rfl, rfl, rfl, Nat.zero_le _, HS3⟩
  case round =>
    obtain ⟨i, AX, nX, cX, lX, AO, nO, cO, rfl, rfl, rfl, hi, HT⟩ := hrel
    by_cases hlt : i < n2
    · obtain ⟨b, o, rfl, hbb, hc⟩ := (HB2.out.keep HT.out.keep).at (by omega)
      have q1 := hc i hlt
      rw [dig_bit] at q1
      have hin0 : (0 : Int) ≤ (i : Int) := by omega
      have hi1 : (i : Int) < (n2 : Int) := by omega
      have hnX : nX ≤ 2048 := by have := HT.out.len; omega
      have hnO : nO ≤ 2048 := by
        have h1 := HT.out.out.len
        rw [digB_len] at h1
        have := lenB_part (x := x.natAbs) (y := y.natAbs) (i := i)
        omega
      cases hbit : y.natAbs.testBit i with
      | false =>
        rw [hbit] at q1
        have HNB := hide (times_nobit (x := x.natAbs) hbit)
        clear hc hbb hbit
        have HXS := hide HT.out.xs
        obtain ⟨F, hrr⟩ := (HXS.out.keep ((Keeps.refl NoB wr).alloc (.cells #[.bool false] 4))).reads
        have HRR := hide hrr
        clear hrr
        go_wp2_with (at_builtin; go_must (refine wpList_append_reads _ rfl (.tmp 36) (.tmp 37) 48 rfl wr.heap.size 4 i0 _ 1 1 Try.underlying48 hi0 hz0 hz1 hz2 rfl (by omega) (.slice (some ⟨wr.heap.size, 0, none⟩) 1 1) 1 [.bool false] rfl ?z1 _ F AX nX cX (bools lX) rfl HRR.out (bools_ones _) ?z3 ?z4 ?z5 ?_))
        case z1 => exact ⟨by simp, .inr ⟨wr.heap.size, 1, #[.bool false], rfl, Nat.le_refl _, heap_alloc_new wr _, Nat.le_refl 1, by unfold maxLen; omega, rfl, rfl⟩⟩
        case z3 => unfold maxLen; omega
        case z4 => omega
        case z5 => simp
        intro v' w5 hown hg hbl
        obtain ⟨A5, c5, hv, hs⟩ := Slab.of_own hown
        subst hv
        have hfr : ∀ k, rowB A5 k → wr.heap.size ≤ k := by
          rintro k ⟨o, rfl⟩
          rcases hown.2 with ⟨hv, _⟩ | ⟨g, cap, cur, hv, hb, _⟩
          · injection hv with hv _ _; cases hv
          · injection hv with hv _ _; injection hv with hv; injection hv with hv _ _; omega
        have HK5 := hide (((Keeps.refl NoB wr).alloc (.cells #[.bool false] 4)).grown hg (fun k h hk => by simp [Value.ownBlock] at h; omega) : Keeps NoB wr w5)
        have HB5 := hide ((BitsIn.of_slab (l := false :: lX) hs).more (B' := fun _ => True) (fun k _ hr => trivial))
        clear hown hg hbl hs hfr HRR
        go_wp2
        go_roundw
        case rel => exact ⟨i + 1, A5, 1 + nX, c5, false :: lX, AO, nO, cO, rfl, rfl, rfl, by omega, hide ⟨HT.out.keep.trans' HK5.out (fun _ _ h => h) (fun _ _ h => h), HB5.out, by rw [natB_cons2, HT.out.val, Nat.pow_succ]; simp; rw [Nat.mul_comm, Nat.mul_assoc], by have := HT.out.len; omega, by rw [← HNB.out]; exact HT.out.out.keep HK5.out⟩⟩
        case measure => simp [intOf]; omega
      | true =>
        rw [hbit] at q1
        have HNB := hide (times_bit (x := x.natAbs) hbit)
        clear hc hbb hbit
        have HSM := hide (bsum_any AO AX nO cO nX cX (max nO nX) _ lX wr _ _ HT.out.out HT.out.xs rfl (by omega))
        rw [natB_dig, HT.out.val, HNB.out] at HSM
        go_upto_region 10 with (go_at_call 37; refine HSM.out.mono ?_; rintro e w4 ⟨A4, n4, c4, rfl, hn4, hb4, hk4⟩; have HO4 := hide (hb4.more (B' := fun _ => True) (fun _ _ _ => trivial)); have HXS := hide (HT.out.xs.keep hk4); have HK4 := hide (HT.out.keep.trans' hk4 (fun _ _ h => h) (fun _ _ h => h)); clear hn4 hb4 hk4)
        obtain ⟨F, hrr⟩ := (HXS.out.keep ((Keeps.refl NoB w4).alloc (.cells #[.bool false] 4))).reads
        have HRR := hide hrr
        clear hrr
        go_wp2_with (at_builtin; go_must (refine wpList_append_reads _ rfl (.tmp 36) (.tmp 37) 48 rfl w4.heap.size 4 i0 _ 1 1 Try.underlying48 hi0 hz0 hz1 hz2 rfl (by omega) (.slice (some ⟨w4.heap.size, 0, none⟩) 1 1) 1 [.bool false] rfl ?z1 _ F AX nX cX (bools lX) rfl HRR.out (bools_ones _) ?z3 ?z4 ?z5 ?_))
        case z1 => exact ⟨by simp, .inr ⟨w4.heap.size, 1, #[.bool false], rfl, Nat.le_refl _, heap_alloc_new w4 _, Nat.le_refl 1, by unfold maxLen; omega, rfl, rfl⟩⟩
        case z3 => unfold maxLen; omega
        case z4 => omega
        case z5 => simp
        intro v' w5 hown hg hbl
        obtain ⟨A5, c5, hv, hs⟩ := Slab.of_own hown
        subst hv
        have hfr : ∀ k, rowB A5 k → w4.heap.size ≤ k := by
          rintro k ⟨o, rfl⟩
          rcases hown.2 with ⟨hv, _⟩ | ⟨g, cap, cur, hv, hb, _⟩
          · injection hv with hv _ _; cases hv
          · injection hv with hv _ _; injection hv with hv; injection hv with hv _ _; omega
        have HK5 := hide (((Keeps.refl NoB w4).alloc (.cells #[.bool false] 4)).grown hg (fun k h hk => by simp [Value.ownBlock] at h; omega) : Keeps NoB w4 w5)
        have HB5 := hide ((BitsIn.of_slab (l := false :: lX) hs).more (B' := fun _ => True) (fun k _ hr => trivial))
        clear hown hg hbl hs hfr HRR
        go_wp2
        go_roundw
        case rel => exact ⟨i + 1, A5, 1 + nX, c5, false :: lX, A4, n4, c4, rfl, rfl, rfl, by omega, hide ⟨HK4.out.trans' HK5.out (fun _ _ h => h) (fun _ _ h => h), HB5.out, by rw [natB_cons2, HT.out.val, Nat.pow_succ]; simp; rw [Nat.mul_comm, Nat.mul_assoc], by have := HT.out.len; omega, HO4.out.keep HK5.out⟩⟩
        case measure => simp [intOf]; omega
    · obtain rfl : n2 = i := by omega
      have hyy : y.natAbs % 2 ^ n2 = y.natAbs := by rw [HN2.out]; exact Nat.mod_eq_of_lt (lenB_le.1 (Nat.le_refl _))
      have hout := HT.out.out
      have hnO : nO ≤ 2048 := by
        have h1 := hout.len
        rw [digB_len] at h1
        have := lenB_part (x := x.natAbs) (y := y.natAbs) (i := n2)
        omega
      rw [hyy] at hout
      have HMD := hide (rmade_any AO nO cO (ng != ng') _ wr _ hout (by omega))
      rw [natB_dig, HS0.out] at HMD
      have x1 : wr.cell? ⟨w.heap.size, 1, none⟩ = some (.bool ng) := HT.out.keep.cell id (HX3.out.cell 1)
      have y1 : wr.cell? ⟨w.heap.size + 1, 1, none⟩ = some (.bool ng') := HT.out.keep.cell id (HY3.out.cell 1)
      have HK4 := hide (HK3.out.trans' HT.out.keep (fun _ _ h => h) (fun _ _ h => h))
      have HZ4 := hide (HZ3.out.keep HT.out.keep id)
      clear hout hyy HT HX3 HY3 HZ3 HK3
      go_wp2_with (go_at_call 38; refine HMD.out.mono ?_; rintro e w5 ⟨kd, ng, A, n, c, ok, rfl, hr, hk⟩; have HB5 := hide (HZ4.out.keep hk id); have HA5 := hide hr; have HK6 := hide (HK4.out.trans' hk (fun _ _ => id) (fun _ _ => id)); clear hr hk; have z0 : w5.cell? ⟨w.heap.size + 1 + 1, 0, none⟩ = some (.int .u8 0) := HB5.out.cell 0; have z1 : w5.cell? ⟨w.heap.size + 1 + 1, 1, none⟩ = some (.bool false) := HB5.out.cell 1; have z2 : w5.cell? ⟨w.heap.size + 1 + 1, 2, none⟩ = some (.slice none 0 0) := HB5.out.cell 2; have z3 : w5.cell? ⟨w.heap.size + 1 + 1, 3, none⟩ = some (.string { data := #[] }) := HB5.out.cell 3; have z4 : w5.cell? ⟨w.heap.size + 1 + 1, 4, none⟩ = some (.int .i64 0) := HB5.out.cell 4; have z5 : w5.cell? ⟨w.heap.size + 1 + 1, 5, none⟩ = some (.slice none 0 0) := HB5.out.cell 5; have z6 : w5.cell? ⟨w.heap.size + 1 + 1, 6, none⟩ = some (.slice none 0 0) := HB5.out.cell 6; have f0 : w5.frozen? ⟨w.heap.size + 1 + 1, 0, none⟩ = false := HB5.out.free 0; have f1 : w5.frozen? ⟨w.heap.size + 1 + 1, 1, none⟩ = false := HB5.out.free 1; have f2 : w5.frozen? ⟨w.heap.size + 1 + 1, 2, none⟩ = false := HB5.out.free 2; have f3 : w5.frozen? ⟨w.heap.size + 1 + 1, 3, none⟩ = false := HB5.out.free 3; have f4 : w5.frozen? ⟨w.heap.size + 1 + 1, 4, none⟩ = false := HB5.out.free 4; have f5 : w5.frozen? ⟨w.heap.size + 1 + 1, 5, none⟩ = false := HB5.out.free 5; have f6 : w5.frozen? ⟨w.heap.size + 1 + 1, 6, none⟩ = false := HB5.out.free 6)
      have hsz := HK4.out.size
      have hsz3 := HZ4.out.lt
      have HBf := hide (HB5.out.put7 (.int .u8 kd) (.bool ng) (.slice A n c) (.string { data := #[] }) (.int .i64 0) (.slice none 0 0) (.slice none 0 0))
      have HKf := hide (HK6.out.set7 (g := w.heap.size + 1 + 1) (by omega) (.int .u8 kd) (.bool ng) (.slice A n c) (.string { data := #[] }) (.int .i64 0) (.slice none 0 0) (.slice none 0 0))
      have HAf := hide ((HA5.out.far (Keeps.set7' (g := w.heap.size + 1 + 1) (.int .u8 kd) (.bool ng) (.slice A n c) (.string { data := #[] }) (.int .i64 0) (.slice none 0 0) (.slice none 0 0)) (fun k hk e => by first | omega | (simp at hk; omega))).more (B' := fun k => w.heap.size ≤ k) (fun k _ hk => by first | omega | (simp at hk; omega)))
      clear z0 z1 z2 z3 z4 z5 z6 f0 f1 f2 f3 f4 f5 f6 HB5 HK6 HA5
      generalize (((((((w5.setCell ⟨w.heap.size + 1 + 1, 0, none⟩ (.int .u8 kd)).setCell ⟨w.heap.size + 1 + 1, 1, none⟩ (.bool ng)).setCell ⟨w.heap.size + 1 + 1, 2, none⟩ (.slice A n c)).setCell ⟨w.heap.size + 1 + 1, 3, none⟩ (.string { data := #[] })).setCell ⟨w.heap.size + 1 + 1, 4, none⟩ (.int .i64 0)).setCell ⟨w.heap.size + 1 + 1, 5, none⟩ (.slice none 0 0)).setCell ⟨w.heap.size + 1 + 1, 6, none⟩ (.slice none 0 0)) = wf at *
      have d0 : wf.cell? ⟨w.heap.size + 1 + 1, 0, none⟩ = some (.int .u8 kd) := HBf.out.cell 0
      have d1 : wf.cell? ⟨w.heap.size + 1 + 1, 1, none⟩ = some (.bool ng) := HBf.out.cell 1
      have d2 : wf.cell? ⟨w.heap.size + 1 + 1, 2, none⟩ = some (.slice A n c) := HBf.out.cell 2
      have d3 : wf.cell? ⟨w.heap.size + 1 + 1, 3, none⟩ = some (.string { data := #[] }) := HBf.out.cell 3
      have d4 : wf.cell? ⟨w.heap.size + 1 + 1, 4, none⟩ = some (.int .i64 0) := HBf.out.cell 4
      have d5 : wf.cell? ⟨w.heap.size + 1 + 1, 5, none⟩ = some (.slice none 0 0) := HBf.out.cell 5
      have d6 : wf.cell? ⟨w.heap.size + 1 + 1, 6, none⟩ = some (.slice none 0 0) := HBf.out.cell 6
      refine bodyPost_ret (v := .tuple #[.agg #[.int .u8 kd, .bool ng, .slice A n c, .string { data := #[] }, .int .i64 0, .slice none 0 0, .slice none 0 0], .bool ok]) (by simp [results, Try.results12, go_sem, d0, d1, d2, d3, d4, d5, d6]) rfl ?_
      exact ⟨kd, ng, A, n, c, ok, rfl, HAf.out, HKf.out⟩
theorem rmade_yes (A : Option Addr) (n c : Nat) (neg : Bool) (l : List Bool) (z : Int) (w : World) (B : Nat → Prop) (h : BitsIn w B A n c l) (hn : n ≤ 5000) (hz : sgn neg (natB l) = z) (hb : z.natAbs < Big) :
    Calls Try.prog 38 #[.slice A n c, .bool neg] w (YesP w z) := by
  subst hz
  refine (rmade_any A n c neg l w B h hn).mono ?_
  rintro e w' ⟨kd, ng, A, n, c, ok, rfl, hk, hkp⟩
  rcases hk with ⟨rfl, rfl, hi⟩ | ⟨_, _, _, _, _, _, hbig⟩
  · exact ⟨ng, A, n, c, rfl, hi, hkp⟩
  · omega
end Go.Proofs.Ytfehciiidmgopaa
