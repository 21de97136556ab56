/- Div: quotient and rest of any two integers. -/
import Derived.Test.YthbbalkhmofndaaGreatDoorLongJn
import Derived.Test.YthbbalkhmofndaaGreatDoorBadJn
namespace Go.Proofs.YthbbalkhmofndaaGreatDoor
set_option maxRecDepth 100000
open Go.RowKit



set_option maxHeartbeats 4000000 in
set_option maxRecDepth 100000 in
theorem div_below (ng ng' : Bool) (A A' ia ta ia' ta' : Option Addr) (n c n' c' ic tc ic' tc' : Nat) (x y : Int) (w : World) (B B' : Nat → Prop) (h : IA w B ng A n c x) (h' : IA w B' ng' A' n' c' y) (hle : x.natAbs < y.natAbs) :
    Calls Tryz.prog 78 #[.agg #[.int .u8 1, .bool ng, .slice A n c, .string { data := #[] }, .int .i64 0, .slice ia 0 ic, .slice ta 0 tc], .agg #[.int .u8 1, .bool ng', .slice A' n' c', .string { data := #[] }, .int .i64 0, .slice ia' 0 ic', .slice ta' 0 tc']] w (DivP w x y) := by
  have HLE := hide hle
  have hnz : ((n' : Int) == 0) = false := by
    have h1 := h'.limbs.len
    have h2 := dig_pos_len (n := y.natAbs)
    have h3 : 0 < (dig y.natAbs).length := h2.2 (by omega)
    simp; omega
  clear hle
  have hn := h.len; have hn' := h'.len
  have hln := h.limbs.len; have hln' := h'.limbs.len
  have HI := hide h; have HI' := hide h'
  clear h h'
  go_enter Tryz.func78, Tryz.ntmps78
  have HX0 := hide ((((Blk.new w 26 #[.int .u8 1, .bool ng, .slice A n c, .string { data := #[] }, .int .i64 0, .slice ia 0 ic, .slice ta 0 tc]).alloc (.cells #[.int .u8 1, .bool ng', .slice A' n' c', .string { data := #[] }, .int .i64 0, .slice ia' 0 ic', .slice ta' 0 tc'] 26)).alloc (.cells #[.int .u8 0, .bool false, .slice none 0 0, .string { data := #[] }, .int .i64 0, .slice none 0 0, .slice none 0 0] 26)).alloc (.cells #[.int .u8 0, .bool false, .slice none 0 0, .string { data := #[] }, .int .i64 0, .slice none 0 0, .slice none 0 0] 26))
  have HY0 := hide (((Blk.new2' w (.cells #[.int .u8 1, .bool ng, .slice A n c, .string { data := #[] }, .int .i64 0, .slice ia 0 ic, .slice ta 0 tc] 26) 26 #[.int .u8 1, .bool ng', .slice A' n' c', .string { data := #[] }, .int .i64 0, .slice ia' 0 ic', .slice ta' 0 tc']).alloc (.cells #[.int .u8 0, .bool false, .slice none 0 0, .string { data := #[] }, .int .i64 0, .slice none 0 0, .slice none 0 0] 26)).alloc (.cells #[.int .u8 0, .bool false, .slice none 0 0, .string { data := #[] }, .int .i64 0, .slice none 0 0, .slice none 0 0] 26))
  have HZ0 := hide ((Blk.new3' w (.cells #[.int .u8 1, .bool ng, .slice A n c, .string { data := #[] }, .int .i64 0, .slice ia 0 ic, .slice ta 0 tc] 26) (.cells #[.int .u8 1, .bool ng', .slice A' n' c', .string { data := #[] }, .int .i64 0, .slice ia' 0 ic', .slice ta' 0 tc'] 26) 26 #[.int .u8 0, .bool false, .slice none 0 0, .string { data := #[] }, .int .i64 0, .slice none 0 0, .slice none 0 0]).alloc (.cells #[.int .u8 0, .bool false, .slice none 0 0, .string { data := #[] }, .int .i64 0, .slice none 0 0, .slice none 0 0] 26))
  have HW0 := hide (Blk.new4' w (.cells #[.int .u8 1, .bool ng, .slice A n c, .string { data := #[] }, .int .i64 0, .slice ia 0 ic, .slice ta 0 tc] 26) (.cells #[.int .u8 1, .bool ng', .slice A' n' c', .string { data := #[] }, .int .i64 0, .slice ia' 0 ic', .slice ta' 0 tc'] 26) (.cells #[.int .u8 0, .bool false, .slice none 0 0, .string { data := #[] }, .int .i64 0, .slice none 0 0, .slice none 0 0] 26) 26 #[.int .u8 0, .bool false, .slice none 0 0, .string { data := #[] }, .int .i64 0, .slice none 0 0, .slice none 0 0])
  have HK0 := hide (((((Keeps.refl NoB w).alloc (.cells #[.int .u8 1, .bool ng, .slice A n c, .string { data := #[] }, .int .i64 0, .slice ia 0 ic, .slice ta 0 tc] 26)).alloc (.cells #[.int .u8 1, .bool ng', .slice A' n' c', .string { data := #[] }, .int .i64 0, .slice ia' 0 ic', .slice ta' 0 tc'] 26)).alloc (.cells #[.int .u8 0, .bool false, .slice none 0 0, .string { data := #[] }, .int .i64 0, .slice none 0 0, .slice none 0 0] 26)).alloc (.cells #[.int .u8 0, .bool false, .slice none 0 0, .string { data := #[] }, .int .i64 0, .slice none 0 0, .slice none 0 0] 26))
  have HR1 := hide True.intro
  go_wp2_with first | (clear HR1; go_at_call 11; refine ((HI.out.keep HK0.out).right _ _ _ _).mono ?_; rintro e w1 ⟨rfl, hk1⟩; have HK1 := hide (HK0.out.trans' hk1 (fun _ _ => id) (fun _ _ => id)); have HX1 := hide (HX0.out.keep hk1 id); have HY1 := hide (HY0.out.keep hk1 id); have HZ1 := hide (HZ0.out.keep hk1 id); have HW1 := hide (HW0.out.keep hk1 id); clear hk1 HX0 HY0 HZ0 HW0 HK0; obtain ⟨y0, y1, y2, y3, y4, y5, y6⟩ := Blk.c7 (show Blk w1 (w.heap.size + 1) _ #[.int .u8 1, .bool ng', .slice A' n' c', .string { data := #[] }, .int .i64 0, .slice ia' 0 ic', .slice ta' 0 tc'] from HY1.out)) | (go_at_call 11; refine ((HI'.out.keep HK1.out).right _ _ _ _).mono ?_; rintro e w2 ⟨rfl, hk2⟩; have HK2 := hide (HK1.out.trans' hk2 (fun _ _ => id) (fun _ _ => id)); have HX2 := hide (HX1.out.keep hk2 id); have HY2 := hide (HY1.out.keep hk2 id); have HZ2 := hide (HZ1.out.keep hk2 id); have HW2 := hide (HW1.out.keep hk2 id); clear hk2 HX1 HY1 HZ1 HW1 HK1 y0 y1 y2 y3 y4 y5 y6; have x2 : w2.cell? ⟨w.heap.size, 2, none⟩ = some (.slice A n c) := HX2.out.cell 2; have y2 : w2.cell? ⟨w.heap.size + 1, 2, none⟩ = some (.slice A' n' c') := HY2.out.cell 2) | (go_at_call 71; refine (amounts_any _ _ _ _ _ _ _ _ _ _ _ ((HI.out.keep HK2.out).limbs) ((HI'.out.keep HK2.out).limbs)).mono ?_; rintro e w3 ⟨r, rfl, hr1, hr2, hr3, hr4, hk3⟩; have hr0 : decide (r < 0) = true := decide_eq_true (hr3.2 HLE.out); have HK3 := hide (HK2.out.trans' hk3 (fun _ _ => id) (fun _ _ => id)); have HX3 := hide (HX2.out.keep hk3 id); have HY3 := hide (HY2.out.keep hk3 id); have HZ3 := hide (HZ2.out.keep hk3 id); have HW3 := hide (HW2.out.keep hk3 id); clear hr1 hr2 hr3 hr4 hk3 HX2 HY2 HZ2 HW2 HK2 x2 y2; have x2 : w3.cell? ⟨w.heap.size, 2, none⟩ = some (.slice A n c) := HX3.out.cell 2; have y2 : w3.cell? ⟨w.heap.size + 1, 2, none⟩ = some (.slice A' n' c') := HY3.out.cell 2; have x1 : w3.cell? ⟨w.heap.size, 1, none⟩ = some (.bool ng) := HX3.out.cell 1; have y1 : w3.cell? ⟨w.heap.size + 1, 1, none⟩ = some (.bool ng') := HY3.out.cell 1) | fail
  obtain ⟨w7, hw7⟩ : ∃ w7, w7 = w3 := ⟨_, rfl⟩
  subst hw7
  have HX7 := HX3; have HY7 := HY3; have HZ7 := HZ3; have HW7 := HW3; have HK7 := HK3
  have HXs := HI.out.sign; have HYs := HI'.out.sign
  have HXL := hide (LimbsIn.nil w7 NoB none 0 (Nat.zero_le _))
  have HYL := hide ((HI.out.limbs.more (B' := fun k => k < w.heap.size) (fun k h _ => h)).keep HK3.out)
  have HBY := hide (show ∀ k, k < w.heap.size → ¬ k = w.heap.size + 1 + 1 from by omega)
  have HQ := hide (show sgn (ng != ng') (nat []) = x.tdiv y from by rw [show nat [] = x.natAbs / y.natAbs from (Nat.div_eq_of_lt HLE.out).symm]; exact div_sgn HXs HYs)
  have HR := hide (show sgn ng (nat (dig x.natAbs)) = x.tmod y from by rw [nat_dig, show x.natAbs = x.natAbs % y.natAbs from (Nat.mod_eq_of_lt HLE.out).symm]; exact mod_sgn HXs)
  have HQB := hide (show nat [] < Big from Nat.lt_of_le_of_lt (Nat.zero_le _) HI.out.room)
  have HRB := hide (show nat (dig x.natAbs) < Big from by rw [nat_dig]; exact HI.out.room)
  clear HX3 HY3 HZ3 HW3 HK3 x2 y2 HXs HYs
  have x1 : w7.cell? ⟨w.heap.size, 1, none⟩ = some (.bool ng) := HX7.out.cell 1
  have y1 : w7.cell? ⟨w.heap.size + 1, 1, none⟩ = some (.bool ng') := HY7.out.cell 1
  have HQ' := hide (show sgn (!(ng == ng')) (nat []) = x.tdiv y from HQ.out)
  have HM1 := hide (made_yes _ _ _ (!(ng == ng')) [] w7 _ HXL.out HQB.out)
  rw [HQ'.out] at HM1
  go_wp2_with (go_at_call 31; refine HM1.out.mono ?_; rintro e w8 ⟨ngq, Aq, nq, cq, rfl, hi8, hk8⟩; have HI8 := hide hi8; have HK8 := hide (HK7.out.trans' hk8 (fun _ _ h => h) (fun _ _ h => h)); have HX8 := hide (HX7.out.keep hk8 id); have HZ8 := hide (HZ7.out.keep hk8 id); have HW8 := hide (HW7.out.keep hk8 id); have HYL8 := hide (HYL.out.keep hk8); have hgw := HW7.out.lt; have HGW := hide hgw; clear hi8 hk8 hgw x1 y1 HX7 HY7 HZ7 HW7 HK7 HYL HM1; have x1 : w8.cell? ⟨w.heap.size, 1, none⟩ = some (.bool ng) := HX8.out.cell 1; obtain ⟨z0, z1, z2, z3, z4, z5, z6⟩ := Blk.c7 (show Blk w8 (w.heap.size + 1 + 1) _ #[.int .u8 0, .bool false, .slice none 0 0, .string { data := #[] }, .int .i64 0, .slice none 0 0, .slice none 0 0] from HZ8.out); obtain ⟨f0, f1, f2, f3, f4, f5, f6⟩ := Blk.f7 (w := w8) (g := w.heap.size + 1 + 1) HZ8.out)
  have HZ9 := hide (HZ8.out.put7 (.int .u8 1) (.bool ngq) (.slice Aq nq cq) (.string { data := #[] }) (.int .i64 0) (.slice none 0 0) (.slice none 0 0))
  have hs9 := Keeps.set7' (w := w8) (g := w.heap.size + 1 + 1) (.int .u8 1) (.bool ngq) (.slice Aq nq cq) (.string { data := #[] }) (.int .i64 0) (.slice none 0 0) (.slice none 0 0)
  have HK9 := hide (HK8.out.set7 (g := w.heap.size + 1 + 1) (by omega) (.int .u8 1) (.bool ngq) (.slice Aq nq cq) (.string { data := #[] }) (.int .i64 0) (.slice none 0 0) (.slice none 0 0))
  have HX9 := hide (HX8.out.keep hs9 (by omega))
  have HW9 := hide (HW8.out.keep hs9 (by omega))
  have HI9 := hide (HI8.out.far hs9 (fun k hk e => absurd (e ▸ hk) (Nat.not_le.2 (Nat.lt_trans (Nat.lt_succ_self _) HGW.out))))
  have HYL9 := hide (HYL8.out.far hs9 HBY.out)
  clear x1 hs9 HZ8 HK8 HX8 HW8 HI8 HYL8 z0 z1 z2 z3 z4 z5 z6 f0 f1 f2 f3 f4 f5 f6
  generalize (((((((w8.setCell ⟨w.heap.size + 1 + 1, 0, none⟩ (.int .u8 1)).setCell ⟨w.heap.size + 1 + 1, 1, none⟩ (.bool ngq)).setCell ⟨w.heap.size + 1 + 1, 2, none⟩ (.slice Aq nq cq)).setCell ⟨w.heap.size + 1 + 1, 3, none⟩ (.string { data := #[] })).setCell ⟨w.heap.size + 1 + 1, 4, none⟩ (.int .i64 0)).setCell ⟨w.heap.size + 1 + 1, 5, none⟩ (.slice none 0 0)).setCell ⟨w.heap.size + 1 + 1, 6, none⟩ (.slice none 0 0)) = w9 at *
  have x1 : w9.cell? ⟨w.heap.size, 1, none⟩ = some (.bool ng) := HX9.out.cell 1
  have HM2 := hide (made_yes _ _ _ ng (dig x.natAbs) w9 _ HYL9.out HRB.out)
  rw [HR.out] at HM2
  go_wp2_with (go_at_call 31; refine HM2.out.mono ?_; rintro e w10 ⟨ngr, Ar, nr, cr, rfl, hi10, hk10⟩; have HI10 := hide hi10; have HK10 := hide (HK9.out.trans' hk10 (fun _ _ h => h) (fun _ _ h => h)); have HZ10 := hide (HZ9.out.keep hk10 id); have HW10 := hide (HW9.out.keep hk10 id); have HQ10 := hide (HI9.out.keep hk10); have hgw := HW9.out.lt; have HGW9 := hide hgw; clear hi10 hk10 hgw x1 HX9 HZ9 HW9 HK9 HYL9 HM2 HI9; obtain ⟨z0, z1, z2, z3, z4, z5, z6⟩ := Blk.c7 (show Blk w10 (w.heap.size + 1 + 1 + 1) _ #[.int .u8 0, .bool false, .slice none 0 0, .string { data := #[] }, .int .i64 0, .slice none 0 0, .slice none 0 0] from HW10.out); obtain ⟨f0, f1, f2, f3, f4, f5, f6⟩ := Blk.f7 (w := w10) (g := w.heap.size + 1 + 1 + 1) HW10.out)
  have HW11 := hide (HW10.out.put7 (.int .u8 1) (.bool ngr) (.slice Ar nr cr) (.string { data := #[] }) (.int .i64 0) (.slice none 0 0) (.slice none 0 0))
  have hs11 := Keeps.set7' (w := w10) (g := w.heap.size + 1 + 1 + 1) (.int .u8 1) (.bool ngr) (.slice Ar nr cr) (.string { data := #[] }) (.int .i64 0) (.slice none 0 0) (.slice none 0 0)
  have HK11 := hide (HK10.out.set7 (g := w.heap.size + 1 + 1 + 1) (by omega) (.int .u8 1) (.bool ngr) (.slice Ar nr cr) (.string { data := #[] }) (.int .i64 0) (.slice none 0 0) (.slice none 0 0))
  have HZ11 := hide (HZ10.out.keep hs11 (by omega))
  have HQ11 := hide (HQ10.out.far hs11 (fun k hk e => absurd (e ▸ hk) (Nat.not_le.2 HGW.out)))
  have HR11 := hide (HI10.out.far hs11 (fun k hk e => absurd (e ▸ hk) (Nat.not_le.2 HGW9.out)))
  clear hs11 HW10 HK10 HZ10 HQ10 HI10 z0 z1 z2 z3 z4 z5 z6 f0 f1 f2 f3 f4 f5 f6
  generalize (((((((w10.setCell ⟨w.heap.size + 1 + 1 + 1, 0, none⟩ (.int .u8 1)).setCell ⟨w.heap.size + 1 + 1 + 1, 1, none⟩ (.bool ngr)).setCell ⟨w.heap.size + 1 + 1 + 1, 2, none⟩ (.slice Ar nr cr)).setCell ⟨w.heap.size + 1 + 1 + 1, 3, none⟩ (.string { data := #[] })).setCell ⟨w.heap.size + 1 + 1 + 1, 4, none⟩ (.int .i64 0)).setCell ⟨w.heap.size + 1 + 1 + 1, 5, none⟩ (.slice none 0 0)).setCell ⟨w.heap.size + 1 + 1 + 1, 6, none⟩ (.slice none 0 0)) = w11 at *
  have HB7 := hide (show w.heap.size ≤ w7.heap.size ∧ w.heap.size ≤ w9.heap.size from by have h1 := HGW.out; have h2 := HGW9.out; omega)
  have HQ12 := hide (HQ11.out.more (B' := fun k => w.heap.size ≤ k ∧ ¬ k = w.heap.size + 1 + 1 ∧ ¬ k = w.heap.size + 1 + 1 + 1) (fun k _ hk => by have h1 := HGW.out; have h2 : w7.heap.size ≤ k := hk; omega))
  have HR12 := hide (HR11.out.more (B' := fun k => w.heap.size ≤ k ∧ ¬ k = w.heap.size + 1 + 1 ∧ ¬ k = w.heap.size + 1 + 1 + 1) (fun k _ hk => by have h1 := HGW9.out; have h2 : w9.heap.size ≤ k := hk; omega))
  have HG0 := hide (show w.heap.size ≤ w.heap.size + 1 + 1 ∧ w.heap.size ≤ w.heap.size + 1 + 1 + 1 ∧ ¬ w.heap.size + 1 + 1 = w.heap.size + 1 + 1 + 1 from by omega)
  clear HB7 HQ11 HR11 HGW HGW9
  generalize w.heap.size + 1 + 1 + 1 = G3 at *
  generalize w.heap.size + 1 + 1 = G2 at *
  refine order_begin (fun W => Blk W G2 26 #[.int .u8 1, .bool ngq, .slice Aq nq cq, .string { data := #[] }, .int .i64 0, .slice none 0 0, .slice none 0 0] ∧ Blk W G3 26 #[.int .u8 1, .bool ngr, .slice Ar nr cr, .string { data := #[] }, .int .i64 0, .slice none 0 0, .slice none 0 0]) (fun _ => true) (by kernel_rfl) 5 rfl ?_
  have HKd := hide HK11.out.drew; have HQd := hide (HQ12.out.keep (Keeps.refl NoB w11).drew); have HRd := hide (HR12.out.keep (Keeps.refl NoB w11).drew)
  have HS : Blk w11.drew G2 26 #[.int .u8 1, .bool ngq, .slice Aq nq cq, .string { data := #[] }, .int .i64 0, .slice none 0 0, .slice none 0 0] ∧ Blk w11.drew G3 26 #[.int .u8 1, .bool ngr, .slice Ar nr cr, .string { data := #[] }, .int .i64 0, .slice none 0 0, .slice none 0 0] := ⟨HZ11.out.drew, HW11.out.drew⟩
  clear HK11 HQ12 HR12 HZ11 HW11
  generalize w11.drew = W0 at *
  refine order_held (i := 0) rfl (by kernel_rfl) (fun _ _ _ h => h) (.inl ⟨rfl, fun W hW => by
    have q0 : W.cell? ⟨G2, 0, none⟩ = some (.int .u8 1) := hW.1.cell 0
    have q1 : W.cell? ⟨G2, 1, none⟩ = some (.bool ngq) := hW.1.cell 1
    have q2 : W.cell? ⟨G2, 2, none⟩ = some (.slice Aq nq cq) := hW.1.cell 2
    have q3 : W.cell? ⟨G2, 3, none⟩ = some (.string { data := #[] }) := hW.1.cell 3
    have q4 : W.cell? ⟨G2, 4, none⟩ = some (.int .i64 0) := hW.1.cell 4
    have q5 : W.cell? ⟨G2, 5, none⟩ = some (.slice none 0 0) := hW.1.cell 5
    have q6 : W.cell? ⟨G2, 6, none⟩ = some (.slice none 0 0) := hW.1.cell 6
    go_simp; rfl⟩) HS ?_
  try simp only [Act.put, List.setIfInBounds_toArray, List.set_cons_succ, List.set_cons_zero]
  refine order_held (i := 1) rfl (by kernel_rfl) (fun _ _ _ h => h) (.inl ⟨rfl, fun W hW => by
    have q0 : W.cell? ⟨G3, 0, none⟩ = some (.int .u8 1) := hW.2.cell 0
    have q1 : W.cell? ⟨G3, 1, none⟩ = some (.bool ngr) := hW.2.cell 1
    have q2 : W.cell? ⟨G3, 2, none⟩ = some (.slice Ar nr cr) := hW.2.cell 2
    have q3 : W.cell? ⟨G3, 3, none⟩ = some (.string { data := #[] }) := hW.2.cell 3
    have q4 : W.cell? ⟨G3, 4, none⟩ = some (.int .i64 0) := hW.2.cell 4
    have q5 : W.cell? ⟨G3, 5, none⟩ = some (.slice none 0 0) := hW.2.cell 5
    have q6 : W.cell? ⟨G3, 6, none⟩ = some (.slice none 0 0) := hW.2.cell 6
    go_simp; rfl⟩) HS ?_
  try simp only [Act.put, List.setIfInBounds_toArray, List.set_cons_succ, List.set_cons_zero]
  have HSQ := hide HS.1
  obtain ⟨z0, z1, z2, z3, z4, z5, z6⟩ := Blk.c7 (show Blk W0 (G2) _ #[.int .u8 1, .bool ngq, .slice Aq nq cq, .string { data := #[] }, .int .i64 0, .slice none 0 0, .slice none 0 0] from HSQ.out)
  obtain ⟨f0, f1, f2, f3, f4, f5, f6⟩ := Blk.f7 (w := W0) (g := G2) HSQ.out
  refine order_one (i := 2) rfl (by kernel_rfl) (fun K hK => ?_)
  go_simp
  have hs := Keeps.set7' (w := W0) (g := G2) (.int .u8 1) (.bool ngq) (.slice Aq nq cq) (.string { data := #[] }) (.int .i64 0) (.slice none 0 0) (.slice none 0 0)
  refine hK _ _ (fun _ hS => ⟨hS.1.put7 (.int .u8 1) (.bool ngq) (.slice Aq nq cq) (.string { data := #[] }) (.int .i64 0) (.slice none 0 0) (.slice none 0 0), hS.2.keep hs (fun e => HG0.out.2.2 e.symm)⟩) ?_
  clear hK
  try simp only [Act.put, List.setIfInBounds_toArray, List.set_cons_succ, List.set_cons_zero]
  have HQe := hide (HQd.out.far hs (fun k hk e => hk.2.1 e)); have HRe := hide (HRd.out.far hs (fun k hk e => hk.2.1 e)); have HKe := hide (HKd.out.set7 (g := G2) HG0.out.1 (.int .u8 1) (.bool ngq) (.slice Aq nq cq) (.string { data := #[] }) (.int .i64 0) (.slice none 0 0) (.slice none 0 0))
  have HSe := hide (And.intro (HS.1.put7 (.int .u8 1) (.bool ngq) (.slice Aq nq cq) (.string { data := #[] }) (.int .i64 0) (.slice none 0 0) (.slice none 0 0)) (HS.2.keep hs (fun e => HG0.out.2.2 e.symm)))
  clear hs HQd HRd HKd HS HSQ z0 z1 z2 z3 z4 z5 z6 f0 f1 f2 f3 f4 f5 f6
  generalize (((((((W0.setCell ⟨G2, 0, none⟩ (.int .u8 1)).setCell ⟨G2, 1, none⟩ (.bool ngq)).setCell ⟨G2, 2, none⟩ (.slice Aq nq cq)).setCell ⟨G2, 3, none⟩ (.string { data := #[] })).setCell ⟨G2, 4, none⟩ (.int .i64 0)).setCell ⟨G2, 5, none⟩ (.slice none 0 0)).setCell ⟨G2, 6, none⟩ (.slice none 0 0)) = W2 at *
  have HSR := hide HSe.out.2
  obtain ⟨z0, z1, z2, z3, z4, z5, z6⟩ := Blk.c7 (show Blk W2 (G3) _ #[.int .u8 1, .bool ngr, .slice Ar nr cr, .string { data := #[] }, .int .i64 0, .slice none 0 0, .slice none 0 0] from HSR.out)
  obtain ⟨f0, f1, f2, f3, f4, f5, f6⟩ := Blk.f7 (w := W2) (g := G3) HSR.out
  refine order_one (i := 3) rfl (by kernel_rfl) (fun K hK => ?_)
  go_simp
  have hs := Keeps.set7' (w := W2) (g := G3) (.int .u8 1) (.bool ngr) (.slice Ar nr cr) (.string { data := #[] }) (.int .i64 0) (.slice none 0 0) (.slice none 0 0)
  refine hK _ _ (fun _ hS => ⟨hS.1.keep hs HG0.out.2.2, hS.2.put7 (.int .u8 1) (.bool ngr) (.slice Ar nr cr) (.string { data := #[] }) (.int .i64 0) (.slice none 0 0) (.slice none 0 0)⟩) ?_
  clear hK
  try simp only [Act.put, List.setIfInBounds_toArray, List.set_cons_succ, List.set_cons_zero]
  have HQf := hide ((HQe.out.far hs (fun k hk e => hk.2.2 e)).more (B' := fun k => w.heap.size ≤ k) (fun k _ hk => hk.1)); have HRf := hide ((HRe.out.far hs (fun k hk e => hk.2.2 e)).more (B' := fun k => w.heap.size ≤ k) (fun k _ hk => hk.1)); have HKf := hide (HKe.out.set7 (g := G3) HG0.out.2.1 (.int .u8 1) (.bool ngr) (.slice Ar nr cr) (.string { data := #[] }) (.int .i64 0) (.slice none 0 0) (.slice none 0 0))
  have HSf := hide (And.intro (HSe.out.1.keep hs HG0.out.2.2) (HSe.out.2.put7 (.int .u8 1) (.bool ngr) (.slice Ar nr cr) (.string { data := #[] }) (.int .i64 0) (.slice none 0 0) (.slice none 0 0)))
  clear hs HQe HRe HKe HSe HSR z0 z1 z2 z3 z4 z5 z6 f0 f1 f2 f3 f4 f5 f6
  generalize (((((((W2.setCell ⟨G3, 0, none⟩ (.int .u8 1)).setCell ⟨G3, 1, none⟩ (.bool ngr)).setCell ⟨G3, 2, none⟩ (.slice Ar nr cr)).setCell ⟨G3, 3, none⟩ (.string { data := #[] })).setCell ⟨G3, 4, none⟩ (.int .i64 0)).setCell ⟨G3, 5, none⟩ (.slice none 0 0)).setCell ⟨G3, 6, none⟩ (.slice none 0 0)) = W3 at *
  refine order_pure (i := 4) rfl (by kernel_rfl) (fun _ _ _ h => h) (.inl ⟨rfl, fun _ => by go_simp; rfl⟩) ?_
  try simp only [Act.put, List.setIfInBounds_toArray, List.set_cons_succ, List.set_cons_zero]
  refine order_done (by kernel_rfl) ?_
  go_wp2
  have HA := hide HSf.out.1; have HB := hide HSf.out.2
  obtain ⟨c0, c1, c2, c3, c4, c5, c6⟩ := Blk.c7 (show Blk W3 (G2) _ #[.int .u8 1, .bool ngq, .slice Aq nq cq, .string { data := #[] }, .int .i64 0, .slice none 0 0, .slice none 0 0] from HA.out)
  obtain ⟨d0, d1, d2, d3, d4, d5, d6⟩ := Blk.c7 (show Blk W3 (G3) _ #[.int .u8 1, .bool ngr, .slice Ar nr cr, .string { data := #[] }, .int .i64 0, .slice none 0 0, .slice none 0 0] from HB.out)
  refine bodyPost_ret (v := .tuple #[.agg #[.int .u8 1, .bool ngq, .slice Aq nq cq, .string { data := #[] }, .int .i64 0, .slice none 0 0, .slice none 0 0], .agg #[.int .u8 1, .bool ngr, .slice Ar nr cr, .string { data := #[] }, .int .i64 0, .slice none 0 0, .slice none 0 0], .bool true]) (by simp [results, Tryz.results78, go_sem, c0, c1, c2, c3, c4, c5, c6, d0, d1, d2, d3, d4, d5, d6]) rfl ?_
  exact ⟨ngq, Aq, nq, cq, ngr, Ar, nr, cr, rfl, HQf.out, HRf.out, HKf.out⟩
set_option maxHeartbeats 4000000 in
set_option maxRecDepth 100000 in
theorem div_long (ng ng' : Bool) (A A' ia ta ia' ta' : Option Addr) (n c n' c' ic tc ic' tc' : Nat) (x y : Int) (w : World) (B B' : Nat → Prop) (h : IA w B ng A n c x) (h' : IA w B' ng' A' n' c' y) (hle : y.natAbs ≤ x.natAbs) (h1 : 2 ≤ n') :
    Calls Tryz.prog 78 #[.agg #[.int .u8 1, .bool ng, .slice A n c, .string { data := #[] }, .int .i64 0, .slice ia 0 ic, .slice ta 0 tc], .agg #[.int .u8 1, .bool ng', .slice A' n' c', .string { data := #[] }, .int .i64 0, .slice ia' 0 ic', .slice ta' 0 tc']] w (DivP w x y) := by
  have HLE := hide hle; clear hle
  have hnz : ((n' : Int) == 0) = false := by simp; omega
  have hn1 : ((n' : Int) == 1) = false := by simp; omega
  have H1 := hide h1; clear h1
  have hn := h.len; have hn' := h'.len
  have hln := h.limbs.len; have hln' := h'.limbs.len
  have HI := hide h; have HI' := hide h'
  clear h h'
  go_enter Tryz.func78, Tryz.ntmps78
  have HX0 := hide ((((Blk.new w 26 #[.int .u8 1, .bool ng, .slice A n c, .string { data := #[] }, .int .i64 0, .slice ia 0 ic, .slice ta 0 tc]).alloc (.cells #[.int .u8 1, .bool ng', .slice A' n' c', .string { data := #[] }, .int .i64 0, .slice ia' 0 ic', .slice ta' 0 tc'] 26)).alloc (.cells #[.int .u8 0, .bool false, .slice none 0 0, .string { data := #[] }, .int .i64 0, .slice none 0 0, .slice none 0 0] 26)).alloc (.cells #[.int .u8 0, .bool false, .slice none 0 0, .string { data := #[] }, .int .i64 0, .slice none 0 0, .slice none 0 0] 26))
  have HY0 := hide (((Blk.new2' w (.cells #[.int .u8 1, .bool ng, .slice A n c, .string { data := #[] }, .int .i64 0, .slice ia 0 ic, .slice ta 0 tc] 26) 26 #[.int .u8 1, .bool ng', .slice A' n' c', .string { data := #[] }, .int .i64 0, .slice ia' 0 ic', .slice ta' 0 tc']).alloc (.cells #[.int .u8 0, .bool false, .slice none 0 0, .string { data := #[] }, .int .i64 0, .slice none 0 0, .slice none 0 0] 26)).alloc (.cells #[.int .u8 0, .bool false, .slice none 0 0, .string { data := #[] }, .int .i64 0, .slice none 0 0, .slice none 0 0] 26))
  have HZ0 := hide ((Blk.new3' w (.cells #[.int .u8 1, .bool ng, .slice A n c, .string { data := #[] }, .int .i64 0, .slice ia 0 ic, .slice ta 0 tc] 26) (.cells #[.int .u8 1, .bool ng', .slice A' n' c', .string { data := #[] }, .int .i64 0, .slice ia' 0 ic', .slice ta' 0 tc'] 26) 26 #[.int .u8 0, .bool false, .slice none 0 0, .string { data := #[] }, .int .i64 0, .slice none 0 0, .slice none 0 0]).alloc (.cells #[.int .u8 0, .bool false, .slice none 0 0, .string { data := #[] }, .int .i64 0, .slice none 0 0, .slice none 0 0] 26))
  have HW0 := hide (Blk.new4' w (.cells #[.int .u8 1, .bool ng, .slice A n c, .string { data := #[] }, .int .i64 0, .slice ia 0 ic, .slice ta 0 tc] 26) (.cells #[.int .u8 1, .bool ng', .slice A' n' c', .string { data := #[] }, .int .i64 0, .slice ia' 0 ic', .slice ta' 0 tc'] 26) (.cells #[.int .u8 0, .bool false, .slice none 0 0, .string { data := #[] }, .int .i64 0, .slice none 0 0, .slice none 0 0] 26) 26 #[.int .u8 0, .bool false, .slice none 0 0, .string { data := #[] }, .int .i64 0, .slice none 0 0, .slice none 0 0])
  have HK0 := hide (((((Keeps.refl NoB w).alloc (.cells #[.int .u8 1, .bool ng, .slice A n c, .string { data := #[] }, .int .i64 0, .slice ia 0 ic, .slice ta 0 tc] 26)).alloc (.cells #[.int .u8 1, .bool ng', .slice A' n' c', .string { data := #[] }, .int .i64 0, .slice ia' 0 ic', .slice ta' 0 tc'] 26)).alloc (.cells #[.int .u8 0, .bool false, .slice none 0 0, .string { data := #[] }, .int .i64 0, .slice none 0 0, .slice none 0 0] 26)).alloc (.cells #[.int .u8 0, .bool false, .slice none 0 0, .string { data := #[] }, .int .i64 0, .slice none 0 0, .slice none 0 0] 26))
  have HR1 := hide True.intro
  go_wp2_with first | (clear HR1; go_at_call 11; refine ((HI.out.keep HK0.out).right _ _ _ _).mono ?_; rintro e w1 ⟨rfl, hk1⟩; have HK1 := hide (HK0.out.trans' hk1 (fun _ _ => id) (fun _ _ => id)); have HX1 := hide (HX0.out.keep hk1 id); have HY1 := hide (HY0.out.keep hk1 id); have HZ1 := hide (HZ0.out.keep hk1 id); have HW1 := hide (HW0.out.keep hk1 id); clear hk1 HX0 HY0 HZ0 HW0 HK0; obtain ⟨y0, y1, y2, y3, y4, y5, y6⟩ := Blk.c7 (show Blk w1 (w.heap.size + 1) _ #[.int .u8 1, .bool ng', .slice A' n' c', .string { data := #[] }, .int .i64 0, .slice ia' 0 ic', .slice ta' 0 tc'] from HY1.out)) | (go_at_call 11; refine ((HI'.out.keep HK1.out).right _ _ _ _).mono ?_; rintro e w2 ⟨rfl, hk2⟩; have HK2 := hide (HK1.out.trans' hk2 (fun _ _ => id) (fun _ _ => id)); have HX2 := hide (HX1.out.keep hk2 id); have HY2 := hide (HY1.out.keep hk2 id); have HZ2 := hide (HZ1.out.keep hk2 id); have HW2 := hide (HW1.out.keep hk2 id); clear hk2 HX1 HY1 HZ1 HW1 HK1 y0 y1 y2 y3 y4 y5 y6; have x2 : w2.cell? ⟨w.heap.size, 2, none⟩ = some (.slice A n c) := HX2.out.cell 2; have y2 : w2.cell? ⟨w.heap.size + 1, 2, none⟩ = some (.slice A' n' c') := HY2.out.cell 2) | (go_at_call 71; refine (amounts_any _ _ _ _ _ _ _ _ _ _ _ ((HI.out.keep HK2.out).limbs) ((HI'.out.keep HK2.out).limbs)).mono ?_; rintro e w3 ⟨r, rfl, hr1, hr2, hr3, hr4, hk3⟩; have hr0 : decide (r < 0) = false := decide_eq_false (fun e => absurd (hr3.1 e) (Nat.not_lt.2 HLE.out)); have HK3 := hide (HK2.out.trans' hk3 (fun _ _ => id) (fun _ _ => id)); have HX3 := hide (HX2.out.keep hk3 id); have HY3 := hide (HY2.out.keep hk3 id); have HZ3 := hide (HZ2.out.keep hk3 id); have HW3 := hide (HW2.out.keep hk3 id); clear hr1 hr2 hr3 hr4 hk3 HX2 HY2 HZ2 HW2 HK2 x2 y2; have x2 : w3.cell? ⟨w.heap.size, 2, none⟩ = some (.slice A n c) := HX3.out.cell 2; have y2 : w3.cell? ⟨w.heap.size + 1, 2, none⟩ = some (.slice A' n' c') := HY3.out.cell 2; have x1 : w3.cell? ⟨w.heap.size, 1, none⟩ = some (.bool ng) := HX3.out.cell 1; have y1 : w3.cell? ⟨w.heap.size + 1, 1, none⟩ = some (.bool ng') := HY3.out.cell 1) | fail
  have hnn : n' ≤ n := by
    rcases Nat.lt_or_ge n n' with e | e
    · have := dig_len_lt (a := x.natAbs) (b := y.natAbs) (by omega)
      have := HLE.out; omega
    · exact e
  have htop : (dig y.natAbs).getD (n' - 1) 0 ≠ 0 := by
    rcases dig_norm y.natAbs with e | e
    · rw [e] at hln'; have := H1.out; simp at hln'; omega
    · rw [hln'] at e; exact e
  have HLG := hide (long_any A A' n c n' c' (dig x.natAbs) (dig y.natAbs) w3 _ _ (HI.out.limbs.keep HK3.out) (HI'.out.limbs.keep HK3.out) H1.out hnn hn htop)
  rw [nat_dig, nat_dig] at HLG
  have HXs := hide HI.out.sign; have HYs := hide HI'.out.sign
  have HWL := HW3.out.lt
  have hn' := hn
  clear hnn htop
  go_wp2_with (go_at_call 94; refine HLG.out.mono ?_; rintro e w7 ⟨L, Oq, Or, qs, rs, rfl, hLn, hOq, hOr, hrq, hrr, hlq, hlr, hwq, hwr, hval, hrlt, hk7⟩; have HX7 := hide (HX3.out.keep hk7 id); have HY7 := hide (HY3.out.keep hk7 id); have HZ7 := hide (HZ3.out.keep hk7 id); have HW7 := hide (HW3.out.keep hk7 id); have HK7 := hide (HK3.out.trans' hk7 (fun _ _ h => h) (fun _ _ h => h)); have HXL := hide (hrq.limbs hlq (by unfold maxLen; omega) hwq); have HYL := hide (hrr.limbs hlr (by unfold maxLen; omega) hwr); have HBY := hide (show ∀ k, k = Or → ¬ k = w.heap.size + 1 + 1 from (by omega)); have HDM := hide (div_mod_of hval hrlt); have x1 : w7.cell? ⟨w.heap.size, 1, none⟩ = some (.bool ng) := HX7.out.cell 1; have y1 : w7.cell? ⟨w.heap.size + 1, 1, none⟩ = some (.bool ng') := HY7.out.cell 1; clear hLn hOq hOr hrq hrr hlq hlr hwq hwr hval hrlt hk7 HX3 HY3 HZ3 HW3 HK3 x2 y2 HLG)
  have HQ := hide (show sgn (ng != ng') (nat qs) = x.tdiv y from HDM.out.1 ▸ div_sgn HXs.out HYs.out)
  have HR := hide (show sgn ng (nat rs) = x.tmod y from by rw [HDM.out.2]; exact mod_sgn HXs.out)
  have HQB := hide (show nat qs < Big from HDM.out.1 ▸ Nat.lt_of_le_of_lt (Nat.div_le_self _ _) HI.out.room)
  have HRB := hide (show nat rs < Big from by rw [HDM.out.2]; exact Nat.lt_of_le_of_lt (Nat.mod_le _ _) HI.out.room)
  clear HXs HYs HWL HDM hn'
  have x1 : w7.cell? ⟨w.heap.size, 1, none⟩ = some (.bool ng) := HX7.out.cell 1
  have y1 : w7.cell? ⟨w.heap.size + 1, 1, none⟩ = some (.bool ng') := HY7.out.cell 1
  have HQ' := hide (show sgn (!(ng == ng')) (nat qs) = x.tdiv y from HQ.out)
  have HM1 := hide (made_yes _ _ _ (!(ng == ng')) qs w7 _ HXL.out HQB.out)
  rw [HQ'.out] at HM1
  go_wp2_with (go_at_call 31; refine HM1.out.mono ?_; rintro e w8 ⟨ngq, Aq, nq, cq, rfl, hi8, hk8⟩; have HI8 := hide hi8; have HK8 := hide (HK7.out.trans' hk8 (fun _ _ h => h) (fun _ _ h => h)); have HX8 := hide (HX7.out.keep hk8 id); have HZ8 := hide (HZ7.out.keep hk8 id); have HW8 := hide (HW7.out.keep hk8 id); have HYL8 := hide (HYL.out.keep hk8); have hgw := HW7.out.lt; have HGW := hide hgw; clear hi8 hk8 hgw x1 y1 HX7 HY7 HZ7 HW7 HK7 HYL HM1; have x1 : w8.cell? ⟨w.heap.size, 1, none⟩ = some (.bool ng) := HX8.out.cell 1; obtain ⟨z0, z1, z2, z3, z4, z5, z6⟩ := Blk.c7 (show Blk w8 (w.heap.size + 1 + 1) _ #[.int .u8 0, .bool false, .slice none 0 0, .string { data := #[] }, .int .i64 0, .slice none 0 0, .slice none 0 0] from HZ8.out); obtain ⟨f0, f1, f2, f3, f4, f5, f6⟩ := Blk.f7 (w := w8) (g := w.heap.size + 1 + 1) HZ8.out)
  have HZ9 := hide (HZ8.out.put7 (.int .u8 1) (.bool ngq) (.slice Aq nq cq) (.string { data := #[] }) (.int .i64 0) (.slice none 0 0) (.slice none 0 0))
  have hs9 := Keeps.set7' (w := w8) (g := w.heap.size + 1 + 1) (.int .u8 1) (.bool ngq) (.slice Aq nq cq) (.string { data := #[] }) (.int .i64 0) (.slice none 0 0) (.slice none 0 0)
  have HK9 := hide (HK8.out.set7 (g := w.heap.size + 1 + 1) (by omega) (.int .u8 1) (.bool ngq) (.slice Aq nq cq) (.string { data := #[] }) (.int .i64 0) (.slice none 0 0) (.slice none 0 0))
  have HX9 := hide (HX8.out.keep hs9 (by omega))
  have HW9 := hide (HW8.out.keep hs9 (by omega))
  have HI9 := hide (HI8.out.far hs9 (fun k hk e => absurd (e ▸ hk) (Nat.not_le.2 (Nat.lt_trans (Nat.lt_succ_self _) HGW.out))))
  have HYL9 := hide (HYL8.out.far hs9 HBY.out)
  clear x1 hs9 HZ8 HK8 HX8 HW8 HI8 HYL8 z0 z1 z2 z3 z4 z5 z6 f0 f1 f2 f3 f4 f5 f6
  generalize (((((((w8.setCell ⟨w.heap.size + 1 + 1, 0, none⟩ (.int .u8 1)).setCell ⟨w.heap.size + 1 + 1, 1, none⟩ (.bool ngq)).setCell ⟨w.heap.size + 1 + 1, 2, none⟩ (.slice Aq nq cq)).setCell ⟨w.heap.size + 1 + 1, 3, none⟩ (.string { data := #[] })).setCell ⟨w.heap.size + 1 + 1, 4, none⟩ (.int .i64 0)).setCell ⟨w.heap.size + 1 + 1, 5, none⟩ (.slice none 0 0)).setCell ⟨w.heap.size + 1 + 1, 6, none⟩ (.slice none 0 0)) = w9 at *
  have x1 : w9.cell? ⟨w.heap.size, 1, none⟩ = some (.bool ng) := HX9.out.cell 1
  have HM2 := hide (made_yes _ _ _ ng rs w9 _ HYL9.out HRB.out)
  rw [HR.out] at HM2
  go_wp2_with (go_at_call 31; refine HM2.out.mono ?_; rintro e w10 ⟨ngr, Ar, nr, cr, rfl, hi10, hk10⟩; have HI10 := hide hi10; have HK10 := hide (HK9.out.trans' hk10 (fun _ _ h => h) (fun _ _ h => h)); have HZ10 := hide (HZ9.out.keep hk10 id); have HW10 := hide (HW9.out.keep hk10 id); have HQ10 := hide (HI9.out.keep hk10); have hgw := HW9.out.lt; have HGW9 := hide hgw; clear hi10 hk10 hgw x1 HX9 HZ9 HW9 HK9 HYL9 HM2 HI9; obtain ⟨z0, z1, z2, z3, z4, z5, z6⟩ := Blk.c7 (show Blk w10 (w.heap.size + 1 + 1 + 1) _ #[.int .u8 0, .bool false, .slice none 0 0, .string { data := #[] }, .int .i64 0, .slice none 0 0, .slice none 0 0] from HW10.out); obtain ⟨f0, f1, f2, f3, f4, f5, f6⟩ := Blk.f7 (w := w10) (g := w.heap.size + 1 + 1 + 1) HW10.out)
  have HW11 := hide (HW10.out.put7 (.int .u8 1) (.bool ngr) (.slice Ar nr cr) (.string { data := #[] }) (.int .i64 0) (.slice none 0 0) (.slice none 0 0))
  have hs11 := Keeps.set7' (w := w10) (g := w.heap.size + 1 + 1 + 1) (.int .u8 1) (.bool ngr) (.slice Ar nr cr) (.string { data := #[] }) (.int .i64 0) (.slice none 0 0) (.slice none 0 0)
  have HK11 := hide (HK10.out.set7 (g := w.heap.size + 1 + 1 + 1) (by omega) (.int .u8 1) (.bool ngr) (.slice Ar nr cr) (.string { data := #[] }) (.int .i64 0) (.slice none 0 0) (.slice none 0 0))
  have HZ11 := hide (HZ10.out.keep hs11 (by omega))
  have HQ11 := hide (HQ10.out.far hs11 (fun k hk e => absurd (e ▸ hk) (Nat.not_le.2 HGW.out)))
  have HR11 := hide (HI10.out.far hs11 (fun k hk e => absurd (e ▸ hk) (Nat.not_le.2 HGW9.out)))
  clear hs11 HW10 HK10 HZ10 HQ10 HI10 z0 z1 z2 z3 z4 z5 z6 f0 f1 f2 f3 f4 f5 f6
  generalize (((((((w10.setCell ⟨w.heap.size + 1 + 1 + 1, 0, none⟩ (.int .u8 1)).setCell ⟨w.heap.size + 1 + 1 + 1, 1, none⟩ (.bool ngr)).setCell ⟨w.heap.size + 1 + 1 + 1, 2, none⟩ (.slice Ar nr cr)).setCell ⟨w.heap.size + 1 + 1 + 1, 3, none⟩ (.string { data := #[] })).setCell ⟨w.heap.size + 1 + 1 + 1, 4, none⟩ (.int .i64 0)).setCell ⟨w.heap.size + 1 + 1 + 1, 5, none⟩ (.slice none 0 0)).setCell ⟨w.heap.size + 1 + 1 + 1, 6, none⟩ (.slice none 0 0)) = w11 at *
  have HB7 := hide (show w.heap.size ≤ w7.heap.size ∧ w.heap.size ≤ w9.heap.size from by have h1 := HGW.out; have h2 := HGW9.out; omega)
  have HQ12 := hide (HQ11.out.more (B' := fun k => w.heap.size ≤ k ∧ ¬ k = w.heap.size + 1 + 1 ∧ ¬ k = w.heap.size + 1 + 1 + 1) (fun k _ hk => by have h1 := HGW.out; have h2 : w7.heap.size ≤ k := hk; omega))
  have HR12 := hide (HR11.out.more (B' := fun k => w.heap.size ≤ k ∧ ¬ k = w.heap.size + 1 + 1 ∧ ¬ k = w.heap.size + 1 + 1 + 1) (fun k _ hk => by have h1 := HGW9.out; have h2 : w9.heap.size ≤ k := hk; omega))
  have HG0 := hide (show w.heap.size ≤ w.heap.size + 1 + 1 ∧ w.heap.size ≤ w.heap.size + 1 + 1 + 1 ∧ ¬ w.heap.size + 1 + 1 = w.heap.size + 1 + 1 + 1 from by omega)
  clear HB7 HQ11 HR11 HGW HGW9
  generalize w.heap.size + 1 + 1 + 1 = G3 at *
  generalize w.heap.size + 1 + 1 = G2 at *
  refine order_begin (fun W => Blk W G2 26 #[.int .u8 1, .bool ngq, .slice Aq nq cq, .string { data := #[] }, .int .i64 0, .slice none 0 0, .slice none 0 0] ∧ Blk W G3 26 #[.int .u8 1, .bool ngr, .slice Ar nr cr, .string { data := #[] }, .int .i64 0, .slice none 0 0, .slice none 0 0]) (fun _ => true) (by kernel_rfl) 5 rfl ?_
  have HKd := hide HK11.out.drew; have HQd := hide (HQ12.out.keep (Keeps.refl NoB w11).drew); have HRd := hide (HR12.out.keep (Keeps.refl NoB w11).drew)
  have HS : Blk w11.drew G2 26 #[.int .u8 1, .bool ngq, .slice Aq nq cq, .string { data := #[] }, .int .i64 0, .slice none 0 0, .slice none 0 0] ∧ Blk w11.drew G3 26 #[.int .u8 1, .bool ngr, .slice Ar nr cr, .string { data := #[] }, .int .i64 0, .slice none 0 0, .slice none 0 0] := ⟨HZ11.out.drew, HW11.out.drew⟩
  clear HK11 HQ12 HR12 HZ11 HW11
  generalize w11.drew = W0 at *
  refine order_held (i := 0) rfl (by kernel_rfl) (fun _ _ _ h => h) (.inl ⟨rfl, fun W hW => by
    have q0 : W.cell? ⟨G2, 0, none⟩ = some (.int .u8 1) := hW.1.cell 0
    have q1 : W.cell? ⟨G2, 1, none⟩ = some (.bool ngq) := hW.1.cell 1
    have q2 : W.cell? ⟨G2, 2, none⟩ = some (.slice Aq nq cq) := hW.1.cell 2
    have q3 : W.cell? ⟨G2, 3, none⟩ = some (.string { data := #[] }) := hW.1.cell 3
    have q4 : W.cell? ⟨G2, 4, none⟩ = some (.int .i64 0) := hW.1.cell 4
    have q5 : W.cell? ⟨G2, 5, none⟩ = some (.slice none 0 0) := hW.1.cell 5
    have q6 : W.cell? ⟨G2, 6, none⟩ = some (.slice none 0 0) := hW.1.cell 6
    go_simp; rfl⟩) HS ?_
  try simp only [Act.put, List.setIfInBounds_toArray, List.set_cons_succ, List.set_cons_zero]
  refine order_held (i := 1) rfl (by kernel_rfl) (fun _ _ _ h => h) (.inl ⟨rfl, fun W hW => by
    have q0 : W.cell? ⟨G3, 0, none⟩ = some (.int .u8 1) := hW.2.cell 0
    have q1 : W.cell? ⟨G3, 1, none⟩ = some (.bool ngr) := hW.2.cell 1
    have q2 : W.cell? ⟨G3, 2, none⟩ = some (.slice Ar nr cr) := hW.2.cell 2
    have q3 : W.cell? ⟨G3, 3, none⟩ = some (.string { data := #[] }) := hW.2.cell 3
    have q4 : W.cell? ⟨G3, 4, none⟩ = some (.int .i64 0) := hW.2.cell 4
    have q5 : W.cell? ⟨G3, 5, none⟩ = some (.slice none 0 0) := hW.2.cell 5
    have q6 : W.cell? ⟨G3, 6, none⟩ = some (.slice none 0 0) := hW.2.cell 6
    go_simp; rfl⟩) HS ?_
  try simp only [Act.put, List.setIfInBounds_toArray, List.set_cons_succ, List.set_cons_zero]
  have HSQ := hide HS.1
  obtain ⟨z0, z1, z2, z3, z4, z5, z6⟩ := Blk.c7 (show Blk W0 (G2) _ #[.int .u8 1, .bool ngq, .slice Aq nq cq, .string { data := #[] }, .int .i64 0, .slice none 0 0, .slice none 0 0] from HSQ.out)
  obtain ⟨f0, f1, f2, f3, f4, f5, f6⟩ := Blk.f7 (w := W0) (g := G2) HSQ.out
  refine order_one (i := 2) rfl (by kernel_rfl) (fun K hK => ?_)
  go_simp
  have hs := Keeps.set7' (w := W0) (g := G2) (.int .u8 1) (.bool ngq) (.slice Aq nq cq) (.string { data := #[] }) (.int .i64 0) (.slice none 0 0) (.slice none 0 0)
  refine hK _ _ (fun _ hS => ⟨hS.1.put7 (.int .u8 1) (.bool ngq) (.slice Aq nq cq) (.string { data := #[] }) (.int .i64 0) (.slice none 0 0) (.slice none 0 0), hS.2.keep hs (fun e => HG0.out.2.2 e.symm)⟩) ?_
  clear hK
  try simp only [Act.put, List.setIfInBounds_toArray, List.set_cons_succ, List.set_cons_zero]
  have HQe := hide (HQd.out.far hs (fun k hk e => hk.2.1 e)); have HRe := hide (HRd.out.far hs (fun k hk e => hk.2.1 e)); have HKe := hide (HKd.out.set7 (g := G2) HG0.out.1 (.int .u8 1) (.bool ngq) (.slice Aq nq cq) (.string { data := #[] }) (.int .i64 0) (.slice none 0 0) (.slice none 0 0))
  have HSe := hide (And.intro (HS.1.put7 (.int .u8 1) (.bool ngq) (.slice Aq nq cq) (.string { data := #[] }) (.int .i64 0) (.slice none 0 0) (.slice none 0 0)) (HS.2.keep hs (fun e => HG0.out.2.2 e.symm)))
  clear hs HQd HRd HKd HS HSQ z0 z1 z2 z3 z4 z5 z6 f0 f1 f2 f3 f4 f5 f6
  generalize (((((((W0.setCell ⟨G2, 0, none⟩ (.int .u8 1)).setCell ⟨G2, 1, none⟩ (.bool ngq)).setCell ⟨G2, 2, none⟩ (.slice Aq nq cq)).setCell ⟨G2, 3, none⟩ (.string { data := #[] })).setCell ⟨G2, 4, none⟩ (.int .i64 0)).setCell ⟨G2, 5, none⟩ (.slice none 0 0)).setCell ⟨G2, 6, none⟩ (.slice none 0 0)) = W2 at *
  have HSR := hide HSe.out.2
  obtain ⟨z0, z1, z2, z3, z4, z5, z6⟩ := Blk.c7 (show Blk W2 (G3) _ #[.int .u8 1, .bool ngr, .slice Ar nr cr, .string { data := #[] }, .int .i64 0, .slice none 0 0, .slice none 0 0] from HSR.out)
  obtain ⟨f0, f1, f2, f3, f4, f5, f6⟩ := Blk.f7 (w := W2) (g := G3) HSR.out
  refine order_one (i := 3) rfl (by kernel_rfl) (fun K hK => ?_)
  go_simp
  have hs := Keeps.set7' (w := W2) (g := G3) (.int .u8 1) (.bool ngr) (.slice Ar nr cr) (.string { data := #[] }) (.int .i64 0) (.slice none 0 0) (.slice none 0 0)
  refine hK _ _ (fun _ hS => ⟨hS.1.keep hs HG0.out.2.2, hS.2.put7 (.int .u8 1) (.bool ngr) (.slice Ar nr cr) (.string { data := #[] }) (.int .i64 0) (.slice none 0 0) (.slice none 0 0)⟩) ?_
  clear hK
  try simp only [Act.put, List.setIfInBounds_toArray, List.set_cons_succ, List.set_cons_zero]
  have HQf := hide ((HQe.out.far hs (fun k hk e => hk.2.2 e)).more (B' := fun k => w.heap.size ≤ k) (fun k _ hk => hk.1)); have HRf := hide ((HRe.out.far hs (fun k hk e => hk.2.2 e)).more (B' := fun k => w.heap.size ≤ k) (fun k _ hk => hk.1)); have HKf := hide (HKe.out.set7 (g := G3) HG0.out.2.1 (.int .u8 1) (.bool ngr) (.slice Ar nr cr) (.string { data := #[] }) (.int .i64 0) (.slice none 0 0) (.slice none 0 0))
  have HSf := hide (And.intro (HSe.out.1.keep hs HG0.out.2.2) (HSe.out.2.put7 (.int .u8 1) (.bool ngr) (.slice Ar nr cr) (.string { data := #[] }) (.int .i64 0) (.slice none 0 0) (.slice none 0 0)))
  clear hs HQe HRe HKe HSe HSR z0 z1 z2 z3 z4 z5 z6 f0 f1 f2 f3 f4 f5 f6
  generalize (((((((W2.setCell ⟨G3, 0, none⟩ (.int .u8 1)).setCell ⟨G3, 1, none⟩ (.bool ngr)).setCell ⟨G3, 2, none⟩ (.slice Ar nr cr)).setCell ⟨G3, 3, none⟩ (.string { data := #[] })).setCell ⟨G3, 4, none⟩ (.int .i64 0)).setCell ⟨G3, 5, none⟩ (.slice none 0 0)).setCell ⟨G3, 6, none⟩ (.slice none 0 0)) = W3 at *
  refine order_pure (i := 4) rfl (by kernel_rfl) (fun _ _ _ h => h) (.inl ⟨rfl, fun _ => by go_simp; rfl⟩) ?_
  try simp only [Act.put, List.setIfInBounds_toArray, List.set_cons_succ, List.set_cons_zero]
  refine order_done (by kernel_rfl) ?_
  go_wp2
  have HA := hide HSf.out.1; have HB := hide HSf.out.2
  obtain ⟨c0, c1, c2, c3, c4, c5, c6⟩ := Blk.c7 (show Blk W3 (G2) _ #[.int .u8 1, .bool ngq, .slice Aq nq cq, .string { data := #[] }, .int .i64 0, .slice none 0 0, .slice none 0 0] from HA.out)
  obtain ⟨d0, d1, d2, d3, d4, d5, d6⟩ := Blk.c7 (show Blk W3 (G3) _ #[.int .u8 1, .bool ngr, .slice Ar nr cr, .string { data := #[] }, .int .i64 0, .slice none 0 0, .slice none 0 0] from HB.out)
  refine bodyPost_ret (v := .tuple #[.agg #[.int .u8 1, .bool ngq, .slice Aq nq cq, .string { data := #[] }, .int .i64 0, .slice none 0 0, .slice none 0 0], .agg #[.int .u8 1, .bool ngr, .slice Ar nr cr, .string { data := #[] }, .int .i64 0, .slice none 0 0, .slice none 0 0], .bool true]) (by simp [results, Tryz.results78, go_sem, c0, c1, c2, c3, c4, c5, c6, d0, d1, d2, d3, d4, d5, d6]) rfl ?_
  exact ⟨ngq, Aq, nq, cq, ngr, Ar, nr, cr, rfl, HQf.out, HRf.out, HKf.out⟩
theorem div_any (ng ng' : Bool) (A A' ia ta ia' ta' : Option Addr) (n c n' c' ic tc ic' tc' : Nat) (x y : Int) (w : World) (B B' : Nat → Prop) (h : IA w B ng A n c x) (h' : IA w B' ng' A' n' c' y) (hy : y ≠ 0) :
    Calls Tryz.prog 78 #[.agg #[.int .u8 1, .bool ng, .slice A n c, .string { data := #[] }, .int .i64 0, .slice ia 0 ic, .slice ta 0 tc], .agg #[.int .u8 1, .bool ng', .slice A' n' c', .string { data := #[] }, .int .i64 0, .slice ia' 0 ic', .slice ta' 0 tc']] w (DivP w x y) := by
  rcases Nat.lt_or_ge x.natAbs y.natAbs with hl | hl
  · exact div_below ng ng' A A' ia ta ia' ta' n c n' c' ic tc ic' tc' x y w B B' h h' hl
  · by_cases h1 : n' = 1
    · exact div_short ng ng' A A' ia ta ia' ta' n c n' c' ic tc ic' tc' x y w B B' h h' hl h1
    · have h3 : 0 < (dig y.natAbs).length := dig_pos_len.2 (by omega)
      exact div_long ng ng' A A' ia ta ia' ta' n c n' c' ic tc ic' tc' x y w B B' h h' hl (by rw [h'.limbs.len] at h3; omega)

/-! ### None -/
def NoP2 (w : World) (e : Ending) (w' : World) : Prop := e = .returned (.tuple #[.agg #[.int .u8 0, .bool false, .slice none 0 0, .string { data := #[] }, .int .i64 0, .slice none 0 0, .slice none 0 0], .agg #[.int .u8 0, .bool false, .slice none 0 0, .string { data := #[] }, .int .i64 0, .slice none 0 0, .slice none 0 0], .bool false]) ∧ Keeps NoB w w'
set_option maxHeartbeats 2000000 in
set_option maxRecDepth 100000 in
theorem div_bad1 {w : World} {B B' : Nat → Prop} {r : Bool} {cs ds : Array Value} (ha : TermA w B false cs) (hb : TermA w B' r ds) : Calls Tryz.prog 78 #[.agg cs, .agg ds] w (NoP2 w) := by
  have HTA := hide ha
  obtain ⟨kd, ng, la, ln, lc, tx, nm, ia, im, ic, ta, tm, tc, l, rfl, hl, hi, ht, hr⟩ := ha
  clear hl hi ht hr
  have HTB := hide hb
  obtain ⟨kd', ng', la', ln', lc', tx', nm', ia', im', ic', ta', tm', tc', l', rfl, hl, hi, ht, hr⟩ := hb
  clear hl hi ht hr
  have M1 := hide True.intro
  go_enter Tryz.func78, Tryz.ntmps78
  have HY0 := hide (((Blk.new2' w (.cells #[.int .u8 kd, .bool ng, .slice la ln lc, .string tx, .int .i64 nm, .slice ia im ic, .slice ta tm tc] 26) 26 #[.int .u8 kd', .bool ng', .slice la' ln' lc', .string tx', .int .i64 nm', .slice ia' im' ic', .slice ta' tm' tc']).alloc (.cells #[.int .u8 0, .bool false, .slice none 0 0, .string { data := #[] }, .int .i64 0, .slice none 0 0, .slice none 0 0] 26)).alloc (.cells #[.int .u8 0, .bool false, .slice none 0 0, .string { data := #[] }, .int .i64 0, .slice none 0 0, .slice none 0 0] 26))
  have HZ0 := hide ((Blk.new3' w (.cells #[.int .u8 kd, .bool ng, .slice la ln lc, .string tx, .int .i64 nm, .slice ia im ic, .slice ta tm tc] 26) (.cells #[.int .u8 kd', .bool ng', .slice la' ln' lc', .string tx', .int .i64 nm', .slice ia' im' ic', .slice ta' tm' tc'] 26) 26 #[.int .u8 0, .bool false, .slice none 0 0, .string { data := #[] }, .int .i64 0, .slice none 0 0, .slice none 0 0]).alloc (.cells #[.int .u8 0, .bool false, .slice none 0 0, .string { data := #[] }, .int .i64 0, .slice none 0 0, .slice none 0 0] 26))
  have HW0 := hide (Blk.new4' w (.cells #[.int .u8 kd, .bool ng, .slice la ln lc, .string tx, .int .i64 nm, .slice ia im ic, .slice ta tm tc] 26) (.cells #[.int .u8 kd', .bool ng', .slice la' ln' lc', .string tx', .int .i64 nm', .slice ia' im' ic', .slice ta' tm' tc'] 26) (.cells #[.int .u8 0, .bool false, .slice none 0 0, .string { data := #[] }, .int .i64 0, .slice none 0 0, .slice none 0 0] 26) 26 #[.int .u8 0, .bool false, .slice none 0 0, .string { data := #[] }, .int .i64 0, .slice none 0 0, .slice none 0 0])
  have HK0 := hide (((((Keeps.refl NoB w).alloc (.cells #[.int .u8 kd, .bool ng, .slice la ln lc, .string tx, .int .i64 nm, .slice ia im ic, .slice ta tm tc] 26)).alloc (.cells #[.int .u8 kd', .bool ng', .slice la' ln' lc', .string tx', .int .i64 nm', .slice ia' im' ic', .slice ta' tm' tc'] 26)).alloc (.cells #[.int .u8 0, .bool false, .slice none 0 0, .string { data := #[] }, .int .i64 0, .slice none 0 0, .slice none 0 0] 26)).alloc (.cells #[.int .u8 0, .bool false, .slice none 0 0, .string { data := #[] }, .int .i64 0, .slice none 0 0, .slice none 0 0] 26))
  go_wp2_with first | (clear M1; go_at_call 11; refine (HTA.out.keep HK0.out).right.mono ?_; rintro e w1 ⟨rfl, hk1⟩; have HK1 := hide (HK0.out.trans' hk1 (fun _ _ => id) (fun _ _ => id)); have HY1 := hide (HY0.out.keep hk1 id); have HZ1 := hide (HZ0.out.keep hk1 id); have HW1 := hide (HW0.out.keep hk1 id); clear hk1 HY0 HZ0 HW0 HK0; obtain ⟨y0, y1, y2, y3, y4, y5, y6⟩ := Blk.c7 (show Blk w1 (w.heap.size + 1) _ #[.int .u8 kd', .bool ng', .slice la' ln' lc', .string tx', .int .i64 nm', .slice ia' im' ic', .slice ta' tm' tc'] from HY1.out); obtain ⟨z0, z1, z2, z3, z4, z5, z6⟩ := Blk.c7 (show Blk w1 (w.heap.size + 1 + 1) _ #[.int .u8 0, .bool false, .slice none 0 0, .string { data := #[] }, .int .i64 0, .slice none 0 0, .slice none 0 0] from HZ1.out); obtain ⟨f0, f1, f2, f3, f4, f5, f6⟩ := Blk.f7 (w := w1) (g := w.heap.size + 1 + 1) HZ1.out; obtain ⟨v0, v1, v2, v3, v4, v5, v6⟩ := Blk.c7 (show Blk w1 (w.heap.size + 1 + 1 + 1) _ #[.int .u8 0, .bool false, .slice none 0 0, .string { data := #[] }, .int .i64 0, .slice none 0 0, .slice none 0 0] from HW1.out); obtain ⟨g0, g1, g2, g3, g4, g5, g6⟩ := Blk.f7 (w := w1) (g := w.heap.size + 1 + 1 + 1) HW1.out) | fail
  have HZf := hide (HZ1.out.put7 (.int .u8 0) (.bool false) (.slice none 0 0) (.string { data := #[] }) (.int .i64 0) (.slice none 0 0) (.slice none 0 0))
  have hs := Keeps.set7' (w := w1) (g := w.heap.size + 1 + 1) (.int .u8 0) (.bool false) (.slice none 0 0) (.string { data := #[] }) (.int .i64 0) (.slice none 0 0) (.slice none 0 0)
  have HWf := hide (HW1.out.keep hs (by omega))
  have HKf := hide (HK1.out.set7 (g := w.heap.size + 1 + 1) (by omega) (.int .u8 0) (.bool false) (.slice none 0 0) (.string { data := #[] }) (.int .i64 0) (.slice none 0 0) (.slice none 0 0))
  clear hs z0 z1 z2 z3 z4 z5 z6 f0 f1 f2 f3 f4 f5 f6 v0 v1 v2 v3 v4 v5 v6 g0 g1 g2 g3 g4 g5 g6 HZ1 HW1 HK1
  generalize (((((((w1.setCell ⟨w.heap.size + 1 + 1, 0, none⟩ (.int .u8 0)).setCell ⟨w.heap.size + 1 + 1, 1, none⟩ (.bool false)).setCell ⟨w.heap.size + 1 + 1, 2, none⟩ (.slice none 0 0)).setCell ⟨w.heap.size + 1 + 1, 3, none⟩ (.string { data := #[] })).setCell ⟨w.heap.size + 1 + 1, 4, none⟩ (.int .i64 0)).setCell ⟨w.heap.size + 1 + 1, 5, none⟩ (.slice none 0 0)).setCell ⟨w.heap.size + 1 + 1, 6, none⟩ (.slice none 0 0)) = wf at *
  have hs := Keeps.set7' (w := wf) (g := w.heap.size + 1 + 1 + 1) (.int .u8 0) (.bool false) (.slice none 0 0) (.string { data := #[] }) (.int .i64 0) (.slice none 0 0) (.slice none 0 0)
  have HZg := hide (HZf.out.keep hs (by omega))
  have HWg := hide (HWf.out.put7 (.int .u8 0) (.bool false) (.slice none 0 0) (.string { data := #[] }) (.int .i64 0) (.slice none 0 0) (.slice none 0 0))
  have HKg := hide (HKf.out.set7 (g := w.heap.size + 1 + 1 + 1) (by omega) (.int .u8 0) (.bool false) (.slice none 0 0) (.string { data := #[] }) (.int .i64 0) (.slice none 0 0) (.slice none 0 0))
  clear hs HZf HWf HKf
  generalize (((((((wf.setCell ⟨w.heap.size + 1 + 1 + 1, 0, none⟩ (.int .u8 0)).setCell ⟨w.heap.size + 1 + 1 + 1, 1, none⟩ (.bool false)).setCell ⟨w.heap.size + 1 + 1 + 1, 2, none⟩ (.slice none 0 0)).setCell ⟨w.heap.size + 1 + 1 + 1, 3, none⟩ (.string { data := #[] })).setCell ⟨w.heap.size + 1 + 1 + 1, 4, none⟩ (.int .i64 0)).setCell ⟨w.heap.size + 1 + 1 + 1, 5, none⟩ (.slice none 0 0)).setCell ⟨w.heap.size + 1 + 1 + 1, 6, none⟩ (.slice none 0 0)) = wg at *
  obtain ⟨c0, c1, c2, c3, c4, c5, c6⟩ := Blk.c7 (show Blk wg (w.heap.size + 1 + 1) _ #[.int .u8 0, .bool false, .slice none 0 0, .string { data := #[] }, .int .i64 0, .slice none 0 0, .slice none 0 0] from HZg.out)
  obtain ⟨d0, d1, d2, d3, d4, d5, d6⟩ := Blk.c7 (show Blk wg (w.heap.size + 1 + 1 + 1) _ #[.int .u8 0, .bool false, .slice none 0 0, .string { data := #[] }, .int .i64 0, .slice none 0 0, .slice none 0 0] from HWg.out)
  refine bodyPost_ret (v := .tuple #[.agg #[.int .u8 0, .bool false, .slice none 0 0, .string { data := #[] }, .int .i64 0, .slice none 0 0, .slice none 0 0], .agg #[.int .u8 0, .bool false, .slice none 0 0, .string { data := #[] }, .int .i64 0, .slice none 0 0, .slice none 0 0], .bool false]) (by simp [results, Tryz.results78, go_sem, c0, c1, c2, c3, c4, c5, c6, d0, d1, d2, d3, d4, d5, d6]) rfl ?_
  exact ⟨rfl, HKg.out⟩
set_option maxHeartbeats 2000000 in
set_option maxRecDepth 100000 in
theorem div_bad2 {w : World} {B B' : Nat → Prop} {cs ds : Array Value} (ha : TermA w B true cs) (hb : TermA w B' false ds) : Calls Tryz.prog 78 #[.agg cs, .agg ds] w (NoP2 w) := by
  have HTA := hide ha
  obtain ⟨kd, ng, la, ln, lc, tx, nm, ia, im, ic, ta, tm, tc, l, rfl, hl, hi, ht, hr⟩ := ha
  clear hl hi ht hr
  have HTB := hide hb
  obtain ⟨kd', ng', la', ln', lc', tx', nm', ia', im', ic', ta', tm', tc', l', rfl, hl, hi, ht, hr⟩ := hb
  clear hl hi ht hr
  have M1 := hide True.intro
  go_enter Tryz.func78, Tryz.ntmps78
  have HY0 := hide (((Blk.new2' w (.cells #[.int .u8 kd, .bool ng, .slice la ln lc, .string tx, .int .i64 nm, .slice ia im ic, .slice ta tm tc] 26) 26 #[.int .u8 kd', .bool ng', .slice la' ln' lc', .string tx', .int .i64 nm', .slice ia' im' ic', .slice ta' tm' tc']).alloc (.cells #[.int .u8 0, .bool false, .slice none 0 0, .string { data := #[] }, .int .i64 0, .slice none 0 0, .slice none 0 0] 26)).alloc (.cells #[.int .u8 0, .bool false, .slice none 0 0, .string { data := #[] }, .int .i64 0, .slice none 0 0, .slice none 0 0] 26))
  have HZ0 := hide ((Blk.new3' w (.cells #[.int .u8 kd, .bool ng, .slice la ln lc, .string tx, .int .i64 nm, .slice ia im ic, .slice ta tm tc] 26) (.cells #[.int .u8 kd', .bool ng', .slice la' ln' lc', .string tx', .int .i64 nm', .slice ia' im' ic', .slice ta' tm' tc'] 26) 26 #[.int .u8 0, .bool false, .slice none 0 0, .string { data := #[] }, .int .i64 0, .slice none 0 0, .slice none 0 0]).alloc (.cells #[.int .u8 0, .bool false, .slice none 0 0, .string { data := #[] }, .int .i64 0, .slice none 0 0, .slice none 0 0] 26))
  have HW0 := hide (Blk.new4' w (.cells #[.int .u8 kd, .bool ng, .slice la ln lc, .string tx, .int .i64 nm, .slice ia im ic, .slice ta tm tc] 26) (.cells #[.int .u8 kd', .bool ng', .slice la' ln' lc', .string tx', .int .i64 nm', .slice ia' im' ic', .slice ta' tm' tc'] 26) (.cells #[.int .u8 0, .bool false, .slice none 0 0, .string { data := #[] }, .int .i64 0, .slice none 0 0, .slice none 0 0] 26) 26 #[.int .u8 0, .bool false, .slice none 0 0, .string { data := #[] }, .int .i64 0, .slice none 0 0, .slice none 0 0])
  have HK0 := hide (((((Keeps.refl NoB w).alloc (.cells #[.int .u8 kd, .bool ng, .slice la ln lc, .string tx, .int .i64 nm, .slice ia im ic, .slice ta tm tc] 26)).alloc (.cells #[.int .u8 kd', .bool ng', .slice la' ln' lc', .string tx', .int .i64 nm', .slice ia' im' ic', .slice ta' tm' tc'] 26)).alloc (.cells #[.int .u8 0, .bool false, .slice none 0 0, .string { data := #[] }, .int .i64 0, .slice none 0 0, .slice none 0 0] 26)).alloc (.cells #[.int .u8 0, .bool false, .slice none 0 0, .string { data := #[] }, .int .i64 0, .slice none 0 0, .slice none 0 0] 26))
  go_wp2_with first | (clear M1; go_at_call 11; refine (HTA.out.keep HK0.out).right.mono ?_; rintro e w1 ⟨rfl, hk1⟩; have HK1 := hide (HK0.out.trans' hk1 (fun _ _ => id) (fun _ _ => id)); have HY1 := hide (HY0.out.keep hk1 id); have HZ1 := hide (HZ0.out.keep hk1 id); have HW1 := hide (HW0.out.keep hk1 id); clear hk1 HY0 HZ0 HW0 HK0; obtain ⟨y0, y1, y2, y3, y4, y5, y6⟩ := Blk.c7 (show Blk w1 (w.heap.size + 1) _ #[.int .u8 kd', .bool ng', .slice la' ln' lc', .string tx', .int .i64 nm', .slice ia' im' ic', .slice ta' tm' tc'] from HY1.out); obtain ⟨z0, z1, z2, z3, z4, z5, z6⟩ := Blk.c7 (show Blk w1 (w.heap.size + 1 + 1) _ #[.int .u8 0, .bool false, .slice none 0 0, .string { data := #[] }, .int .i64 0, .slice none 0 0, .slice none 0 0] from HZ1.out); obtain ⟨f0, f1, f2, f3, f4, f5, f6⟩ := Blk.f7 (w := w1) (g := w.heap.size + 1 + 1) HZ1.out; obtain ⟨v0, v1, v2, v3, v4, v5, v6⟩ := Blk.c7 (show Blk w1 (w.heap.size + 1 + 1 + 1) _ #[.int .u8 0, .bool false, .slice none 0 0, .string { data := #[] }, .int .i64 0, .slice none 0 0, .slice none 0 0] from HW1.out); obtain ⟨g0, g1, g2, g3, g4, g5, g6⟩ := Blk.f7 (w := w1) (g := w.heap.size + 1 + 1 + 1) HW1.out) | (go_at_call 11; refine (HTB.out.keep HK1.out).right.mono ?_; rintro e w2 ⟨rfl, hk2⟩; have HK2 := hide (HK1.out.trans' hk2 (fun _ _ => id) (fun _ _ => id)); have HY2 := hide (HY1.out.keep hk2 id); have HZ2 := hide (HZ1.out.keep hk2 id); have HW2 := hide (HW1.out.keep hk2 id); clear hk2 HY1 HZ1 HW1 HK1 y0 y1 y2 y3 y4 y5 y6 z0 z1 z2 z3 z4 z5 z6 f0 f1 f2 f3 f4 f5 f6 v0 v1 v2 v3 v4 v5 v6 g0 g1 g2 g3 g4 g5 g6; have y2 : w2.cell? ⟨w.heap.size + 1, 2, none⟩ = some (.slice la' ln' lc') := HY2.out.cell 2; obtain ⟨z0, z1, z2, z3, z4, z5, z6⟩ := Blk.c7 (show Blk w2 (w.heap.size + 1 + 1) _ #[.int .u8 0, .bool false, .slice none 0 0, .string { data := #[] }, .int .i64 0, .slice none 0 0, .slice none 0 0] from HZ2.out); obtain ⟨f0, f1, f2, f3, f4, f5, f6⟩ := Blk.f7 (w := w2) (g := w.heap.size + 1 + 1) HZ2.out; obtain ⟨v0, v1, v2, v3, v4, v5, v6⟩ := Blk.c7 (show Blk w2 (w.heap.size + 1 + 1 + 1) _ #[.int .u8 0, .bool false, .slice none 0 0, .string { data := #[] }, .int .i64 0, .slice none 0 0, .slice none 0 0] from HW2.out); obtain ⟨g0, g1, g2, g3, g4, g5, g6⟩ := Blk.f7 (w := w2) (g := w.heap.size + 1 + 1 + 1) HW2.out) | fail
  have HZf := hide (HZ2.out.put7 (.int .u8 0) (.bool false) (.slice none 0 0) (.string { data := #[] }) (.int .i64 0) (.slice none 0 0) (.slice none 0 0))
  have hs := Keeps.set7' (w := w2) (g := w.heap.size + 1 + 1) (.int .u8 0) (.bool false) (.slice none 0 0) (.string { data := #[] }) (.int .i64 0) (.slice none 0 0) (.slice none 0 0)
  have HWf := hide (HW2.out.keep hs (by omega))
  have HKf := hide (HK2.out.set7 (g := w.heap.size + 1 + 1) (by omega) (.int .u8 0) (.bool false) (.slice none 0 0) (.string { data := #[] }) (.int .i64 0) (.slice none 0 0) (.slice none 0 0))
  clear hs z0 z1 z2 z3 z4 z5 z6 f0 f1 f2 f3 f4 f5 f6 v0 v1 v2 v3 v4 v5 v6 g0 g1 g2 g3 g4 g5 g6 HZ2 HW2 HK2
  generalize (((((((w2.setCell ⟨w.heap.size + 1 + 1, 0, none⟩ (.int .u8 0)).setCell ⟨w.heap.size + 1 + 1, 1, none⟩ (.bool false)).setCell ⟨w.heap.size + 1 + 1, 2, none⟩ (.slice none 0 0)).setCell ⟨w.heap.size + 1 + 1, 3, none⟩ (.string { data := #[] })).setCell ⟨w.heap.size + 1 + 1, 4, none⟩ (.int .i64 0)).setCell ⟨w.heap.size + 1 + 1, 5, none⟩ (.slice none 0 0)).setCell ⟨w.heap.size + 1 + 1, 6, none⟩ (.slice none 0 0)) = wf at *
  have hs := Keeps.set7' (w := wf) (g := w.heap.size + 1 + 1 + 1) (.int .u8 0) (.bool false) (.slice none 0 0) (.string { data := #[] }) (.int .i64 0) (.slice none 0 0) (.slice none 0 0)
  have HZg := hide (HZf.out.keep hs (by omega))
  have HWg := hide (HWf.out.put7 (.int .u8 0) (.bool false) (.slice none 0 0) (.string { data := #[] }) (.int .i64 0) (.slice none 0 0) (.slice none 0 0))
  have HKg := hide (HKf.out.set7 (g := w.heap.size + 1 + 1 + 1) (by omega) (.int .u8 0) (.bool false) (.slice none 0 0) (.string { data := #[] }) (.int .i64 0) (.slice none 0 0) (.slice none 0 0))
  clear hs HZf HWf HKf
  generalize (((((((wf.setCell ⟨w.heap.size + 1 + 1 + 1, 0, none⟩ (.int .u8 0)).setCell ⟨w.heap.size + 1 + 1 + 1, 1, none⟩ (.bool false)).setCell ⟨w.heap.size + 1 + 1 + 1, 2, none⟩ (.slice none 0 0)).setCell ⟨w.heap.size + 1 + 1 + 1, 3, none⟩ (.string { data := #[] })).setCell ⟨w.heap.size + 1 + 1 + 1, 4, none⟩ (.int .i64 0)).setCell ⟨w.heap.size + 1 + 1 + 1, 5, none⟩ (.slice none 0 0)).setCell ⟨w.heap.size + 1 + 1 + 1, 6, none⟩ (.slice none 0 0)) = wg at *
  obtain ⟨c0, c1, c2, c3, c4, c5, c6⟩ := Blk.c7 (show Blk wg (w.heap.size + 1 + 1) _ #[.int .u8 0, .bool false, .slice none 0 0, .string { data := #[] }, .int .i64 0, .slice none 0 0, .slice none 0 0] from HZg.out)
  obtain ⟨d0, d1, d2, d3, d4, d5, d6⟩ := Blk.c7 (show Blk wg (w.heap.size + 1 + 1 + 1) _ #[.int .u8 0, .bool false, .slice none 0 0, .string { data := #[] }, .int .i64 0, .slice none 0 0, .slice none 0 0] from HWg.out)
  refine bodyPost_ret (v := .tuple #[.agg #[.int .u8 0, .bool false, .slice none 0 0, .string { data := #[] }, .int .i64 0, .slice none 0 0, .slice none 0 0], .agg #[.int .u8 0, .bool false, .slice none 0 0, .string { data := #[] }, .int .i64 0, .slice none 0 0, .slice none 0 0], .bool false]) (by simp [results, Tryz.results78, go_sem, c0, c1, c2, c3, c4, c5, c6, d0, d1, d2, d3, d4, d5, d6]) rfl ?_
  exact ⟨rfl, HKg.out⟩
set_option maxHeartbeats 2000000 in
set_option maxRecDepth 100000 in
theorem div_zero {w : World} {B B' : Nat → Prop} {cs : Array Value} {ng' : Bool} {la' ia' ta' : Option Addr} {lc' ic' tc' : Nat} {y : Int} (ha : TermA w B true cs) (hb : IA w B' ng' la' 0 lc' y) : Calls Tryz.prog 78 #[.agg cs, .agg #[.int .u8 1, .bool ng', .slice la' 0 lc', .string { data := #[] }, .int .i64 0, .slice ia' 0 ic', .slice ta' 0 tc']] w (NoP2 w) := by
  have HTA := hide ha
  obtain ⟨kd, ng, la, ln, lc, tx, nm, ia, im, ic, ta, tm, tc, l, rfl, hl, hi, ht, hr⟩ := ha
  clear hl hi ht hr
  have HTB := hide (hb.term ia' ta' ic' tc')
  clear hb
  have M1 := hide True.intro
  go_enter Tryz.func78, Tryz.ntmps78
  have HY0 := hide (((Blk.new2' w (.cells #[.int .u8 kd, .bool ng, .slice la ln lc, .string tx, .int .i64 nm, .slice ia im ic, .slice ta tm tc] 26) 26 #[.int .u8 1, .bool ng', .slice la' 0 lc', .string { data := #[] }, .int .i64 0, .slice ia' 0 ic', .slice ta' 0 tc']).alloc (.cells #[.int .u8 0, .bool false, .slice none 0 0, .string { data := #[] }, .int .i64 0, .slice none 0 0, .slice none 0 0] 26)).alloc (.cells #[.int .u8 0, .bool false, .slice none 0 0, .string { data := #[] }, .int .i64 0, .slice none 0 0, .slice none 0 0] 26))
  have HZ0 := hide ((Blk.new3' w (.cells #[.int .u8 kd, .bool ng, .slice la ln lc, .string tx, .int .i64 nm, .slice ia im ic, .slice ta tm tc] 26) (.cells #[.int .u8 1, .bool ng', .slice la' 0 lc', .string { data := #[] }, .int .i64 0, .slice ia' 0 ic', .slice ta' 0 tc'] 26) 26 #[.int .u8 0, .bool false, .slice none 0 0, .string { data := #[] }, .int .i64 0, .slice none 0 0, .slice none 0 0]).alloc (.cells #[.int .u8 0, .bool false, .slice none 0 0, .string { data := #[] }, .int .i64 0, .slice none 0 0, .slice none 0 0] 26))
  have HW0 := hide (Blk.new4' w (.cells #[.int .u8 kd, .bool ng, .slice la ln lc, .string tx, .int .i64 nm, .slice ia im ic, .slice ta tm tc] 26) (.cells #[.int .u8 1, .bool ng', .slice la' 0 lc', .string { data := #[] }, .int .i64 0, .slice ia' 0 ic', .slice ta' 0 tc'] 26) (.cells #[.int .u8 0, .bool false, .slice none 0 0, .string { data := #[] }, .int .i64 0, .slice none 0 0, .slice none 0 0] 26) 26 #[.int .u8 0, .bool false, .slice none 0 0, .string { data := #[] }, .int .i64 0, .slice none 0 0, .slice none 0 0])
  have HK0 := hide (((((Keeps.refl NoB w).alloc (.cells #[.int .u8 kd, .bool ng, .slice la ln lc, .string tx, .int .i64 nm, .slice ia im ic, .slice ta tm tc] 26)).alloc (.cells #[.int .u8 1, .bool ng', .slice la' 0 lc', .string { data := #[] }, .int .i64 0, .slice ia' 0 ic', .slice ta' 0 tc'] 26)).alloc (.cells #[.int .u8 0, .bool false, .slice none 0 0, .string { data := #[] }, .int .i64 0, .slice none 0 0, .slice none 0 0] 26)).alloc (.cells #[.int .u8 0, .bool false, .slice none 0 0, .string { data := #[] }, .int .i64 0, .slice none 0 0, .slice none 0 0] 26))
  go_wp2_with first | (clear M1; go_at_call 11; refine (HTA.out.keep HK0.out).right.mono ?_; rintro e w1 ⟨rfl, hk1⟩; have HK1 := hide (HK0.out.trans' hk1 (fun _ _ => id) (fun _ _ => id)); have HY1 := hide (HY0.out.keep hk1 id); have HZ1 := hide (HZ0.out.keep hk1 id); have HW1 := hide (HW0.out.keep hk1 id); clear hk1 HY0 HZ0 HW0 HK0; obtain ⟨y0, y1, y2, y3, y4, y5, y6⟩ := Blk.c7 (show Blk w1 (w.heap.size + 1) _ #[.int .u8 1, .bool ng', .slice la' 0 lc', .string { data := #[] }, .int .i64 0, .slice ia' 0 ic', .slice ta' 0 tc'] from HY1.out); obtain ⟨z0, z1, z2, z3, z4, z5, z6⟩ := Blk.c7 (show Blk w1 (w.heap.size + 1 + 1) _ #[.int .u8 0, .bool false, .slice none 0 0, .string { data := #[] }, .int .i64 0, .slice none 0 0, .slice none 0 0] from HZ1.out); obtain ⟨f0, f1, f2, f3, f4, f5, f6⟩ := Blk.f7 (w := w1) (g := w.heap.size + 1 + 1) HZ1.out; obtain ⟨v0, v1, v2, v3, v4, v5, v6⟩ := Blk.c7 (show Blk w1 (w.heap.size + 1 + 1 + 1) _ #[.int .u8 0, .bool false, .slice none 0 0, .string { data := #[] }, .int .i64 0, .slice none 0 0, .slice none 0 0] from HW1.out); obtain ⟨g0, g1, g2, g3, g4, g5, g6⟩ := Blk.f7 (w := w1) (g := w.heap.size + 1 + 1 + 1) HW1.out) | (go_at_call 11; refine (HTB.out.keep HK1.out).right.mono ?_; rintro e w2 ⟨rfl, hk2⟩; have HK2 := hide (HK1.out.trans' hk2 (fun _ _ => id) (fun _ _ => id)); have HY2 := hide (HY1.out.keep hk2 id); have HZ2 := hide (HZ1.out.keep hk2 id); have HW2 := hide (HW1.out.keep hk2 id); clear hk2 HY1 HZ1 HW1 HK1 y0 y1 y2 y3 y4 y5 y6 z0 z1 z2 z3 z4 z5 z6 f0 f1 f2 f3 f4 f5 f6 v0 v1 v2 v3 v4 v5 v6 g0 g1 g2 g3 g4 g5 g6; have y2 : w2.cell? ⟨w.heap.size + 1, 2, none⟩ = some (.slice la' 0 lc') := HY2.out.cell 2; obtain ⟨z0, z1, z2, z3, z4, z5, z6⟩ := Blk.c7 (show Blk w2 (w.heap.size + 1 + 1) _ #[.int .u8 0, .bool false, .slice none 0 0, .string { data := #[] }, .int .i64 0, .slice none 0 0, .slice none 0 0] from HZ2.out); obtain ⟨f0, f1, f2, f3, f4, f5, f6⟩ := Blk.f7 (w := w2) (g := w.heap.size + 1 + 1) HZ2.out; obtain ⟨v0, v1, v2, v3, v4, v5, v6⟩ := Blk.c7 (show Blk w2 (w.heap.size + 1 + 1 + 1) _ #[.int .u8 0, .bool false, .slice none 0 0, .string { data := #[] }, .int .i64 0, .slice none 0 0, .slice none 0 0] from HW2.out); obtain ⟨g0, g1, g2, g3, g4, g5, g6⟩ := Blk.f7 (w := w2) (g := w.heap.size + 1 + 1 + 1) HW2.out) | fail
  have HZf := hide (HZ2.out.put7 (.int .u8 0) (.bool false) (.slice none 0 0) (.string { data := #[] }) (.int .i64 0) (.slice none 0 0) (.slice none 0 0))
  have hs := Keeps.set7' (w := w2) (g := w.heap.size + 1 + 1) (.int .u8 0) (.bool false) (.slice none 0 0) (.string { data := #[] }) (.int .i64 0) (.slice none 0 0) (.slice none 0 0)
  have HWf := hide (HW2.out.keep hs (by omega))
  have HKf := hide (HK2.out.set7 (g := w.heap.size + 1 + 1) (by omega) (.int .u8 0) (.bool false) (.slice none 0 0) (.string { data := #[] }) (.int .i64 0) (.slice none 0 0) (.slice none 0 0))
  clear hs z0 z1 z2 z3 z4 z5 z6 f0 f1 f2 f3 f4 f5 f6 v0 v1 v2 v3 v4 v5 v6 g0 g1 g2 g3 g4 g5 g6 HZ2 HW2 HK2
  generalize (((((((w2.setCell ⟨w.heap.size + 1 + 1, 0, none⟩ (.int .u8 0)).setCell ⟨w.heap.size + 1 + 1, 1, none⟩ (.bool false)).setCell ⟨w.heap.size + 1 + 1, 2, none⟩ (.slice none 0 0)).setCell ⟨w.heap.size + 1 + 1, 3, none⟩ (.string { data := #[] })).setCell ⟨w.heap.size + 1 + 1, 4, none⟩ (.int .i64 0)).setCell ⟨w.heap.size + 1 + 1, 5, none⟩ (.slice none 0 0)).setCell ⟨w.heap.size + 1 + 1, 6, none⟩ (.slice none 0 0)) = wf at *
  have hs := Keeps.set7' (w := wf) (g := w.heap.size + 1 + 1 + 1) (.int .u8 0) (.bool false) (.slice none 0 0) (.string { data := #[] }) (.int .i64 0) (.slice none 0 0) (.slice none 0 0)
  have HZg := hide (HZf.out.keep hs (by omega))
  have HWg := hide (HWf.out.put7 (.int .u8 0) (.bool false) (.slice none 0 0) (.string { data := #[] }) (.int .i64 0) (.slice none 0 0) (.slice none 0 0))
  have HKg := hide (HKf.out.set7 (g := w.heap.size + 1 + 1 + 1) (by omega) (.int .u8 0) (.bool false) (.slice none 0 0) (.string { data := #[] }) (.int .i64 0) (.slice none 0 0) (.slice none 0 0))
  clear hs HZf HWf HKf
  generalize (((((((wf.setCell ⟨w.heap.size + 1 + 1 + 1, 0, none⟩ (.int .u8 0)).setCell ⟨w.heap.size + 1 + 1 + 1, 1, none⟩ (.bool false)).setCell ⟨w.heap.size + 1 + 1 + 1, 2, none⟩ (.slice none 0 0)).setCell ⟨w.heap.size + 1 + 1 + 1, 3, none⟩ (.string { data := #[] })).setCell ⟨w.heap.size + 1 + 1 + 1, 4, none⟩ (.int .i64 0)).setCell ⟨w.heap.size + 1 + 1 + 1, 5, none⟩ (.slice none 0 0)).setCell ⟨w.heap.size + 1 + 1 + 1, 6, none⟩ (.slice none 0 0)) = wg at *
  obtain ⟨c0, c1, c2, c3, c4, c5, c6⟩ := Blk.c7 (show Blk wg (w.heap.size + 1 + 1) _ #[.int .u8 0, .bool false, .slice none 0 0, .string { data := #[] }, .int .i64 0, .slice none 0 0, .slice none 0 0] from HZg.out)
  obtain ⟨d0, d1, d2, d3, d4, d5, d6⟩ := Blk.c7 (show Blk wg (w.heap.size + 1 + 1 + 1) _ #[.int .u8 0, .bool false, .slice none 0 0, .string { data := #[] }, .int .i64 0, .slice none 0 0, .slice none 0 0] from HWg.out)
  refine bodyPost_ret (v := .tuple #[.agg #[.int .u8 0, .bool false, .slice none 0 0, .string { data := #[] }, .int .i64 0, .slice none 0 0, .slice none 0 0], .agg #[.int .u8 0, .bool false, .slice none 0 0, .string { data := #[] }, .int .i64 0, .slice none 0 0, .slice none 0 0], .bool false]) (by simp [results, Tryz.results78, go_sem, c0, c1, c2, c3, c4, c5, c6, d0, d1, d2, d3, d4, d5, d6]) rfl ?_
  exact ⟨rfl, HKg.out⟩
end Go.Proofs.YthbbalkhmofndaaGreatDoor
