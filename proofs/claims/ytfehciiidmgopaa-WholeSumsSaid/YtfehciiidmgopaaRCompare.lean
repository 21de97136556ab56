/- Compare of the reference. -/
import Derived.Test.YtfehciiidmgopaaRInt
namespace Go.Proofs.Ytfehciiidmgopaa
open Go.RowKit


theorem cmp_other {x y : Int} (h : decide (x < 0) ≠ decide (y < 0)) : cmpZ x y = if decide (x < 0) = true then -1 else 1 := by
  unfold cmpZ
  by_cases hx : x < 0
  · have hy : ¬ y < 0 := fun e => h (by rw [decide_eq_true hx, decide_eq_true e])
    rw [if_pos (by omega), if_pos (decide_eq_true hx)]
  · have hy : y < 0 := by
      by_cases e : y < 0
      · exact e
      · exact absurd (by rw [decide_eq_false hx, decide_eq_false e]) h
    rw [if_neg (by omega), if_pos (by omega), if_neg (by simp [hx])]
set_option maxHeartbeats 1000000 in
set_option maxRecDepth 100000 in
theorem rcompare_other (ng ng' : Bool) (A A' ia ta ia' ta' : Option Addr) (n c n' c' ic tc ic' tc' : Nat) (x y : Int) (hg : ¬ ng = ng') (w : World) (B B' : Nat → Prop) (h : IA w B ng A n c x) (h' : IA w B' ng' A' n' c' y) :
    Calls Try.prog 32 #[.agg #[.int .u8 1, .bool ng, .slice A n c, .string { data := #[] }, .int .i64 0, .slice ia 0 ic, .slice ta 0 tc], .agg #[.int .u8 1, .bool ng', .slice A' n' c', .string { data := #[] }, .int .i64 0, .slice ia' 0 ic', .slice ta' 0 tc']] w fun e w' => e = .returned (.int .i64 (cmpZ x y)) ∧ Keeps NoB w w' := by
  have HC := hide (cmp_other (x := x) (y := y) (by rw [← h.sign, ← h'.sign]; exact hg))
  rw [← h.sign] at HC
  have hn := h.len; have hn' := h'.len
  have HI := hide h; have HI' := hide h'
  have hb := h.bits; have hb' := h'.bits
  have HSX := hide h.sign; have HSY := hide h'.sign
  have HTA := hide (h.term ia ta ic tc); have HTB := hide (h'.term ia' ta' ic' tc')
  clear h h'
  go_enter Try.func32, Try.ntmps32
  have HX0 := hide ((Blk.new w 26 #[.int .u8 1, .bool ng, .slice A n c, .string { data := #[] }, .int .i64 0, .slice ia 0 ic, .slice ta 0 tc]).alloc (.cells #[.int .u8 1, .bool ng', .slice A' n' c', .string { data := #[] }, .int .i64 0, .slice ia' 0 ic', .slice ta' 0 tc'] 26))
  have HY0 := hide (Blk.new2' w (.cells #[.int .u8 1, .bool ng, .slice A n c, .string { data := #[] }, .int .i64 0, .slice ia 0 ic, .slice ta 0 tc] 26) 26 #[.int .u8 1, .bool ng', .slice A' n' c', .string { data := #[] }, .int .i64 0, .slice ia' 0 ic', .slice ta' 0 tc'])
  have HK0 := hide (((Keeps.refl NoB w).alloc (.cells #[.int .u8 1, .bool ng, .slice A n c, .string { data := #[] }, .int .i64 0, .slice ia 0 ic, .slice ta 0 tc] 26)).alloc (.cells #[.int .u8 1, .bool ng', .slice A' n' c', .string { data := #[] }, .int .i64 0, .slice ia' 0 ic', .slice ta' 0 tc'] 26))
  have HR1 := hide True.intro
  rcases ng with _ | _ <;> rcases ng' with _ | _
  · exact absurd rfl hg
  · go_wp2_with first | (clear HR1; go_at_call 33; refine ((HTA.out.keep HK0.out).rright).mono ?_; rintro e w1 ⟨rfl, hk1⟩; have HK1 := hide (HK0.out.trans' hk1 (fun _ _ => id) (fun _ _ => id)); have HX1 := hide (HX0.out.keep hk1 id); have HY1 := hide (HY0.out.keep hk1 id); clear hk1 HX0 HY0 HK0; have y0 : w1.cell? ⟨w.heap.size + 1, 0, none⟩ = some (.int .u8 1) := HY1.out.cell 0; have y1 : w1.cell? ⟨w.heap.size + 1, 1, none⟩ = some (.bool true) := HY1.out.cell 1; have y2 : w1.cell? ⟨w.heap.size + 1, 2, none⟩ = some (.slice A' n' c') := HY1.out.cell 2; have y3 : w1.cell? ⟨w.heap.size + 1, 3, none⟩ = some (.string { data := #[] }) := HY1.out.cell 3; have y4 : w1.cell? ⟨w.heap.size + 1, 4, none⟩ = some (.int .i64 0) := HY1.out.cell 4; have y5 : w1.cell? ⟨w.heap.size + 1, 5, none⟩ = some (.slice ia' 0 ic') := HY1.out.cell 5; have y6 : w1.cell? ⟨w.heap.size + 1, 6, none⟩ = some (.slice ta' 0 tc') := HY1.out.cell 6) | (go_at_call 33; refine ((HTB.out.keep HK1.out).rright).mono ?_; rintro e w2 ⟨rfl, hk2⟩; have HK2 := hide (HK1.out.trans' hk2 (fun _ _ => id) (fun _ _ => id)); have HX2 := hide (HX1.out.keep hk2 id); have HY2 := hide (HY1.out.keep hk2 id); clear hk2 HX1 HY1 HK1 y0 y1 y2 y3 y4 y5 y6; have x1 : w2.cell? ⟨w.heap.size, 1, none⟩ = some (.bool false) := HX2.out.cell 1; have y1 : w2.cell? ⟨w.heap.size + 1, 1, none⟩ = some (.bool true) := HY2.out.cell 1) | fail
    go_ret
    exact ⟨by rw [HC.out]; rfl, HK2.out⟩
  · go_wp2_with first | (clear HR1; go_at_call 33; refine ((HTA.out.keep HK0.out).rright).mono ?_; rintro e w1 ⟨rfl, hk1⟩; have HK1 := hide (HK0.out.trans' hk1 (fun _ _ => id) (fun _ _ => id)); have HX1 := hide (HX0.out.keep hk1 id); have HY1 := hide (HY0.out.keep hk1 id); clear hk1 HX0 HY0 HK0; have y0 : w1.cell? ⟨w.heap.size + 1, 0, none⟩ = some (.int .u8 1) := HY1.out.cell 0; have y1 : w1.cell? ⟨w.heap.size + 1, 1, none⟩ = some (.bool false) := HY1.out.cell 1; have y2 : w1.cell? ⟨w.heap.size + 1, 2, none⟩ = some (.slice A' n' c') := HY1.out.cell 2; have y3 : w1.cell? ⟨w.heap.size + 1, 3, none⟩ = some (.string { data := #[] }) := HY1.out.cell 3; have y4 : w1.cell? ⟨w.heap.size + 1, 4, none⟩ = some (.int .i64 0) := HY1.out.cell 4; have y5 : w1.cell? ⟨w.heap.size + 1, 5, none⟩ = some (.slice ia' 0 ic') := HY1.out.cell 5; have y6 : w1.cell? ⟨w.heap.size + 1, 6, none⟩ = some (.slice ta' 0 tc') := HY1.out.cell 6) | (go_at_call 33; refine ((HTB.out.keep HK1.out).rright).mono ?_; rintro e w2 ⟨rfl, hk2⟩; have HK2 := hide (HK1.out.trans' hk2 (fun _ _ => id) (fun _ _ => id)); have HX2 := hide (HX1.out.keep hk2 id); have HY2 := hide (HY1.out.keep hk2 id); clear hk2 HX1 HY1 HK1 y0 y1 y2 y3 y4 y5 y6; have x1 : w2.cell? ⟨w.heap.size, 1, none⟩ = some (.bool true) := HX2.out.cell 1; have y1 : w2.cell? ⟨w.heap.size + 1, 1, none⟩ = some (.bool false) := HY2.out.cell 1) | fail
    go_ret
    exact ⟨by rw [HC.out]; rfl, HK2.out⟩
  · exact absurd rfl hg
theorem cmp_like {x y : Int} (h : decide (x < 0) = decide (y < 0)) : cmpZ x y = if x.natAbs < y.natAbs then (if decide (x < 0) = true then 1 else -1) else if y.natAbs < x.natAbs then (if decide (x < 0) = true then -1 else 1) else 0 := by
  unfold cmpZ
  by_cases hx : x < 0
  · have hy : y < 0 := by rw [decide_eq_true hx] at h; exact of_decide_eq_true h.symm
    rw [decide_eq_true hx]
    simp only [if_true]
    repeat' split
    all_goals omega
  · have hy : ¬ y < 0 := by rw [decide_eq_false hx] at h; exact of_decide_eq_false h.symm
    rw [decide_eq_false hx]
    simp only [Bool.false_eq_true, if_false]
    repeat' split
    all_goals omega
set_option maxHeartbeats 4000000 in
set_option maxRecDepth 100000 in
theorem rcompare_same (ng ng' : Bool) (A A' ia ta ia' ta' : Option Addr) (n c n' c' ic tc ic' tc' : Nat) (x y : Int) (hg : ng = ng') (w : World) (B B' : Nat → Prop) (h : IA w B ng A n c x) (h' : IA w B' ng' A' n' c' y) :
    Calls Try.prog 32 #[.agg #[.int .u8 1, .bool ng, .slice A n c, .string { data := #[] }, .int .i64 0, .slice ia 0 ic, .slice ta 0 tc], .agg #[.int .u8 1, .bool ng', .slice A' n' c', .string { data := #[] }, .int .i64 0, .slice ia' 0 ic', .slice ta' 0 tc']] w fun e w' => e = .returned (.int .i64 (cmpZ x y)) ∧ Keeps NoB w w' := by
  have HC := hide (cmp_like (x := x) (y := y) (by rw [← h.sign, ← h'.sign]; exact hg))
  rw [← h.sign] at HC
  have hse : (ng != ng') = false := by rw [hg]; cases ng' <;> rfl
  have hse2 : (ng == ng') = true := by rw [hg]; cases ng' <;> rfl
  clear hg
  have hn := h.len; have hn' := h'.len
  have HI := hide h; have HI' := hide h'
  have hb := h.bits; have hb' := h'.bits
  have HSX := hide h.sign; have HSY := hide h'.sign
  have HTA := hide (h.term ia ta ic tc); have HTB := hide (h'.term ia' ta' ic' tc')
  clear h h'
  go_enter Try.func32, Try.ntmps32
  have HX0 := hide ((Blk.new w 26 #[.int .u8 1, .bool ng, .slice A n c, .string { data := #[] }, .int .i64 0, .slice ia 0 ic, .slice ta 0 tc]).alloc (.cells #[.int .u8 1, .bool ng', .slice A' n' c', .string { data := #[] }, .int .i64 0, .slice ia' 0 ic', .slice ta' 0 tc'] 26))
  have HY0 := hide (Blk.new2' w (.cells #[.int .u8 1, .bool ng, .slice A n c, .string { data := #[] }, .int .i64 0, .slice ia 0 ic, .slice ta 0 tc] 26) 26 #[.int .u8 1, .bool ng', .slice A' n' c', .string { data := #[] }, .int .i64 0, .slice ia' 0 ic', .slice ta' 0 tc'])
  have HK0 := hide (((Keeps.refl NoB w).alloc (.cells #[.int .u8 1, .bool ng, .slice A n c, .string { data := #[] }, .int .i64 0, .slice ia 0 ic, .slice ta 0 tc] 26)).alloc (.cells #[.int .u8 1, .bool ng', .slice A' n' c', .string { data := #[] }, .int .i64 0, .slice ia' 0 ic', .slice ta' 0 tc'] 26))
  have HR1 := hide True.intro
  have MM1 := hide True.intro; have MM2 := hide True.intro
  go_upto_region 7 with first | (clear HR1; go_at_call 33; refine ((HTA.out.keep HK0.out).rright).mono ?_; rintro e w1 ⟨rfl, hk1⟩; have HK1 := hide (HK0.out.trans' hk1 (fun _ _ => id) (fun _ _ => id)); have HX1 := hide (HX0.out.keep hk1 id); have HY1 := hide (HY0.out.keep hk1 id); clear hk1 HX0 HY0 HK0; have y0 : w1.cell? ⟨w.heap.size + 1, 0, none⟩ = some (.int .u8 1) := HY1.out.cell 0; have y1 : w1.cell? ⟨w.heap.size + 1, 1, none⟩ = some (.bool ng') := HY1.out.cell 1; have y2 : w1.cell? ⟨w.heap.size + 1, 2, none⟩ = some (.slice A' n' c') := HY1.out.cell 2; have y3 : w1.cell? ⟨w.heap.size + 1, 3, none⟩ = some (.string { data := #[] }) := HY1.out.cell 3; have y4 : w1.cell? ⟨w.heap.size + 1, 4, none⟩ = some (.int .i64 0) := HY1.out.cell 4; have y5 : w1.cell? ⟨w.heap.size + 1, 5, none⟩ = some (.slice ia' 0 ic') := HY1.out.cell 5; have y6 : w1.cell? ⟨w.heap.size + 1, 6, none⟩ = some (.slice ta' 0 tc') := HY1.out.cell 6) | (go_at_call 33; refine ((HTB.out.keep HK1.out).rright).mono ?_; rintro e w2 ⟨rfl, hk2⟩; have HK2 := hide (HK1.out.trans' hk2 (fun _ _ => id) (fun _ _ => id)); have HX2 := hide (HX1.out.keep hk2 id); have HY2 := hide (HY1.out.keep hk2 id); clear hk2 HX1 HY1 HK1 y0 y1 y2 y3 y4 y5 y6; have x1 : w2.cell? ⟨w.heap.size, 1, none⟩ = some (.bool ng) := HX2.out.cell 1; have y1 : w2.cell? ⟨w.heap.size + 1, 1, none⟩ = some (.bool ng') := HY2.out.cell 1) | fail
  have HZ2 := HX2
  refine order_begin (fun W => Keeps NoB w2.drew W) (fun _ => true) (by kernel_rfl) 6 rfl ?_
  have BX := hide (HX2.out.drew); have BY := hide (HY2.out.drew); have BZ := hide (HZ2.out.drew)
  have IX := hide (HI.out.keep (HK2.out.drew)); have IY := hide (HI'.out.keep (HK2.out.drew))
  have HKD := hide (HK2.out.drew)
  generalize w2.drew = W0 at *
  have HS : Keeps NoB W0 W0 := Keeps.refl _ _
  refine order_held (i := 0) rfl (by kernel_rfl) (fun _ _ _ h => h) (.inl ⟨rfl, fun W hW => by
    have q0 : W.cell? ⟨w.heap.size, 0, none⟩ = some (.int .u8 1) := hW.cell id (BX.out.cell 0)
    have q1 : W.cell? ⟨w.heap.size, 1, none⟩ = some (.bool ng) := hW.cell id (BX.out.cell 1)
    have q2 : W.cell? ⟨w.heap.size, 2, none⟩ = some (.slice A n c) := hW.cell id (BX.out.cell 2)
    have q3 : W.cell? ⟨w.heap.size, 3, none⟩ = some (.string { data := #[] }) := hW.cell id (BX.out.cell 3)
    have q4 : W.cell? ⟨w.heap.size, 4, none⟩ = some (.int .i64 0) := hW.cell id (BX.out.cell 4)
    have q5 : W.cell? ⟨w.heap.size, 5, none⟩ = some (.slice ia 0 ic) := hW.cell id (BX.out.cell 5)
    have q6 : W.cell? ⟨w.heap.size, 6, none⟩ = some (.slice ta 0 tc) := hW.cell id (BX.out.cell 6)
    go_simp; rfl⟩) HS ?_
  try simp only [Act.put, List.setIfInBounds_toArray, List.set_cons_succ, List.set_cons_zero]
  refine order_held (i := 2) rfl (by kernel_rfl) (fun _ _ _ h => h) (.inl ⟨rfl, fun W hW => by
    have q0 : W.cell? ⟨w.heap.size + 1, 0, none⟩ = some (.int .u8 1) := hW.cell id (BY.out.cell 0)
    have q1 : W.cell? ⟨w.heap.size + 1, 1, none⟩ = some (.bool ng') := hW.cell id (BY.out.cell 1)
    have q2 : W.cell? ⟨w.heap.size + 1, 2, none⟩ = some (.slice A' n' c') := hW.cell id (BY.out.cell 2)
    have q3 : W.cell? ⟨w.heap.size + 1, 3, none⟩ = some (.string { data := #[] }) := hW.cell id (BY.out.cell 3)
    have q4 : W.cell? ⟨w.heap.size + 1, 4, none⟩ = some (.int .i64 0) := hW.cell id (BY.out.cell 4)
    have q5 : W.cell? ⟨w.heap.size + 1, 5, none⟩ = some (.slice ia' 0 ic') := hW.cell id (BY.out.cell 5)
    have q6 : W.cell? ⟨w.heap.size + 1, 6, none⟩ = some (.slice ta' 0 tc') := hW.cell id (BY.out.cell 6)
    go_simp; rfl⟩) HS ?_
  try simp only [Act.put, List.setIfInBounds_toArray, List.set_cons_succ, List.set_cons_zero]
  clear HS
  refine order_one (i := 1) rfl (by kernel_rfl) (fun K hK => ?_)
  go_simp
  refine (bits_any _ _ _ _ _ _ _ _ _ W0 _ IX.out).mono ?_
  rintro e V1 ⟨A1, n1, c1, rfl, hn1, hb1, hk1⟩
  refine hK _ _ (fun _ hS => hS.trans' hk1 (fun _ _ => id) (fun _ _ => id)) ?_
  clear hK
  have HN1 := hide hn1
  clear hn1
  try simp only [Act.put, List.setIfInBounds_toArray, List.set_cons_succ, List.set_cons_zero]
  refine order_one (i := 3) rfl (by kernel_rfl) (fun K hK => ?_)
  go_simp
  refine (bits_any _ _ _ _ _ _ _ _ _ V1 _ (IY.out.keep hk1)).mono ?_
  rintro e V2 ⟨A2, n2, c2, rfl, hn2, hb2, hk2⟩
  refine hK _ _ (fun _ hS => hS.trans' hk2 (fun _ _ => id) (fun _ _ => id)) ?_
  clear hK
  try simp only [Act.put, List.setIfInBounds_toArray, List.set_cons_succ, List.set_cons_zero]
  have HB1 := hide (hb1.keep hk2); have HB2 := hide hb2; have HN2 := hide hn2
  have HKK : Hid (Keeps NoB W0 V2) := hide (hk1.trans' hk2 (fun _ _ h => h) (fun _ _ h => h))
  have HX3 := hide (BX.out.keep HKK.out id); have HY3 := hide (BY.out.keep HKK.out id); have HZ3 := hide (BZ.out.keep HKK.out id)
  have HK3 := hide (HKD.out.trans' HKK.out (fun _ _ h => h) (fun _ _ h => h))
  clear hk1 hk2 hn2 hb1 hb2 BX BY BZ IX IY HKD
  refine order_pure (i := 4) rfl (by kernel_rfl) (fun _ _ _ h => h) (.inl ⟨rfl, fun _ => by go_simp; rfl⟩) ?_
  try simp only [Act.put, List.setIfInBounds_toArray, List.set_cons_succ, List.set_cons_zero]
  refine order_pure (i := 5) rfl (by kernel_rfl) (fun _ _ _ h => h) (.inl ⟨rfl, fun _ => by go_simp; rfl⟩) ?_
  try simp only [Act.put, List.setIfInBounds_toArray, List.set_cons_succ, List.set_cons_zero]
  refine order_done (by kernel_rfl) ?_
  have hN1 : n1 ≤ 1024 := by rw [HN1.out]; exact hb
  have hN2 : n2 ≤ 1024 := by rw [HN2.out]; exact hb'
  clear HX2 HY2 HZ2 HK2 HKK HZ3 x1 y1
  rcases (by omega : x.natAbs < y.natAbs ∨ y.natAbs < x.natAbs ∨ x.natAbs = y.natAbs) with hl | hl | hl
  · have HD1 := hide (show decide (natB (digB x.natAbs) < natB (digB y.natAbs)) = true from by rw [natB_dig, natB_dig]; exact decide_eq_true hl)
    have HD2 := hide (show decide (natB (digB y.natAbs) < natB (digB x.natAbs)) = false from by rw [natB_dig, natB_dig]; exact decide_eq_false (by omega))
    rw [if_pos hl] at HC
    clear hl
    clear hse hse2
    rcases (by cases ng <;> simp : ng = false ∨ ng = true) with hv | hv
    · have HNV := hide hv
      rw [hv] at HC
      clear hv
      go_wp2_with first | (clear MM1; go_at_call 54; refine (below_any A1 A2 n1 c1 n2 c2 (max n1 n2) _ _ V2 _ _ HB1.out HB2.out rfl (by omega)).mono ?_; rintro e w4 ⟨rfl, hk4⟩; rw [HD1.out]; have HB1' := hide (HB1.out.keep hk4); have HB2' := hide (HB2.out.keep hk4); have HX4 := hide (HX3.out.keep hk4 id); have HK4 := hide (HK3.out.trans' hk4 (fun _ _ h => h) (fun _ _ h => h)); clear hk4 HB1 HB2 HX3 HY3 HK3) | (clear MM2; go_at_call 54; refine (below_any A2 A1 n2 c2 n1 c1 (max n2 n1) _ _ w4 _ _ HB2'.out HB1'.out rfl (by omega)).mono ?_; rintro e w5 ⟨rfl, hk5⟩; rw [HD2.out]; have HB1'' := hide (HB1'.out.keep hk5); have HB2'' := hide (HB2'.out.keep hk5); have HX5 := hide (HX4.out.keep hk5 id); have HK5 := hide (HK4.out.trans' hk5 (fun _ _ h => h) (fun _ _ h => h)); clear hk5 HB1' HB2' HX4 HK4) | fail
      refine order_begin (fun W => Keeps NoB w5.drew W) (fun _ => true) (by kernel_rfl) 6 rfl ?_
      have BX := hide HX5.out.drew
      have C1 := hide (HB1''.out.keep (Keeps.refl NoB w5).drew); have C2 := hide (HB2''.out.keep (Keeps.refl NoB w5).drew)
      have HKD := hide HK5.out.drew
      clear HX5 HK5 HB1'' HB2''
      generalize w5.drew = W0 at *
      have HS : Keeps NoB W0 W0 := Keeps.refl _ _
      refine order_pure (i := 0) rfl (by kernel_rfl) (fun _ _ _ h => h) (.inl ⟨rfl, fun _ => by go_simp; rfl⟩) ?_
      try simp only [Act.put, List.setIfInBounds_toArray, List.set_cons_succ, List.set_cons_zero]
      refine order_pure (i := 1) rfl (by kernel_rfl) (fun _ _ _ h => h) (.inl ⟨rfl, fun _ => by go_simp; rfl⟩) ?_
      try simp only [Act.put, List.setIfInBounds_toArray, List.set_cons_succ, List.set_cons_zero]
      refine order_pure (i := 3) rfl (by kernel_rfl) (fun _ _ _ h => h) (.inl ⟨rfl, fun _ => by go_simp; rfl⟩) ?_
      try simp only [Act.put, List.setIfInBounds_toArray, List.set_cons_succ, List.set_cons_zero]
      refine order_held (i := 4) rfl (by kernel_rfl) (fun _ _ _ h => h) (.inl ⟨rfl, fun W hW => by
        have q0 : W.cell? ⟨w.heap.size, 1, none⟩ = some (.bool false) := by rw [← HNV.out]; exact hW.cell id (BX.out.cell 1)
        go_simp; rfl⟩) HS ?_
      try simp only [Act.put, List.setIfInBounds_toArray, List.set_cons_succ, List.set_cons_zero]
      clear HS
      refine order_one (i := 2) rfl (by kernel_rfl) (fun K hK => ?_)
      go_simp
      refine (below_any A1 A2 n1 c1 n2 c2 (max n1 n2) _ _ W0 _ _ C1.out C2.out rfl (by omega)).mono ?_
      rintro e V5 ⟨rfl, hk⟩
      refine hK _ _ (fun _ hS => hS.trans' hk (fun _ _ => id) (fun _ _ => id)) ?_
      clear hK
      rw [HD1.out]
      have HKf := hide (HKD.out.trans' hk (fun _ _ h => h) (fun _ _ h => h))
      clear hk
      try simp only [Act.put, List.setIfInBounds_toArray, List.set_cons_succ, List.set_cons_zero]
      refine order_pure (i := 5) rfl (by kernel_rfl) (fun _ _ _ h => h) (.inl ⟨rfl, fun _ => by go_simp; rfl⟩) ?_
      try simp only [Act.put, List.setIfInBounds_toArray, List.set_cons_succ, List.set_cons_zero]
      refine order_done (by kernel_rfl) ?_
      go_wp2
      go_ret
      exact ⟨by rw [HC.out]; rfl, HKf.out⟩
    · have HNV := hide hv
      rw [hv] at HC
      clear hv
      go_wp2_with first | (clear MM1; go_at_call 54; refine (below_any A1 A2 n1 c1 n2 c2 (max n1 n2) _ _ V2 _ _ HB1.out HB2.out rfl (by omega)).mono ?_; rintro e w4 ⟨rfl, hk4⟩; rw [HD1.out]; have HB1' := hide (HB1.out.keep hk4); have HB2' := hide (HB2.out.keep hk4); have HX4 := hide (HX3.out.keep hk4 id); have HK4 := hide (HK3.out.trans' hk4 (fun _ _ h => h) (fun _ _ h => h)); clear hk4 HB1 HB2 HX3 HY3 HK3) | (clear MM2; go_at_call 54; refine (below_any A2 A1 n2 c2 n1 c1 (max n2 n1) _ _ w4 _ _ HB2'.out HB1'.out rfl (by omega)).mono ?_; rintro e w5 ⟨rfl, hk5⟩; rw [HD2.out]; have HB1'' := hide (HB1'.out.keep hk5); have HB2'' := hide (HB2'.out.keep hk5); have HX5 := hide (HX4.out.keep hk5 id); have HK5 := hide (HK4.out.trans' hk5 (fun _ _ h => h) (fun _ _ h => h)); clear hk5 HB1' HB2' HX4 HK4) | fail
      refine order_begin (fun W => Keeps NoB w5.drew W) (fun _ => true) (by kernel_rfl) 6 rfl ?_
      have BX := hide HX5.out.drew
      have C1 := hide (HB1''.out.keep (Keeps.refl NoB w5).drew); have C2 := hide (HB2''.out.keep (Keeps.refl NoB w5).drew)
      have HKD := hide HK5.out.drew
      clear HX5 HK5 HB1'' HB2''
      generalize w5.drew = W0 at *
      have HS : Keeps NoB W0 W0 := Keeps.refl _ _
      refine order_pure (i := 0) rfl (by kernel_rfl) (fun _ _ _ h => h) (.inl ⟨rfl, fun _ => by go_simp; rfl⟩) ?_
      try simp only [Act.put, List.setIfInBounds_toArray, List.set_cons_succ, List.set_cons_zero]
      refine order_pure (i := 1) rfl (by kernel_rfl) (fun _ _ _ h => h) (.inl ⟨rfl, fun _ => by go_simp; rfl⟩) ?_
      try simp only [Act.put, List.setIfInBounds_toArray, List.set_cons_succ, List.set_cons_zero]
      refine order_pure (i := 3) rfl (by kernel_rfl) (fun _ _ _ h => h) (.inl ⟨rfl, fun _ => by go_simp; rfl⟩) ?_
      try simp only [Act.put, List.setIfInBounds_toArray, List.set_cons_succ, List.set_cons_zero]
      refine order_held (i := 4) rfl (by kernel_rfl) (fun _ _ _ h => h) (.inl ⟨rfl, fun W hW => by
        have q0 : W.cell? ⟨w.heap.size, 1, none⟩ = some (.bool true) := by rw [← HNV.out]; exact hW.cell id (BX.out.cell 1)
        go_simp; rfl⟩) HS ?_
      try simp only [Act.put, List.setIfInBounds_toArray, List.set_cons_succ, List.set_cons_zero]
      clear HS
      refine order_one (i := 2) rfl (by kernel_rfl) (fun K hK => ?_)
      go_simp
      refine (below_any A1 A2 n1 c1 n2 c2 (max n1 n2) _ _ W0 _ _ C1.out C2.out rfl (by omega)).mono ?_
      rintro e V5 ⟨rfl, hk⟩
      refine hK _ _ (fun _ hS => hS.trans' hk (fun _ _ => id) (fun _ _ => id)) ?_
      clear hK
      rw [HD1.out]
      have HKf := hide (HKD.out.trans' hk (fun _ _ h => h) (fun _ _ h => h))
      clear hk
      try simp only [Act.put, List.setIfInBounds_toArray, List.set_cons_succ, List.set_cons_zero]
      refine order_pure (i := 5) rfl (by kernel_rfl) (fun _ _ _ h => h) (.inl ⟨rfl, fun _ => by go_simp; rfl⟩) ?_
      try simp only [Act.put, List.setIfInBounds_toArray, List.set_cons_succ, List.set_cons_zero]
      refine order_done (by kernel_rfl) ?_
      go_wp2
      go_ret
      exact ⟨by rw [HC.out]; rfl, HKf.out⟩
  · have HD1 := hide (show decide (natB (digB x.natAbs) < natB (digB y.natAbs)) = false from by rw [natB_dig, natB_dig]; exact decide_eq_false (by omega))
    have HD2 := hide (show decide (natB (digB y.natAbs) < natB (digB x.natAbs)) = true from by rw [natB_dig, natB_dig]; exact decide_eq_true hl)
    rw [if_neg (by omega), if_pos hl] at HC
    clear hl
    clear hse hse2
    rcases (by cases ng <;> simp : ng = false ∨ ng = true) with hv | hv
    · have HNV := hide hv
      rw [hv] at HC
      clear hv
      go_wp2_with first | (clear MM1; go_at_call 54; refine (below_any A1 A2 n1 c1 n2 c2 (max n1 n2) _ _ V2 _ _ HB1.out HB2.out rfl (by omega)).mono ?_; rintro e w4 ⟨rfl, hk4⟩; rw [HD1.out]; have HB1' := hide (HB1.out.keep hk4); have HB2' := hide (HB2.out.keep hk4); have HX4 := hide (HX3.out.keep hk4 id); have HK4 := hide (HK3.out.trans' hk4 (fun _ _ h => h) (fun _ _ h => h)); clear hk4 HB1 HB2 HX3 HY3 HK3) | (clear MM2; go_at_call 54; refine (below_any A2 A1 n2 c2 n1 c1 (max n2 n1) _ _ w4 _ _ HB2'.out HB1'.out rfl (by omega)).mono ?_; rintro e w5 ⟨rfl, hk5⟩; rw [HD2.out]; have HB1'' := hide (HB1'.out.keep hk5); have HB2'' := hide (HB2'.out.keep hk5); have HX5 := hide (HX4.out.keep hk5 id); have HK5 := hide (HK4.out.trans' hk5 (fun _ _ h => h) (fun _ _ h => h)); clear hk5 HB1' HB2' HX4 HK4) | fail
      refine order_begin (fun W => Keeps NoB w5.drew W) (fun _ => true) (by kernel_rfl) 6 rfl ?_
      have BX := hide HX5.out.drew
      have C1 := hide (HB1''.out.keep (Keeps.refl NoB w5).drew); have C2 := hide (HB2''.out.keep (Keeps.refl NoB w5).drew)
      have HKD := hide HK5.out.drew
      clear HX5 HK5 HB1'' HB2''
      generalize w5.drew = W0 at *
      have HS : Keeps NoB W0 W0 := Keeps.refl _ _
      refine order_pure (i := 0) rfl (by kernel_rfl) (fun _ _ _ h => h) (.inl ⟨rfl, fun _ => by go_simp; rfl⟩) ?_
      try simp only [Act.put, List.setIfInBounds_toArray, List.set_cons_succ, List.set_cons_zero]
      refine order_pure (i := 1) rfl (by kernel_rfl) (fun _ _ _ h => h) (.inl ⟨rfl, fun _ => by go_simp; rfl⟩) ?_
      try simp only [Act.put, List.setIfInBounds_toArray, List.set_cons_succ, List.set_cons_zero]
      refine order_pure (i := 3) rfl (by kernel_rfl) (fun _ _ _ h => h) (.inl ⟨rfl, fun _ => by go_simp; rfl⟩) ?_
      try simp only [Act.put, List.setIfInBounds_toArray, List.set_cons_succ, List.set_cons_zero]
      refine order_held (i := 4) rfl (by kernel_rfl) (fun _ _ _ h => h) (.inl ⟨rfl, fun W hW => by
        have q0 : W.cell? ⟨w.heap.size, 1, none⟩ = some (.bool false) := by rw [← HNV.out]; exact hW.cell id (BX.out.cell 1)
        go_simp; rfl⟩) HS ?_
      try simp only [Act.put, List.setIfInBounds_toArray, List.set_cons_succ, List.set_cons_zero]
      clear HS
      refine order_one (i := 2) rfl (by kernel_rfl) (fun K hK => ?_)
      go_simp
      refine (below_any A1 A2 n1 c1 n2 c2 (max n1 n2) _ _ W0 _ _ C1.out C2.out rfl (by omega)).mono ?_
      rintro e V5 ⟨rfl, hk⟩
      refine hK _ _ (fun _ hS => hS.trans' hk (fun _ _ => id) (fun _ _ => id)) ?_
      clear hK
      rw [HD1.out]
      have HKf := hide (HKD.out.trans' hk (fun _ _ h => h) (fun _ _ h => h))
      clear hk
      try simp only [Act.put, List.setIfInBounds_toArray, List.set_cons_succ, List.set_cons_zero]
      refine order_pure (i := 5) rfl (by kernel_rfl) (fun _ _ _ h => h) (.inl ⟨rfl, fun _ => by go_simp; rfl⟩) ?_
      try simp only [Act.put, List.setIfInBounds_toArray, List.set_cons_succ, List.set_cons_zero]
      refine order_done (by kernel_rfl) ?_
      go_wp2
      go_ret
      exact ⟨by rw [HC.out]; rfl, HKf.out⟩
    · have HNV := hide hv
      rw [hv] at HC
      clear hv
      go_wp2_with first | (clear MM1; go_at_call 54; refine (below_any A1 A2 n1 c1 n2 c2 (max n1 n2) _ _ V2 _ _ HB1.out HB2.out rfl (by omega)).mono ?_; rintro e w4 ⟨rfl, hk4⟩; rw [HD1.out]; have HB1' := hide (HB1.out.keep hk4); have HB2' := hide (HB2.out.keep hk4); have HX4 := hide (HX3.out.keep hk4 id); have HK4 := hide (HK3.out.trans' hk4 (fun _ _ h => h) (fun _ _ h => h)); clear hk4 HB1 HB2 HX3 HY3 HK3) | (clear MM2; go_at_call 54; refine (below_any A2 A1 n2 c2 n1 c1 (max n2 n1) _ _ w4 _ _ HB2'.out HB1'.out rfl (by omega)).mono ?_; rintro e w5 ⟨rfl, hk5⟩; rw [HD2.out]; have HB1'' := hide (HB1'.out.keep hk5); have HB2'' := hide (HB2'.out.keep hk5); have HX5 := hide (HX4.out.keep hk5 id); have HK5 := hide (HK4.out.trans' hk5 (fun _ _ h => h) (fun _ _ h => h)); clear hk5 HB1' HB2' HX4 HK4) | fail
      refine order_begin (fun W => Keeps NoB w5.drew W) (fun _ => true) (by kernel_rfl) 6 rfl ?_
      have BX := hide HX5.out.drew
      have C1 := hide (HB1''.out.keep (Keeps.refl NoB w5).drew); have C2 := hide (HB2''.out.keep (Keeps.refl NoB w5).drew)
      have HKD := hide HK5.out.drew
      clear HX5 HK5 HB1'' HB2''
      generalize w5.drew = W0 at *
      have HS : Keeps NoB W0 W0 := Keeps.refl _ _
      refine order_pure (i := 0) rfl (by kernel_rfl) (fun _ _ _ h => h) (.inl ⟨rfl, fun _ => by go_simp; rfl⟩) ?_
      try simp only [Act.put, List.setIfInBounds_toArray, List.set_cons_succ, List.set_cons_zero]
      refine order_pure (i := 1) rfl (by kernel_rfl) (fun _ _ _ h => h) (.inl ⟨rfl, fun _ => by go_simp; rfl⟩) ?_
      try simp only [Act.put, List.setIfInBounds_toArray, List.set_cons_succ, List.set_cons_zero]
      refine order_pure (i := 3) rfl (by kernel_rfl) (fun _ _ _ h => h) (.inl ⟨rfl, fun _ => by go_simp; rfl⟩) ?_
      try simp only [Act.put, List.setIfInBounds_toArray, List.set_cons_succ, List.set_cons_zero]
      refine order_held (i := 4) rfl (by kernel_rfl) (fun _ _ _ h => h) (.inl ⟨rfl, fun W hW => by
        have q0 : W.cell? ⟨w.heap.size, 1, none⟩ = some (.bool true) := by rw [← HNV.out]; exact hW.cell id (BX.out.cell 1)
        go_simp; rfl⟩) HS ?_
      try simp only [Act.put, List.setIfInBounds_toArray, List.set_cons_succ, List.set_cons_zero]
      clear HS
      refine order_one (i := 2) rfl (by kernel_rfl) (fun K hK => ?_)
      go_simp
      refine (below_any A1 A2 n1 c1 n2 c2 (max n1 n2) _ _ W0 _ _ C1.out C2.out rfl (by omega)).mono ?_
      rintro e V5 ⟨rfl, hk⟩
      refine hK _ _ (fun _ hS => hS.trans' hk (fun _ _ => id) (fun _ _ => id)) ?_
      clear hK
      rw [HD1.out]
      have HKf := hide (HKD.out.trans' hk (fun _ _ h => h) (fun _ _ h => h))
      clear hk
      try simp only [Act.put, List.setIfInBounds_toArray, List.set_cons_succ, List.set_cons_zero]
      refine order_pure (i := 5) rfl (by kernel_rfl) (fun _ _ _ h => h) (.inl ⟨rfl, fun _ => by go_simp; rfl⟩) ?_
      try simp only [Act.put, List.setIfInBounds_toArray, List.set_cons_succ, List.set_cons_zero]
      refine order_done (by kernel_rfl) ?_
      go_wp2
      go_ret
      exact ⟨by rw [HC.out]; rfl, HKf.out⟩
  · have HD1 := hide (show decide (natB (digB x.natAbs) < natB (digB y.natAbs)) = false from by rw [natB_dig, natB_dig]; exact decide_eq_false (by omega))
    have HD2 := hide (show decide (natB (digB y.natAbs) < natB (digB x.natAbs)) = false from by rw [natB_dig, natB_dig]; exact decide_eq_false (by omega))
    rw [if_neg (by omega), if_neg (by omega)] at HC
    clear hl
    go_wp2_with first | (clear MM1; go_at_call 54; refine (below_any A1 A2 n1 c1 n2 c2 (max n1 n2) _ _ V2 _ _ HB1.out HB2.out rfl (by omega)).mono ?_; rintro e w4 ⟨rfl, hk4⟩; rw [HD1.out]; have HB1' := hide (HB1.out.keep hk4); have HB2' := hide (HB2.out.keep hk4); have HX4 := hide (HX3.out.keep hk4 id); have HK4 := hide (HK3.out.trans' hk4 (fun _ _ h => h) (fun _ _ h => h)); clear hk4 HB1 HB2 HX3 HY3 HK3) | (clear MM2; go_at_call 54; refine (below_any A2 A1 n2 c2 n1 c1 (max n2 n1) _ _ w4 _ _ HB2'.out HB1'.out rfl (by omega)).mono ?_; rintro e w5 ⟨rfl, hk5⟩; rw [HD2.out]; have HB1'' := hide (HB1'.out.keep hk5); have HB2'' := hide (HB2'.out.keep hk5); have HX5 := hide (HX4.out.keep hk5 id); have HK5 := hide (HK4.out.trans' hk5 (fun _ _ h => h) (fun _ _ h => h)); clear hk5 HB1' HB2' HX4 HK4) | fail
    go_ret
    exact ⟨by rw [HC.out]; rfl, HK5.out⟩
theorem rcompare_any (ng ng' : Bool) (A A' ia ta ia' ta' : Option Addr) (n c n' c' ic tc ic' tc' : Nat) (x y : Int) (w : World) (B B' : Nat → Prop) (h : IA w B ng A n c x) (h' : IA w B' ng' A' n' c' y) :
    Calls Try.prog 32 #[.agg #[.int .u8 1, .bool ng, .slice A n c, .string { data := #[] }, .int .i64 0, .slice ia 0 ic, .slice ta 0 tc], .agg #[.int .u8 1, .bool ng', .slice A' n' c', .string { data := #[] }, .int .i64 0, .slice ia' 0 ic', .slice ta' 0 tc']] w fun e w' => e = .returned (.int .i64 (cmpZ x y)) ∧ Keeps NoB w w' := by
  by_cases hg : ng = ng'
  · exact rcompare_same ng ng' A A' ia ta ia' ta' n c n' c' ic tc ic' tc' x y hg w B B' h h'
  · exact rcompare_other ng ng' A A' ia ta ia' ta' n c n' c' ic tc ic' tc' x y hg w B B' h h'
end Go.Proofs.Ytfehciiidmgopaa
