/- Sub of the reference; Sub at a first term that is no integer (both sides). -/
import Derived.Test.YtfehciiidmgopaaIntBad
namespace Go.Proofs.Ytfehciiidmgopaa
open Go.RowKit


set_option maxHeartbeats 4000000 in
set_option maxRecDepth 100000 in
theorem sub_bad1 (ng' : Bool) (A' ia' ta' : Option Addr) (n' c' ic' tc' : Nat) (y : Int) (w : World) (B B' : Nat → Prop) {cs : Array Value} (ha : TermA w B false cs) (h' : IA w B' ng' A' n' c' y) :
    Calls Try.prog 27 #[.agg cs, .agg #[.int .u8 1, .bool ng', .slice A' n' c', .string { data := #[] }, .int .i64 0, .slice ia' 0 ic', .slice ta' 0 tc']] w (NoP w) := by
  have HTA := hide ha
  obtain ⟨kd, ng, la, ln, lc, tx, nu, ia, im, ic, ta, tm, tc, l, rfl, hl, hi, ht, hr⟩ := ha
  clear hl hi ht hr
  have HI' := hide h'
  have HSG := hide (neg_sgn h'.sign)
  have HRM := hide (show nat (dig y.natAbs) < Big from by rw [nat_dig]; exact h'.room)
  clear h'
  go_enter Try.func27, Try.ntmps27
  have HX0 := hide (((Blk.new w 26 #[.int .u8 kd, .bool ng, .slice la ln lc, .string tx, .int .i64 nu, .slice ia im ic, .slice ta tm tc]).alloc (.cells #[.int .u8 1, .bool ng', .slice A' n' c', .string { data := #[] }, .int .i64 0, .slice ia' 0 ic', .slice ta' 0 tc'] 26)).alloc (.cells #[.int .u8 0, .bool false, .slice none 0 0, .string { data := #[] }, .int .i64 0, .slice none 0 0, .slice none 0 0] 26))
  have HY0 := hide ((Blk.new2' w (.cells #[.int .u8 kd, .bool ng, .slice la ln lc, .string tx, .int .i64 nu, .slice ia im ic, .slice ta tm tc] 26) 26 #[.int .u8 1, .bool ng', .slice A' n' c', .string { data := #[] }, .int .i64 0, .slice ia' 0 ic', .slice ta' 0 tc']).alloc (.cells #[.int .u8 0, .bool false, .slice none 0 0, .string { data := #[] }, .int .i64 0, .slice none 0 0, .slice none 0 0] 26))
  have HZ0 := hide (Blk.new3' w (.cells #[.int .u8 kd, .bool ng, .slice la ln lc, .string tx, .int .i64 nu, .slice ia im ic, .slice ta tm tc] 26) (.cells #[.int .u8 1, .bool ng', .slice A' n' c', .string { data := #[] }, .int .i64 0, .slice ia' 0 ic', .slice ta' 0 tc'] 26) 26 #[.int .u8 0, .bool false, .slice none 0 0, .string { data := #[] }, .int .i64 0, .slice none 0 0, .slice none 0 0])
  have HK0 := hide ((((Keeps.refl NoB w).alloc (.cells #[.int .u8 kd, .bool ng, .slice la ln lc, .string tx, .int .i64 nu, .slice ia im ic, .slice ta tm tc] 26)).alloc (.cells #[.int .u8 1, .bool ng', .slice A' n' c', .string { data := #[] }, .int .i64 0, .slice ia' 0 ic', .slice ta' 0 tc'] 26)).alloc (.cells #[.int .u8 0, .bool false, .slice none 0 0, .string { data := #[] }, .int .i64 0, .slice none 0 0, .slice none 0 0] 26))
  go_wp2_with first | (go_at_call 24; refine ((HI'.out.keep HK0.out).right _ _ _ _).mono ?_; rintro e w1 ⟨rfl, hk1⟩; have HK1 := hide (HK0.out.trans' hk1 (fun _ _ => id) (fun _ _ => id)); have HX1 := hide (HX0.out.keep hk1 id); have HY1 := hide (HY0.out.keep hk1 id); have HZ1 := hide (HZ0.out.keep hk1 id); clear hk1 HX0 HY0 HZ0 HK0; have y1 : w1.cell? ⟨w.heap.size + 1, 1, none⟩ = some (.bool ng') := HY1.out.cell 1; have y2 : w1.cell? ⟨w.heap.size + 1, 2, none⟩ = some (.slice A' n' c') := HY1.out.cell 2) | (go_at_call 35; refine (made_yes A' n' c' (!ng') (dig y.natAbs) w1 _ (HI'.out.keep HK1.out).limbs HRM.out).mono ?_; rintro e w2 ⟨ngm, Am, nm, cm, rfl, iam, hk2⟩; rw [nat_dig, HSG.out] at iam; have hka := hk2.alloc (.cells #[.int .u8 1, .bool ngm, .slice Am nm cm, .string { data := #[] }, .int .i64 0, .slice none 0 0, .slice none 0 0] 26); have IM2 := hide (iam.keep ((Keeps.refl NoB w2).alloc (.cells #[.int .u8 1, .bool ngm, .slice Am nm cm, .string { data := #[] }, .int .i64 0, .slice none 0 0, .slice none 0 0] 26))); have HK2 := hide (HK1.out.trans' hka (fun _ _ => id) (fun _ _ => id)); have HX2 := hide (HX1.out.keep hka id); have HZ2 := hide (HZ1.out.keep hka id); clear hk2 hka iam HX1 HY1 HZ1 HK1 y1 y2; have x0 : (w2.alloc (.cells #[.int .u8 1, .bool ngm, .slice Am nm cm, .string { data := #[] }, .int .i64 0, .slice none 0 0, .slice none 0 0] 26)).cell? ⟨w.heap.size, 0, none⟩ = some (.int .u8 kd) := HX2.out.cell 0; have x1 : (w2.alloc (.cells #[.int .u8 1, .bool ngm, .slice Am nm cm, .string { data := #[] }, .int .i64 0, .slice none 0 0, .slice none 0 0] 26)).cell? ⟨w.heap.size, 1, none⟩ = some (.bool ng) := HX2.out.cell 1; have x2 : (w2.alloc (.cells #[.int .u8 1, .bool ngm, .slice Am nm cm, .string { data := #[] }, .int .i64 0, .slice none 0 0, .slice none 0 0] 26)).cell? ⟨w.heap.size, 2, none⟩ = some (.slice la ln lc) := HX2.out.cell 2; have x3 : (w2.alloc (.cells #[.int .u8 1, .bool ngm, .slice Am nm cm, .string { data := #[] }, .int .i64 0, .slice none 0 0, .slice none 0 0] 26)).cell? ⟨w.heap.size, 3, none⟩ = some (.string tx) := HX2.out.cell 3; have x4 : (w2.alloc (.cells #[.int .u8 1, .bool ngm, .slice Am nm cm, .string { data := #[] }, .int .i64 0, .slice none 0 0, .slice none 0 0] 26)).cell? ⟨w.heap.size, 4, none⟩ = some (.int .i64 nu) := HX2.out.cell 4; have x5 : (w2.alloc (.cells #[.int .u8 1, .bool ngm, .slice Am nm cm, .string { data := #[] }, .int .i64 0, .slice none 0 0, .slice none 0 0] 26)).cell? ⟨w.heap.size, 5, none⟩ = some (.slice ia im ic) := HX2.out.cell 5; have x6 : (w2.alloc (.cells #[.int .u8 1, .bool ngm, .slice Am nm cm, .string { data := #[] }, .int .i64 0, .slice none 0 0, .slice none 0 0] 26)).cell? ⟨w.heap.size, 6, none⟩ = some (.slice ta tm tc) := HX2.out.cell 6) | (go_at_call 25; refine (add_bad1 (HTA.out.keep HK2.out) (IM2.out.term none none 0 0)).mono ?_; rintro e w5 ⟨rfl, hk⟩; have HB5 := hide (HZ2.out.keep hk id); have HK5 := hide (HK2.out.trans' hk (fun _ _ => id) (fun _ _ => id)); clear hk x0 x1 x2 x3 x4 x5 x6; have hsz := HZ2.out.lt; have z0 : w5.cell? ⟨w.heap.size + 1 + 1, 0, none⟩ = some (.int .u8 0) := HB5.out.cell 0; have z1 : w5.cell? ⟨w.heap.size + 1 + 1, 1, none⟩ = some (.bool false) := HB5.out.cell 1; have z2 : w5.cell? ⟨w.heap.size + 1 + 1, 2, none⟩ = some (.slice none 0 0) := HB5.out.cell 2; have z3 : w5.cell? ⟨w.heap.size + 1 + 1, 3, none⟩ = some (.string { data := #[] }) := HB5.out.cell 3; have z4 : w5.cell? ⟨w.heap.size + 1 + 1, 4, none⟩ = some (.int .i64 0) := HB5.out.cell 4; have z5 : w5.cell? ⟨w.heap.size + 1 + 1, 5, none⟩ = some (.slice none 0 0) := HB5.out.cell 5; have z6 : w5.cell? ⟨w.heap.size + 1 + 1, 6, none⟩ = some (.slice none 0 0) := HB5.out.cell 6; have f0 : w5.frozen? ⟨w.heap.size + 1 + 1, 0, none⟩ = false := HB5.out.free 0; have f1 : w5.frozen? ⟨w.heap.size + 1 + 1, 1, none⟩ = false := HB5.out.free 1; have f2 : w5.frozen? ⟨w.heap.size + 1 + 1, 2, none⟩ = false := HB5.out.free 2; have f3 : w5.frozen? ⟨w.heap.size + 1 + 1, 3, none⟩ = false := HB5.out.free 3; have f4 : w5.frozen? ⟨w.heap.size + 1 + 1, 4, none⟩ = false := HB5.out.free 4; have f5 : w5.frozen? ⟨w.heap.size + 1 + 1, 5, none⟩ = false := HB5.out.free 5; have f6 : w5.frozen? ⟨w.heap.size + 1 + 1, 6, none⟩ = false := HB5.out.free 6) | fail
  have HBf := hide (HB5.out.put7 (.int .u8 0) (.bool false) (.slice none 0 0) (.string { data := #[] }) (.int .i64 0) (.slice none 0 0) (.slice none 0 0))
  have HKf := hide (HK5.out.set7 (g := w.heap.size + 1 + 1) (by omega) (.int .u8 0) (.bool false) (.slice none 0 0) (.string { data := #[] }) (.int .i64 0) (.slice none 0 0) (.slice none 0 0))
  clear z0 z1 z2 z3 z4 z5 z6 f0 f1 f2 f3 f4 f5 f6 HB5 HK5
  generalize (((((((w5.setCell ⟨w.heap.size + 1 + 1, 0, none⟩ (.int .u8 0)).setCell ⟨w.heap.size + 1 + 1, 1, none⟩ (.bool false)).setCell ⟨w.heap.size + 1 + 1, 2, none⟩ (.slice none 0 0)).setCell ⟨w.heap.size + 1 + 1, 3, none⟩ (.string { data := #[] })).setCell ⟨w.heap.size + 1 + 1, 4, none⟩ (.int .i64 0)).setCell ⟨w.heap.size + 1 + 1, 5, none⟩ (.slice none 0 0)).setCell ⟨w.heap.size + 1 + 1, 6, none⟩ (.slice none 0 0)) = wf at *
  have d0 : wf.cell? ⟨w.heap.size + 1 + 1, 0, none⟩ = some (.int .u8 0) := HBf.out.cell 0
  have d1 : wf.cell? ⟨w.heap.size + 1 + 1, 1, none⟩ = some (.bool false) := HBf.out.cell 1
  have d2 : wf.cell? ⟨w.heap.size + 1 + 1, 2, none⟩ = some (.slice none 0 0) := HBf.out.cell 2
  have d3 : wf.cell? ⟨w.heap.size + 1 + 1, 3, none⟩ = some (.string { data := #[] }) := HBf.out.cell 3
  have d4 : wf.cell? ⟨w.heap.size + 1 + 1, 4, none⟩ = some (.int .i64 0) := HBf.out.cell 4
  have d5 : wf.cell? ⟨w.heap.size + 1 + 1, 5, none⟩ = some (.slice none 0 0) := HBf.out.cell 5
  have d6 : wf.cell? ⟨w.heap.size + 1 + 1, 6, none⟩ = some (.slice none 0 0) := HBf.out.cell 6
  refine bodyPost_ret (v := .tuple #[.agg #[.int .u8 0, .bool false, .slice none 0 0, .string { data := #[] }, .int .i64 0, .slice none 0 0, .slice none 0 0], .bool false]) (by simp [results, Try.results27, go_sem, d0, d1, d2, d3, d4, d5, d6]) rfl ?_
  exact ⟨rfl, HKf.out⟩

/-- The negated second one, in a block of its own. -/
structure SubSt (w2 : World) (g : Nat) (ngm : Bool) (Am : Option Addr) (nm cm : Nat) (z : Int) (wx : World) : Prop where
  keep : Keeps NoB w2 wx
  blk : Blk wx g 26 #[.int .u8 1, .bool ngm, .slice Am nm cm, .string { data := #[] }, .int .i64 0, .slice none 0 0, .slice none 0 0]
  ia : IA wx (fun k => w2.heap.size ≤ k) ngm Am nm cm z
set_option maxHeartbeats 4000000 in
set_option maxRecDepth 100000 in
theorem rsub_bad1 (ng' : Bool) (A' ia' ta' : Option Addr) (n' c' ic' tc' : Nat) (y : Int) (w : World) (B B' : Nat → Prop) {cs : Array Value} (ha : TermA w B false cs) (h' : IA w B' ng' A' n' c' y) :
    Calls Try.prog 30 #[.agg cs, .agg #[.int .u8 1, .bool ng', .slice A' n' c', .string { data := #[] }, .int .i64 0, .slice ia' 0 ic', .slice ta' 0 tc']] w (NoP w) := by
  have HTA := hide ha
  obtain ⟨kd, ng, la, ln, lc, tx, nu, ia, im, ic, ta, tm, tc, l, rfl, hl, hi, ht, hr⟩ := ha
  clear hl hi ht hr
  have HI' := hide h'
  have hb' := h'.bits
  have HTB := hide (h'.term ia' ta' ic' tc')
  have HSG := hide (neg_sgn h'.sign)
  have HRM := hide (show (-y).natAbs < Big from by rw [Int.natAbs_neg]; exact h'.room)
  clear h'
  go_enter Try.func30, Try.ntmps30
  have HX0 := hide (((Blk.new w 26 #[.int .u8 kd, .bool ng, .slice la ln lc, .string tx, .int .i64 nu, .slice ia im ic, .slice ta tm tc]).alloc (.cells #[.int .u8 1, .bool ng', .slice A' n' c', .string { data := #[] }, .int .i64 0, .slice ia' 0 ic', .slice ta' 0 tc'] 26)).alloc (.cells #[.int .u8 0, .bool false, .slice none 0 0, .string { data := #[] }, .int .i64 0, .slice none 0 0, .slice none 0 0] 26))
  have HY0 := hide ((Blk.new2' w (.cells #[.int .u8 kd, .bool ng, .slice la ln lc, .string tx, .int .i64 nu, .slice ia im ic, .slice ta tm tc] 26) 26 #[.int .u8 1, .bool ng', .slice A' n' c', .string { data := #[] }, .int .i64 0, .slice ia' 0 ic', .slice ta' 0 tc']).alloc (.cells #[.int .u8 0, .bool false, .slice none 0 0, .string { data := #[] }, .int .i64 0, .slice none 0 0, .slice none 0 0] 26))
  have HZ0 := hide (Blk.new3' w (.cells #[.int .u8 kd, .bool ng, .slice la ln lc, .string tx, .int .i64 nu, .slice ia im ic, .slice ta tm tc] 26) (.cells #[.int .u8 1, .bool ng', .slice A' n' c', .string { data := #[] }, .int .i64 0, .slice ia' 0 ic', .slice ta' 0 tc'] 26) 26 #[.int .u8 0, .bool false, .slice none 0 0, .string { data := #[] }, .int .i64 0, .slice none 0 0, .slice none 0 0])
  have HK0 := hide ((((Keeps.refl NoB w).alloc (.cells #[.int .u8 kd, .bool ng, .slice la ln lc, .string tx, .int .i64 nu, .slice ia im ic, .slice ta tm tc] 26)).alloc (.cells #[.int .u8 1, .bool ng', .slice A' n' c', .string { data := #[] }, .int .i64 0, .slice ia' 0 ic', .slice ta' 0 tc'] 26)).alloc (.cells #[.int .u8 0, .bool false, .slice none 0 0, .string { data := #[] }, .int .i64 0, .slice none 0 0, .slice none 0 0] 26))
  go_wp2_with (go_at_call 33; refine ((HTB.out.keep HK0.out).rright).mono ?_; rintro e w2 ⟨rfl, hk1⟩; have HK2 := hide (HK0.out.trans' hk1 (fun _ _ => id) (fun _ _ => id)); have HX2 := hide (HX0.out.keep hk1 id); have HY2 := hide (HY0.out.keep hk1 id); have HZ2 := hide (HZ0.out.keep hk1 id); clear hk1 HX0 HY0 HZ0 HK0)
  go_cut [6] (fun px wx => ∃ (g : Nat) (ngm : Bool) (Am : Option Addr) (nm cm : Nat), px = .pointer (some ⟨g, 0, none⟩) ∧ Hid (SubSt w2 g ngm Am nm cm (-y) wx))
  case first =>
    refine order_begin (fun W => Keeps NoB w2.drew W) (fun k => k != 10) (by kernel_rfl) 12 rfl ?_
    have BY := hide HY2.out.drew
    have IY := hide (HI'.out.keep HK2.out.drew)
    have HKD := hide ((Keeps.refl NoB w2).drew)
    have HSZ := hide (show w2.drew.heap.size = w2.heap.size from rfl)
    clear HX2 HY2 HZ2 HK2
    generalize w2.drew = W0 at *
    have HS : Keeps NoB W0 W0 := Keeps.refl _ _
    refine order_held (i := 0) rfl (by kernel_rfl) (fun _ _ _ h => h) (.inl ⟨rfl, fun W hW => by
      have q0 : W.cell? ⟨w.heap.size + 1, 0, none⟩ = some (.int .u8 1) := hW.cell id (BY.out.cell 0)
      have q1 : W.cell? ⟨w.heap.size + 1, 1, none⟩ = some (.bool ng') := hW.cell id (BY.out.cell 1)
      have q2 : W.cell? ⟨w.heap.size + 1, 2, none⟩ = some (.slice A' n' c') := hW.cell id (BY.out.cell 2)
      have q3 : W.cell? ⟨w.heap.size + 1, 3, none⟩ = some (.string { data := #[] }) := hW.cell id (BY.out.cell 3)
      have q4 : W.cell? ⟨w.heap.size + 1, 4, none⟩ = some (.int .i64 0) := hW.cell id (BY.out.cell 4)
      have q5 : W.cell? ⟨w.heap.size + 1, 5, none⟩ = some (.slice ia' 0 ic') := hW.cell id (BY.out.cell 5)
      have q6 : W.cell? ⟨w.heap.size + 1, 6, none⟩ = some (.slice ta' 0 tc') := hW.cell id (BY.out.cell 6)
      go_simp; rfl⟩) HS ?_
    try simp only [Act.put, List.setIfInBounds_toArray, List.set_cons_succ, List.set_cons_zero]
    refine order_pure (i := 2) rfl (by kernel_rfl) (fun _ _ _ h => h) (.inl ⟨rfl, fun _ => by go_simp; rfl⟩) ?_
    try simp only [Act.put, List.setIfInBounds_toArray, List.set_cons_succ, List.set_cons_zero]
    refine order_held (i := 3) rfl (by kernel_rfl) (fun _ _ _ h => h) (.inl ⟨rfl, fun W hW => by
      have q0 : W.cell? ⟨w.heap.size + 1, 1, none⟩ = some (.bool ng') := hW.cell id (BY.out.cell 1)
      go_simp; rfl⟩) HS ?_
    try simp only [Act.put, List.setIfInBounds_toArray, List.set_cons_succ, List.set_cons_zero]
    refine order_pure (i := 4) rfl (by kernel_rfl) (fun _ _ _ h => h) (.inl ⟨rfl, fun _ => by go_simp; rfl⟩) ?_
    try simp only [Act.put, List.setIfInBounds_toArray, List.set_cons_succ, List.set_cons_zero]
    clear HS
    refine order_two (i := 1) (j := 9) rfl rfl (by kernel_rfl) (fun K hK => ?_) (fun K hK => ?_)
    · skip
      go_simp
      refine (bits_any _ _ _ _ _ _ _ _ _ W0 _ IY.out).mono ?_
      rintro e V1 ⟨A1, n1, c1, rfl, hn1, hb1, hk1⟩
      refine hK _ _ (fun _ hS => hS.trans' hk1 (fun _ _ => id) (fun _ _ => id)) ?_
      clear hK
      have HN1 := hide (show n1 ≤ 1024 from by rw [hn1]; exact hb'); have HB1 := hide hb1; have HK1 := hide hk1
      clear hn1 hb1 hk1
      try simp only [Act.put, List.setIfInBounds_toArray, List.set_cons_succ, List.set_cons_zero]
      refine order_two (i := 5) (j := 9) rfl rfl (by kernel_rfl) (fun K hK => ?_) (fun K hK => ?_)
      · skip
        go_simp
        refine (rmade_yes A1 n1 c1 (!ng') _ (-y) V1 _ HB1.out (by have := HN1.out; omega) (by rw [natB_dig]; exact HSG.out) HRM.out).mono ?_
        rintro e V2 ⟨ngm, Am, nm, cm, rfl, iam, hk2⟩
        refine hK _ _ (fun _ hS => hS.trans' hk2 (fun _ _ => id) (fun _ _ => id)) ?_
        clear hK
        have IM := hide iam; have HK2 := hide hk2
        clear iam hk2
        try simp only [Act.put, List.setIfInBounds_toArray, List.set_cons_succ, List.set_cons_zero]
        refine order_pure (i := 6) rfl (by kernel_rfl) (fun _ _ _ h => h) (.inl ⟨rfl, fun _ => by go_simp; rfl⟩) ?_
        try simp only [Act.put, List.setIfInBounds_toArray, List.set_cons_succ, List.set_cons_zero]
        refine order_pure (i := 7) rfl (by kernel_rfl) (fun _ _ _ h => h) (.inl ⟨rfl, fun _ => by go_simp; rfl⟩) ?_
        try simp only [Act.put, List.setIfInBounds_toArray, List.set_cons_succ, List.set_cons_zero]
        refine order_pure (i := 8) rfl (by kernel_rfl) (fun _ _ _ h => h) (.inl ⟨rfl, fun _ => by go_simp; rfl⟩) ?_
        try simp only [Act.put, List.setIfInBounds_toArray, List.set_cons_succ, List.set_cons_zero]
        refine order_one (i := 9) rfl (by kernel_rfl) (fun K hK => ?_)
        go_simp
        refine hK _ _ (fun _ hS => hS.alloc _) ?_
        clear hK
        try simp only [Act.put, List.setIfInBounds_toArray, List.set_cons_succ, List.set_cons_zero]
        have HKW := hide ((((HKD.out.trans' HK1.out (fun _ _ h => h) (fun _ _ h => h)).trans' HK2.out (fun _ _ h => h) (fun _ _ h => h)) : Keeps NoB w2 V2).alloc (.cells #[.int .u8 0, .bool false, .slice none 0 0, .string { data := #[] }, .int .i64 0, .slice none 0 0, .slice none 0 0] 26))
        have BG := hide (Blk.new V2 26 #[.int .u8 0, .bool false, .slice none 0 0, .string { data := #[] }, .int .i64 0, .slice none 0 0, .slice none 0 0])
        have IMW := hide ((IM.out.more (B' := fun k => w2.heap.size ≤ k ∧ ¬ k = V2.heap.size) (fun k hk h => ⟨by have h1 : V1.heap.size ≤ k := h; have h2 := HK1.out.size; have h3 := HSZ.out; omega, Nat.ne_of_lt hk⟩)).keep ((Keeps.refl NoB V2).alloc (.cells #[.int .u8 0, .bool false, .slice none 0 0, .string { data := #[] }, .int .i64 0, .slice none 0 0, .slice none 0 0] 26)))
        have HGW := hide (show w2.heap.size ≤ V2.heap.size from by have h1 := HK1.out.size; have h2 := HK2.out.size; have h3 := HSZ.out; omega)
        obtain ⟨g, hg⟩ : ∃ g, V2.heap.size = g := ⟨_, rfl⟩
        rw [hg] at BG IMW HGW ⊢
        obtain ⟨V3, hV3⟩ : ∃ V3, V2.alloc (.cells #[.int .u8 0, .bool false, .slice none 0 0, .string { data := #[] }, .int .i64 0, .slice none 0 0, .slice none 0 0] 26) = V3 := ⟨_, rfl⟩
        rw [hV3] at HKW BG IMW ⊢
        clear hV3 hg HK1 HK2 IM
        have z0 : V3.cell? ⟨g, 0, none⟩ = some (.int .u8 0) := BG.out.cell 0; have z1 : V3.cell? ⟨g, 1, none⟩ = some (.bool false) := BG.out.cell 1; have z2 : V3.cell? ⟨g, 2, none⟩ = some (.slice none 0 0) := BG.out.cell 2; have z3 : V3.cell? ⟨g, 3, none⟩ = some (.string { data := #[] }) := BG.out.cell 3; have z4 : V3.cell? ⟨g, 4, none⟩ = some (.int .i64 0) := BG.out.cell 4; have z5 : V3.cell? ⟨g, 5, none⟩ = some (.slice none 0 0) := BG.out.cell 5; have z6 : V3.cell? ⟨g, 6, none⟩ = some (.slice none 0 0) := BG.out.cell 6
        have f0 : V3.frozen? ⟨g, 0, none⟩ = false := BG.out.free 0; have f1 : V3.frozen? ⟨g, 1, none⟩ = false := BG.out.free 1; have f2 : V3.frozen? ⟨g, 2, none⟩ = false := BG.out.free 2; have f3 : V3.frozen? ⟨g, 3, none⟩ = false := BG.out.free 3; have f4 : V3.frozen? ⟨g, 4, none⟩ = false := BG.out.free 4; have f5 : V3.frozen? ⟨g, 5, none⟩ = false := BG.out.free 5; have f6 : V3.frozen? ⟨g, 6, none⟩ = false := BG.out.free 6
        refine order_one (i := 10) rfl (by kernel_rfl) (fun K hK => ?_)
        go_simp
        refine hK _ _ (fun h => absurd h (by decide)) ?_
        clear hK
        try simp only [Act.put, List.setIfInBounds_toArray, List.set_cons_succ, List.set_cons_zero]
        refine order_pure (i := 11) rfl (by kernel_rfl) (fun _ _ _ h => h) (.inl ⟨rfl, fun _ => by go_simp; rfl⟩) ?_
        try simp only [Act.put, List.setIfInBounds_toArray, List.set_cons_succ, List.set_cons_zero]
        refine order_done (by kernel_rfl) ?_
        have BGf := hide (BG.out.put7 (.int .u8 1) (.bool ngm) (.slice Am nm cm) (.string { data := #[] }) (.int .i64 0) (.slice none 0 0) (.slice none 0 0))
        have HKf := hide (HKW.out.set7 (g := g) HGW.out (.int .u8 1) (.bool ngm) (.slice Am nm cm) (.string { data := #[] }) (.int .i64 0) (.slice none 0 0) (.slice none 0 0))
        have IMf := hide ((IMW.out.far (Keeps.set7' (w := V3) (g := g) (.int .u8 1) (.bool ngm) (.slice Am nm cm) (.string { data := #[] }) (.int .i64 0) (.slice none 0 0) (.slice none 0 0)) (fun k hk e => hk.2 e)).more (B' := fun k => w2.heap.size ≤ k) (fun k _ hk => hk.1))
        go_wp2_with fail
        go_meet
        exact ⟨g, ngm, Am, nm, cm, rfl, hide ⟨HKf.out, BGf.out, IMf.out⟩⟩
      · skip
        go_simp
        refine hK _ _ (fun _ hS => hS.alloc _) ?_
        clear hK
        try simp only [Act.put, List.setIfInBounds_toArray, List.set_cons_succ, List.set_cons_zero]
        have HKa := hide ((HKD.out.trans' HK1.out (fun _ _ h => h) (fun _ _ h => h) : Keeps NoB w2 V1).alloc (.cells #[.int .u8 0, .bool false, .slice none 0 0, .string { data := #[] }, .int .i64 0, .slice none 0 0, .slice none 0 0] 26))
        have BG := hide (Blk.new V1 26 #[.int .u8 0, .bool false, .slice none 0 0, .string { data := #[] }, .int .i64 0, .slice none 0 0, .slice none 0 0])
        have HBa := hide (HB1.out.keep ((Keeps.refl NoB V1).alloc (.cells #[.int .u8 0, .bool false, .slice none 0 0, .string { data := #[] }, .int .i64 0, .slice none 0 0, .slice none 0 0] 26)))
        have HGW := hide (show w2.heap.size ≤ V1.heap.size from by have h1 := HK1.out.size; have h3 := HSZ.out; omega)
        have HLT := hide BG.out.lt
        obtain ⟨g, hg⟩ : ∃ g, V1.heap.size = g := ⟨_, rfl⟩
        rw [hg] at BG HGW HLT ⊢
        obtain ⟨V3, hV3⟩ : ∃ V3, V1.alloc (.cells #[.int .u8 0, .bool false, .slice none 0 0, .string { data := #[] }, .int .i64 0, .slice none 0 0, .slice none 0 0] 26) = V3 := ⟨_, rfl⟩
        rw [hV3] at HKa BG HBa HLT ⊢
        clear hV3 hg HK1 HB1
        refine order_one (i := 5) rfl (by kernel_rfl) (fun K hK => ?_)
        go_simp
        refine (rmade_yes A1 n1 c1 (!ng') _ (-y) V3 _ HBa.out (by have := HN1.out; omega) (by rw [natB_dig]; exact HSG.out) HRM.out).mono ?_
        rintro e V2 ⟨ngm, Am, nm, cm, rfl, iam, hk2⟩
        refine hK _ _ (fun _ hS => hS.trans' hk2 (fun _ _ => id) (fun _ _ => id)) ?_
        clear hK
        have IM := hide iam; have HK2 := hide hk2
        clear iam hk2
        try simp only [Act.put, List.setIfInBounds_toArray, List.set_cons_succ, List.set_cons_zero]
        refine order_pure (i := 6) rfl (by kernel_rfl) (fun _ _ _ h => h) (.inl ⟨rfl, fun _ => by go_simp; rfl⟩) ?_
        try simp only [Act.put, List.setIfInBounds_toArray, List.set_cons_succ, List.set_cons_zero]
        refine order_pure (i := 7) rfl (by kernel_rfl) (fun _ _ _ h => h) (.inl ⟨rfl, fun _ => by go_simp; rfl⟩) ?_
        try simp only [Act.put, List.setIfInBounds_toArray, List.set_cons_succ, List.set_cons_zero]
        refine order_pure (i := 8) rfl (by kernel_rfl) (fun _ _ _ h => h) (.inl ⟨rfl, fun _ => by go_simp; rfl⟩) ?_
        try simp only [Act.put, List.setIfInBounds_toArray, List.set_cons_succ, List.set_cons_zero]
        have HKW := hide (HKa.out.trans' HK2.out (fun _ _ h => h) (fun _ _ h => h) : Keeps NoB w2 V2)
        have BG2 := hide (BG.out.keep HK2.out id)
        have IMW := hide (IM.out.more (B' := fun k => w2.heap.size ≤ k ∧ ¬ k = g) (fun k _ h => by have h1 : V3.heap.size ≤ k := h; have h2 := HLT.out; have h3 := HGW.out; omega))
        clear HKa HK2 IM BG
        have z0 : V2.cell? ⟨g, 0, none⟩ = some (.int .u8 0) := BG2.out.cell 0; have z1 : V2.cell? ⟨g, 1, none⟩ = some (.bool false) := BG2.out.cell 1; have z2 : V2.cell? ⟨g, 2, none⟩ = some (.slice none 0 0) := BG2.out.cell 2; have z3 : V2.cell? ⟨g, 3, none⟩ = some (.string { data := #[] }) := BG2.out.cell 3; have z4 : V2.cell? ⟨g, 4, none⟩ = some (.int .i64 0) := BG2.out.cell 4; have z5 : V2.cell? ⟨g, 5, none⟩ = some (.slice none 0 0) := BG2.out.cell 5; have z6 : V2.cell? ⟨g, 6, none⟩ = some (.slice none 0 0) := BG2.out.cell 6
        have f0 : V2.frozen? ⟨g, 0, none⟩ = false := BG2.out.free 0; have f1 : V2.frozen? ⟨g, 1, none⟩ = false := BG2.out.free 1; have f2 : V2.frozen? ⟨g, 2, none⟩ = false := BG2.out.free 2; have f3 : V2.frozen? ⟨g, 3, none⟩ = false := BG2.out.free 3; have f4 : V2.frozen? ⟨g, 4, none⟩ = false := BG2.out.free 4; have f5 : V2.frozen? ⟨g, 5, none⟩ = false := BG2.out.free 5; have f6 : V2.frozen? ⟨g, 6, none⟩ = false := BG2.out.free 6
        refine order_one (i := 10) rfl (by kernel_rfl) (fun K hK => ?_)
        go_simp
        refine hK _ _ (fun h => absurd h (by decide)) ?_
        clear hK
        try simp only [Act.put, List.setIfInBounds_toArray, List.set_cons_succ, List.set_cons_zero]
        refine order_pure (i := 11) rfl (by kernel_rfl) (fun _ _ _ h => h) (.inl ⟨rfl, fun _ => by go_simp; rfl⟩) ?_
        try simp only [Act.put, List.setIfInBounds_toArray, List.set_cons_succ, List.set_cons_zero]
        refine order_done (by kernel_rfl) ?_
        have BGf := hide (BG2.out.put7 (.int .u8 1) (.bool ngm) (.slice Am nm cm) (.string { data := #[] }) (.int .i64 0) (.slice none 0 0) (.slice none 0 0))
        have HKf := hide (HKW.out.set7 (g := g) HGW.out (.int .u8 1) (.bool ngm) (.slice Am nm cm) (.string { data := #[] }) (.int .i64 0) (.slice none 0 0) (.slice none 0 0))
        have IMf := hide ((IMW.out.far (Keeps.set7' (w := V2) (g := g) (.int .u8 1) (.bool ngm) (.slice Am nm cm) (.string { data := #[] }) (.int .i64 0) (.slice none 0 0) (.slice none 0 0)) (fun k hk e => hk.2 e)).more (B' := fun k => w2.heap.size ≤ k) (fun k _ hk => hk.1))
        go_wp2_with fail
        go_meet
        exact ⟨g, ngm, Am, nm, cm, rfl, hide ⟨HKf.out, BGf.out, IMf.out⟩⟩
    · skip
      go_simp
      refine hK _ _ (fun _ hS => hS.alloc _) ?_
      clear hK
      try simp only [Act.put, List.setIfInBounds_toArray, List.set_cons_succ, List.set_cons_zero]
      have HKa := hide (HKD.out.alloc (.cells #[.int .u8 0, .bool false, .slice none 0 0, .string { data := #[] }, .int .i64 0, .slice none 0 0, .slice none 0 0] 26))
      have BG := hide (Blk.new W0 26 #[.int .u8 0, .bool false, .slice none 0 0, .string { data := #[] }, .int .i64 0, .slice none 0 0, .slice none 0 0])
      have IYa := hide (IY.out.keep ((Keeps.refl NoB W0).alloc (.cells #[.int .u8 0, .bool false, .slice none 0 0, .string { data := #[] }, .int .i64 0, .slice none 0 0, .slice none 0 0] 26)))
      have HGW := hide (show w2.heap.size ≤ W0.heap.size from by have h3 := HSZ.out; omega)
      have HLT := hide BG.out.lt
      obtain ⟨g, hg⟩ : ∃ g, W0.heap.size = g := ⟨_, rfl⟩
      rw [hg] at BG HGW HLT ⊢
      obtain ⟨V3, hV3⟩ : ∃ V3, W0.alloc (.cells #[.int .u8 0, .bool false, .slice none 0 0, .string { data := #[] }, .int .i64 0, .slice none 0 0, .slice none 0 0] 26) = V3 := ⟨_, rfl⟩
      rw [hV3] at HKa BG IYa HLT ⊢
      clear hV3 hg
      refine order_one (i := 1) rfl (by kernel_rfl) (fun K hK => ?_)
      go_simp
      refine (bits_any _ _ _ _ _ _ _ _ _ V3 _ IYa.out).mono ?_
      rintro e V1 ⟨A1, n1, c1, rfl, hn1, hb1, hk1⟩
      refine hK _ _ (fun _ hS => hS.trans' hk1 (fun _ _ => id) (fun _ _ => id)) ?_
      clear hK
      have HN1 := hide (show n1 ≤ 1024 from by rw [hn1]; exact hb'); have HB1 := hide hb1; have HK1 := hide hk1
      clear hn1 hb1 hk1
      try simp only [Act.put, List.setIfInBounds_toArray, List.set_cons_succ, List.set_cons_zero]
      refine order_one (i := 5) rfl (by kernel_rfl) (fun K hK => ?_)
      go_simp
      refine (rmade_yes A1 n1 c1 (!ng') _ (-y) V1 _ HB1.out (by have := HN1.out; omega) (by rw [natB_dig]; exact HSG.out) HRM.out).mono ?_
      rintro e V2 ⟨ngm, Am, nm, cm, rfl, iam, hk2⟩
      refine hK _ _ (fun _ hS => hS.trans' hk2 (fun _ _ => id) (fun _ _ => id)) ?_
      clear hK
      have IM := hide iam; have HK2 := hide hk2
      clear iam hk2
      try simp only [Act.put, List.setIfInBounds_toArray, List.set_cons_succ, List.set_cons_zero]
      refine order_pure (i := 6) rfl (by kernel_rfl) (fun _ _ _ h => h) (.inl ⟨rfl, fun _ => by go_simp; rfl⟩) ?_
      try simp only [Act.put, List.setIfInBounds_toArray, List.set_cons_succ, List.set_cons_zero]
      refine order_pure (i := 7) rfl (by kernel_rfl) (fun _ _ _ h => h) (.inl ⟨rfl, fun _ => by go_simp; rfl⟩) ?_
      try simp only [Act.put, List.setIfInBounds_toArray, List.set_cons_succ, List.set_cons_zero]
      refine order_pure (i := 8) rfl (by kernel_rfl) (fun _ _ _ h => h) (.inl ⟨rfl, fun _ => by go_simp; rfl⟩) ?_
      try simp only [Act.put, List.setIfInBounds_toArray, List.set_cons_succ, List.set_cons_zero]
      have HKW := hide ((HKa.out.trans' HK1.out (fun _ _ h => h) (fun _ _ h => h)).trans' HK2.out (fun _ _ h => h) (fun _ _ h => h) : Keeps NoB w2 V2)
      have BG2 := hide ((BG.out.keep HK1.out id).keep HK2.out id)
      have IMW := hide (IM.out.more (B' := fun k => w2.heap.size ≤ k ∧ ¬ k = g) (fun k _ h => by have h1 : V1.heap.size ≤ k := h; have h2 := HLT.out; have h3 := HGW.out; have h4 := HK1.out.size; omega))
      clear HKa HK1 HK2 IM BG
      have z0 : V2.cell? ⟨g, 0, none⟩ = some (.int .u8 0) := BG2.out.cell 0; have z1 : V2.cell? ⟨g, 1, none⟩ = some (.bool false) := BG2.out.cell 1; have z2 : V2.cell? ⟨g, 2, none⟩ = some (.slice none 0 0) := BG2.out.cell 2; have z3 : V2.cell? ⟨g, 3, none⟩ = some (.string { data := #[] }) := BG2.out.cell 3; have z4 : V2.cell? ⟨g, 4, none⟩ = some (.int .i64 0) := BG2.out.cell 4; have z5 : V2.cell? ⟨g, 5, none⟩ = some (.slice none 0 0) := BG2.out.cell 5; have z6 : V2.cell? ⟨g, 6, none⟩ = some (.slice none 0 0) := BG2.out.cell 6
      have f0 : V2.frozen? ⟨g, 0, none⟩ = false := BG2.out.free 0; have f1 : V2.frozen? ⟨g, 1, none⟩ = false := BG2.out.free 1; have f2 : V2.frozen? ⟨g, 2, none⟩ = false := BG2.out.free 2; have f3 : V2.frozen? ⟨g, 3, none⟩ = false := BG2.out.free 3; have f4 : V2.frozen? ⟨g, 4, none⟩ = false := BG2.out.free 4; have f5 : V2.frozen? ⟨g, 5, none⟩ = false := BG2.out.free 5; have f6 : V2.frozen? ⟨g, 6, none⟩ = false := BG2.out.free 6
      refine order_one (i := 10) rfl (by kernel_rfl) (fun K hK => ?_)
      go_simp
      refine hK _ _ (fun h => absurd h (by decide)) ?_
      clear hK
      try simp only [Act.put, List.setIfInBounds_toArray, List.set_cons_succ, List.set_cons_zero]
      refine order_pure (i := 11) rfl (by kernel_rfl) (fun _ _ _ h => h) (.inl ⟨rfl, fun _ => by go_simp; rfl⟩) ?_
      try simp only [Act.put, List.setIfInBounds_toArray, List.set_cons_succ, List.set_cons_zero]
      refine order_done (by kernel_rfl) ?_
      have BGf := hide (BG2.out.put7 (.int .u8 1) (.bool ngm) (.slice Am nm cm) (.string { data := #[] }) (.int .i64 0) (.slice none 0 0) (.slice none 0 0))
      have HKf := hide (HKW.out.set7 (g := g) HGW.out (.int .u8 1) (.bool ngm) (.slice Am nm cm) (.string { data := #[] }) (.int .i64 0) (.slice none 0 0) (.slice none 0 0))
      have IMf := hide ((IMW.out.far (Keeps.set7' (w := V2) (g := g) (.int .u8 1) (.bool ngm) (.slice Am nm cm) (.string { data := #[] }) (.int .i64 0) (.slice none 0 0) (.slice none 0 0)) (fun k hk e => hk.2 e)).more (B' := fun k => w2.heap.size ≤ k) (fun k _ hk => hk.1))
      go_wp2_with fail
      go_meet
      exact ⟨g, ngm, Am, nm, cm, rfl, hide ⟨HKf.out, BGf.out, IMf.out⟩⟩
  case rest =>
    obtain ⟨g, ngm, Am, nm, cm, rfl, HM⟩ := hcut
    have HX5 := hide (HX2.out.keep HM.out.keep id); have HZ5 := hide (HZ2.out.keep HM.out.keep id)
    have HK5 := hide (HK2.out.trans' HM.out.keep (fun _ _ h => h) (fun _ _ h => h))
    have HG5 := hide HM.out.blk
    clear HX2 HY2 HZ2 HK2
    have x0 : wc.cell? ⟨w.heap.size, 0, none⟩ = some (.int .u8 kd) := HX5.out.cell 0; have x1 : wc.cell? ⟨w.heap.size, 1, none⟩ = some (.bool ng) := HX5.out.cell 1; have x2 : wc.cell? ⟨w.heap.size, 2, none⟩ = some (.slice la ln lc) := HX5.out.cell 2; have x3 : wc.cell? ⟨w.heap.size, 3, none⟩ = some (.string tx) := HX5.out.cell 3; have x4 : wc.cell? ⟨w.heap.size, 4, none⟩ = some (.int .i64 nu) := HX5.out.cell 4; have x5 : wc.cell? ⟨w.heap.size, 5, none⟩ = some (.slice ia im ic) := HX5.out.cell 5; have x6 : wc.cell? ⟨w.heap.size, 6, none⟩ = some (.slice ta tm tc) := HX5.out.cell 6
    have y0 : wc.cell? ⟨g, 0, none⟩ = some (.int .u8 1) := HG5.out.cell 0; have y1 : wc.cell? ⟨g, 1, none⟩ = some (.bool ngm) := HG5.out.cell 1; have y2 : wc.cell? ⟨g, 2, none⟩ = some (.slice Am nm cm) := HG5.out.cell 2; have y3 : wc.cell? ⟨g, 3, none⟩ = some (.string { data := #[] }) := HG5.out.cell 3; have y4 : wc.cell? ⟨g, 4, none⟩ = some (.int .i64 0) := HG5.out.cell 4; have y5 : wc.cell? ⟨g, 5, none⟩ = some (.slice none 0 0) := HG5.out.cell 5; have y6 : wc.cell? ⟨g, 6, none⟩ = some (.slice none 0 0) := HG5.out.cell 6
    go_wp2_with (go_at_call 29; refine (radd_bad1 (HTA.out.keep HK5.out) (HM.out.ia.term none none 0 0)).mono ?_; rintro e w6 ⟨rfl, hk⟩; have HB6 := hide (HZ5.out.keep hk id); have HK6 := hide (HK5.out.trans' hk (fun _ _ => id) (fun _ _ => id)); have hsz := HZ5.out.lt; clear hk x0 x1 x2 x3 x4 x5 x6 y0 y1 y2 y3 y4 y5 y6; have z0 : w6.cell? ⟨w.heap.size + 1 + 1, 0, none⟩ = some (.int .u8 0) := HB6.out.cell 0; have z1 : w6.cell? ⟨w.heap.size + 1 + 1, 1, none⟩ = some (.bool false) := HB6.out.cell 1; have z2 : w6.cell? ⟨w.heap.size + 1 + 1, 2, none⟩ = some (.slice none 0 0) := HB6.out.cell 2; have z3 : w6.cell? ⟨w.heap.size + 1 + 1, 3, none⟩ = some (.string { data := #[] }) := HB6.out.cell 3; have z4 : w6.cell? ⟨w.heap.size + 1 + 1, 4, none⟩ = some (.int .i64 0) := HB6.out.cell 4; have z5 : w6.cell? ⟨w.heap.size + 1 + 1, 5, none⟩ = some (.slice none 0 0) := HB6.out.cell 5; have z6 : w6.cell? ⟨w.heap.size + 1 + 1, 6, none⟩ = some (.slice none 0 0) := HB6.out.cell 6; have f0 : w6.frozen? ⟨w.heap.size + 1 + 1, 0, none⟩ = false := HB6.out.free 0; have f1 : w6.frozen? ⟨w.heap.size + 1 + 1, 1, none⟩ = false := HB6.out.free 1; have f2 : w6.frozen? ⟨w.heap.size + 1 + 1, 2, none⟩ = false := HB6.out.free 2; have f3 : w6.frozen? ⟨w.heap.size + 1 + 1, 3, none⟩ = false := HB6.out.free 3; have f4 : w6.frozen? ⟨w.heap.size + 1 + 1, 4, none⟩ = false := HB6.out.free 4; have f5 : w6.frozen? ⟨w.heap.size + 1 + 1, 5, none⟩ = false := HB6.out.free 5; have f6 : w6.frozen? ⟨w.heap.size + 1 + 1, 6, none⟩ = false := HB6.out.free 6)
    have HBf := hide (HB6.out.put7 (.int .u8 0) (.bool false) (.slice none 0 0) (.string { data := #[] }) (.int .i64 0) (.slice none 0 0) (.slice none 0 0))
    have HKf := hide (HK6.out.set7 (g := w.heap.size + 1 + 1) (by omega) (.int .u8 0) (.bool false) (.slice none 0 0) (.string { data := #[] }) (.int .i64 0) (.slice none 0 0) (.slice none 0 0))
    clear z0 z1 z2 z3 z4 z5 z6 f0 f1 f2 f3 f4 f5 f6 HB6 HK6
    generalize (((((((w6.setCell ⟨w.heap.size + 1 + 1, 0, none⟩ (.int .u8 0)).setCell ⟨w.heap.size + 1 + 1, 1, none⟩ (.bool false)).setCell ⟨w.heap.size + 1 + 1, 2, none⟩ (.slice none 0 0)).setCell ⟨w.heap.size + 1 + 1, 3, none⟩ (.string { data := #[] })).setCell ⟨w.heap.size + 1 + 1, 4, none⟩ (.int .i64 0)).setCell ⟨w.heap.size + 1 + 1, 5, none⟩ (.slice none 0 0)).setCell ⟨w.heap.size + 1 + 1, 6, none⟩ (.slice none 0 0)) = wf at *
    have d0 : wf.cell? ⟨w.heap.size + 1 + 1, 0, none⟩ = some (.int .u8 0) := HBf.out.cell 0
    have d1 : wf.cell? ⟨w.heap.size + 1 + 1, 1, none⟩ = some (.bool false) := HBf.out.cell 1
    have d2 : wf.cell? ⟨w.heap.size + 1 + 1, 2, none⟩ = some (.slice none 0 0) := HBf.out.cell 2
    have d3 : wf.cell? ⟨w.heap.size + 1 + 1, 3, none⟩ = some (.string { data := #[] }) := HBf.out.cell 3
    have d4 : wf.cell? ⟨w.heap.size + 1 + 1, 4, none⟩ = some (.int .i64 0) := HBf.out.cell 4
    have d5 : wf.cell? ⟨w.heap.size + 1 + 1, 5, none⟩ = some (.slice none 0 0) := HBf.out.cell 5
    have d6 : wf.cell? ⟨w.heap.size + 1 + 1, 6, none⟩ = some (.slice none 0 0) := HBf.out.cell 6
    refine bodyPost_ret (v := .tuple #[.agg #[.int .u8 0, .bool false, .slice none 0 0, .string { data := #[] }, .int .i64 0, .slice none 0 0, .slice none 0 0], .bool false]) (by simp [results, Try.results30, go_sem, d0, d1, d2, d3, d4, d5, d6]) rfl ?_
    exact ⟨rfl, HKf.out⟩
set_option maxHeartbeats 4000000 in
set_option maxRecDepth 100000 in
theorem rsub_int (ng' : Bool) (A' ia' ta' : Option Addr) (n' c' ic' tc' : Nat) (x y : Int) (w : World) (B B' : Nat → Prop) {cs : Array Value} (ha : TermA w B true cs) (HAD : Hid (∀ (w1 : World) (B1 : Nat → Prop) (ngm : Bool) (Am : Option Addr) (nm cm : Nat), Keeps NoB w w1 → IA w1 B1 ngm Am nm cm (-y) → Calls Try.prog 29 #[.agg cs, .agg #[.int .u8 1, .bool ngm, .slice Am nm cm, .string { data := #[] }, .int .i64 0, .slice none 0 0, .slice none 0 0]] w1 (AnyP w1 (x - y)))) (h' : IA w B' ng' A' n' c' y) :
    Calls Try.prog 30 #[.agg cs, .agg #[.int .u8 1, .bool ng', .slice A' n' c', .string { data := #[] }, .int .i64 0, .slice ia' 0 ic', .slice ta' 0 tc']] w (AnyP w (x - y)) := by
  have HTA := hide ha
  obtain ⟨kd, ng, la, ln, lc, tx, nu, ia, im, ic, ta, tm, tc, l, rfl, hl, hi, ht, hr⟩ := ha
  clear hl hi ht hr
  have HI' := hide h'
  have hb' := h'.bits
  have HTB := hide (h'.term ia' ta' ic' tc')
  have HSG := hide (neg_sgn h'.sign)
  have HRM := hide (show (-y).natAbs < Big from by rw [Int.natAbs_neg]; exact h'.room)
  clear h'
  go_enter Try.func30, Try.ntmps30
  have HX0 := hide (((Blk.new w 26 #[.int .u8 kd, .bool ng, .slice la ln lc, .string tx, .int .i64 nu, .slice ia im ic, .slice ta tm tc]).alloc (.cells #[.int .u8 1, .bool ng', .slice A' n' c', .string { data := #[] }, .int .i64 0, .slice ia' 0 ic', .slice ta' 0 tc'] 26)).alloc (.cells #[.int .u8 0, .bool false, .slice none 0 0, .string { data := #[] }, .int .i64 0, .slice none 0 0, .slice none 0 0] 26))
  have HY0 := hide ((Blk.new2' w (.cells #[.int .u8 kd, .bool ng, .slice la ln lc, .string tx, .int .i64 nu, .slice ia im ic, .slice ta tm tc] 26) 26 #[.int .u8 1, .bool ng', .slice A' n' c', .string { data := #[] }, .int .i64 0, .slice ia' 0 ic', .slice ta' 0 tc']).alloc (.cells #[.int .u8 0, .bool false, .slice none 0 0, .string { data := #[] }, .int .i64 0, .slice none 0 0, .slice none 0 0] 26))
  have HZ0 := hide (Blk.new3' w (.cells #[.int .u8 kd, .bool ng, .slice la ln lc, .string tx, .int .i64 nu, .slice ia im ic, .slice ta tm tc] 26) (.cells #[.int .u8 1, .bool ng', .slice A' n' c', .string { data := #[] }, .int .i64 0, .slice ia' 0 ic', .slice ta' 0 tc'] 26) 26 #[.int .u8 0, .bool false, .slice none 0 0, .string { data := #[] }, .int .i64 0, .slice none 0 0, .slice none 0 0])
  have HK0 := hide ((((Keeps.refl NoB w).alloc (.cells #[.int .u8 kd, .bool ng, .slice la ln lc, .string tx, .int .i64 nu, .slice ia im ic, .slice ta tm tc] 26)).alloc (.cells #[.int .u8 1, .bool ng', .slice A' n' c', .string { data := #[] }, .int .i64 0, .slice ia' 0 ic', .slice ta' 0 tc'] 26)).alloc (.cells #[.int .u8 0, .bool false, .slice none 0 0, .string { data := #[] }, .int .i64 0, .slice none 0 0, .slice none 0 0] 26))
  go_wp2_with (go_at_call 33; refine ((HTB.out.keep HK0.out).rright).mono ?_; rintro e w2 ⟨rfl, hk1⟩; have HK2 := hide (HK0.out.trans' hk1 (fun _ _ => id) (fun _ _ => id)); have HX2 := hide (HX0.out.keep hk1 id); have HY2 := hide (HY0.out.keep hk1 id); have HZ2 := hide (HZ0.out.keep hk1 id); clear hk1 HX0 HY0 HZ0 HK0)
  go_cut [6] (fun px wx => ∃ (g : Nat) (ngm : Bool) (Am : Option Addr) (nm cm : Nat), px = .pointer (some ⟨g, 0, none⟩) ∧ Hid (SubSt w2 g ngm Am nm cm (-y) wx))
  case first =>
    refine order_begin (fun W => Keeps NoB w2.drew W) (fun k => k != 10) (by kernel_rfl) 12 rfl ?_
    have BY := hide HY2.out.drew
    have IY := hide (HI'.out.keep HK2.out.drew)
    have HKD := hide ((Keeps.refl NoB w2).drew)
    have HSZ := hide (show w2.drew.heap.size = w2.heap.size from rfl)
    clear HX2 HY2 HZ2 HK2
    generalize w2.drew = W0 at *
    have HS : Keeps NoB W0 W0 := Keeps.refl _ _
    refine order_held (i := 0) rfl (by kernel_rfl) (fun _ _ _ h => h) (.inl ⟨rfl, fun W hW => by
      have q0 : W.cell? ⟨w.heap.size + 1, 0, none⟩ = some (.int .u8 1) := hW.cell id (BY.out.cell 0)
      have q1 : W.cell? ⟨w.heap.size + 1, 1, none⟩ = some (.bool ng') := hW.cell id (BY.out.cell 1)
      have q2 : W.cell? ⟨w.heap.size + 1, 2, none⟩ = some (.slice A' n' c') := hW.cell id (BY.out.cell 2)
      have q3 : W.cell? ⟨w.heap.size + 1, 3, none⟩ = some (.string { data := #[] }) := hW.cell id (BY.out.cell 3)
      have q4 : W.cell? ⟨w.heap.size + 1, 4, none⟩ = some (.int .i64 0) := hW.cell id (BY.out.cell 4)
      have q5 : W.cell? ⟨w.heap.size + 1, 5, none⟩ = some (.slice ia' 0 ic') := hW.cell id (BY.out.cell 5)
      have q6 : W.cell? ⟨w.heap.size + 1, 6, none⟩ = some (.slice ta' 0 tc') := hW.cell id (BY.out.cell 6)
      go_simp; rfl⟩) HS ?_
    try simp only [Act.put, List.setIfInBounds_toArray, List.set_cons_succ, List.set_cons_zero]
    refine order_pure (i := 2) rfl (by kernel_rfl) (fun _ _ _ h => h) (.inl ⟨rfl, fun _ => by go_simp; rfl⟩) ?_
    try simp only [Act.put, List.setIfInBounds_toArray, List.set_cons_succ, List.set_cons_zero]
    refine order_held (i := 3) rfl (by kernel_rfl) (fun _ _ _ h => h) (.inl ⟨rfl, fun W hW => by
      have q0 : W.cell? ⟨w.heap.size + 1, 1, none⟩ = some (.bool ng') := hW.cell id (BY.out.cell 1)
      go_simp; rfl⟩) HS ?_
    try simp only [Act.put, List.setIfInBounds_toArray, List.set_cons_succ, List.set_cons_zero]
    refine order_pure (i := 4) rfl (by kernel_rfl) (fun _ _ _ h => h) (.inl ⟨rfl, fun _ => by go_simp; rfl⟩) ?_
    try simp only [Act.put, List.setIfInBounds_toArray, List.set_cons_succ, List.set_cons_zero]
    clear HS
    refine order_two (i := 1) (j := 9) rfl rfl (by kernel_rfl) (fun K hK => ?_) (fun K hK => ?_)
    · skip
      go_simp
      refine (bits_any _ _ _ _ _ _ _ _ _ W0 _ IY.out).mono ?_
      rintro e V1 ⟨A1, n1, c1, rfl, hn1, hb1, hk1⟩
      refine hK _ _ (fun _ hS => hS.trans' hk1 (fun _ _ => id) (fun _ _ => id)) ?_
      clear hK
      have HN1 := hide (show n1 ≤ 1024 from by rw [hn1]; exact hb'); have HB1 := hide hb1; have HK1 := hide hk1
      clear hn1 hb1 hk1
      try simp only [Act.put, List.setIfInBounds_toArray, List.set_cons_succ, List.set_cons_zero]
      refine order_two (i := 5) (j := 9) rfl rfl (by kernel_rfl) (fun K hK => ?_) (fun K hK => ?_)
      · skip
        go_simp
        refine (rmade_yes A1 n1 c1 (!ng') _ (-y) V1 _ HB1.out (by have := HN1.out; omega) (by rw [natB_dig]; exact HSG.out) HRM.out).mono ?_
        rintro e V2 ⟨ngm, Am, nm, cm, rfl, iam, hk2⟩
        refine hK _ _ (fun _ hS => hS.trans' hk2 (fun _ _ => id) (fun _ _ => id)) ?_
        clear hK
        have IM := hide iam; have HK2 := hide hk2
        clear iam hk2
        try simp only [Act.put, List.setIfInBounds_toArray, List.set_cons_succ, List.set_cons_zero]
        refine order_pure (i := 6) rfl (by kernel_rfl) (fun _ _ _ h => h) (.inl ⟨rfl, fun _ => by go_simp; rfl⟩) ?_
        try simp only [Act.put, List.setIfInBounds_toArray, List.set_cons_succ, List.set_cons_zero]
        refine order_pure (i := 7) rfl (by kernel_rfl) (fun _ _ _ h => h) (.inl ⟨rfl, fun _ => by go_simp; rfl⟩) ?_
        try simp only [Act.put, List.setIfInBounds_toArray, List.set_cons_succ, List.set_cons_zero]
        refine order_pure (i := 8) rfl (by kernel_rfl) (fun _ _ _ h => h) (.inl ⟨rfl, fun _ => by go_simp; rfl⟩) ?_
        try simp only [Act.put, List.setIfInBounds_toArray, List.set_cons_succ, List.set_cons_zero]
        refine order_one (i := 9) rfl (by kernel_rfl) (fun K hK => ?_)
        go_simp
        refine hK _ _ (fun _ hS => hS.alloc _) ?_
        clear hK
        try simp only [Act.put, List.setIfInBounds_toArray, List.set_cons_succ, List.set_cons_zero]
        have HKW := hide ((((HKD.out.trans' HK1.out (fun _ _ h => h) (fun _ _ h => h)).trans' HK2.out (fun _ _ h => h) (fun _ _ h => h)) : Keeps NoB w2 V2).alloc (.cells #[.int .u8 0, .bool false, .slice none 0 0, .string { data := #[] }, .int .i64 0, .slice none 0 0, .slice none 0 0] 26))
        have BG := hide (Blk.new V2 26 #[.int .u8 0, .bool false, .slice none 0 0, .string { data := #[] }, .int .i64 0, .slice none 0 0, .slice none 0 0])
        have IMW := hide ((IM.out.more (B' := fun k => w2.heap.size ≤ k ∧ ¬ k = V2.heap.size) (fun k hk h => ⟨by have h1 : V1.heap.size ≤ k := h; have h2 := HK1.out.size; have h3 := HSZ.out; omega, Nat.ne_of_lt hk⟩)).keep ((Keeps.refl NoB V2).alloc (.cells #[.int .u8 0, .bool false, .slice none 0 0, .string { data := #[] }, .int .i64 0, .slice none 0 0, .slice none 0 0] 26)))
        have HGW := hide (show w2.heap.size ≤ V2.heap.size from by have h1 := HK1.out.size; have h2 := HK2.out.size; have h3 := HSZ.out; omega)
        obtain ⟨g, hg⟩ : ∃ g, V2.heap.size = g := ⟨_, rfl⟩
        rw [hg] at BG IMW HGW ⊢
        obtain ⟨V3, hV3⟩ : ∃ V3, V2.alloc (.cells #[.int .u8 0, .bool false, .slice none 0 0, .string { data := #[] }, .int .i64 0, .slice none 0 0, .slice none 0 0] 26) = V3 := ⟨_, rfl⟩
        rw [hV3] at HKW BG IMW ⊢
        clear hV3 hg HK1 HK2 IM
        have z0 : V3.cell? ⟨g, 0, none⟩ = some (.int .u8 0) := BG.out.cell 0; have z1 : V3.cell? ⟨g, 1, none⟩ = some (.bool false) := BG.out.cell 1; have z2 : V3.cell? ⟨g, 2, none⟩ = some (.slice none 0 0) := BG.out.cell 2; have z3 : V3.cell? ⟨g, 3, none⟩ = some (.string { data := #[] }) := BG.out.cell 3; have z4 : V3.cell? ⟨g, 4, none⟩ = some (.int .i64 0) := BG.out.cell 4; have z5 : V3.cell? ⟨g, 5, none⟩ = some (.slice none 0 0) := BG.out.cell 5; have z6 : V3.cell? ⟨g, 6, none⟩ = some (.slice none 0 0) := BG.out.cell 6
        have f0 : V3.frozen? ⟨g, 0, none⟩ = false := BG.out.free 0; have f1 : V3.frozen? ⟨g, 1, none⟩ = false := BG.out.free 1; have f2 : V3.frozen? ⟨g, 2, none⟩ = false := BG.out.free 2; have f3 : V3.frozen? ⟨g, 3, none⟩ = false := BG.out.free 3; have f4 : V3.frozen? ⟨g, 4, none⟩ = false := BG.out.free 4; have f5 : V3.frozen? ⟨g, 5, none⟩ = false := BG.out.free 5; have f6 : V3.frozen? ⟨g, 6, none⟩ = false := BG.out.free 6
        refine order_one (i := 10) rfl (by kernel_rfl) (fun K hK => ?_)
        go_simp
        refine hK _ _ (fun h => absurd h (by decide)) ?_
        clear hK
        try simp only [Act.put, List.setIfInBounds_toArray, List.set_cons_succ, List.set_cons_zero]
        refine order_pure (i := 11) rfl (by kernel_rfl) (fun _ _ _ h => h) (.inl ⟨rfl, fun _ => by go_simp; rfl⟩) ?_
        try simp only [Act.put, List.setIfInBounds_toArray, List.set_cons_succ, List.set_cons_zero]
        refine order_done (by kernel_rfl) ?_
        have BGf := hide (BG.out.put7 (.int .u8 1) (.bool ngm) (.slice Am nm cm) (.string { data := #[] }) (.int .i64 0) (.slice none 0 0) (.slice none 0 0))
        have HKf := hide (HKW.out.set7 (g := g) HGW.out (.int .u8 1) (.bool ngm) (.slice Am nm cm) (.string { data := #[] }) (.int .i64 0) (.slice none 0 0) (.slice none 0 0))
        have IMf := hide ((IMW.out.far (Keeps.set7' (w := V3) (g := g) (.int .u8 1) (.bool ngm) (.slice Am nm cm) (.string { data := #[] }) (.int .i64 0) (.slice none 0 0) (.slice none 0 0)) (fun k hk e => hk.2 e)).more (B' := fun k => w2.heap.size ≤ k) (fun k _ hk => hk.1))
        go_wp2_with fail
        go_meet
        exact ⟨g, ngm, Am, nm, cm, rfl, hide ⟨HKf.out, BGf.out, IMf.out⟩⟩
      · skip
        go_simp
        refine hK _ _ (fun _ hS => hS.alloc _) ?_
        clear hK
        try simp only [Act.put, List.setIfInBounds_toArray, List.set_cons_succ, List.set_cons_zero]
        have HKa := hide ((HKD.out.trans' HK1.out (fun _ _ h => h) (fun _ _ h => h) : Keeps NoB w2 V1).alloc (.cells #[.int .u8 0, .bool false, .slice none 0 0, .string { data := #[] }, .int .i64 0, .slice none 0 0, .slice none 0 0] 26))
        have BG := hide (Blk.new V1 26 #[.int .u8 0, .bool false, .slice none 0 0, .string { data := #[] }, .int .i64 0, .slice none 0 0, .slice none 0 0])
        have HBa := hide (HB1.out.keep ((Keeps.refl NoB V1).alloc (.cells #[.int .u8 0, .bool false, .slice none 0 0, .string { data := #[] }, .int .i64 0, .slice none 0 0, .slice none 0 0] 26)))
        have HGW := hide (show w2.heap.size ≤ V1.heap.size from by have h1 := HK1.out.size; have h3 := HSZ.out; omega)
        have HLT := hide BG.out.lt
        obtain ⟨g, hg⟩ : ∃ g, V1.heap.size = g := ⟨_, rfl⟩
        rw [hg] at BG HGW HLT ⊢
        obtain ⟨V3, hV3⟩ : ∃ V3, V1.alloc (.cells #[.int .u8 0, .bool false, .slice none 0 0, .string { data := #[] }, .int .i64 0, .slice none 0 0, .slice none 0 0] 26) = V3 := ⟨_, rfl⟩
        rw [hV3] at HKa BG HBa HLT ⊢
        clear hV3 hg HK1 HB1
        refine order_one (i := 5) rfl (by kernel_rfl) (fun K hK => ?_)
        go_simp
        refine (rmade_yes A1 n1 c1 (!ng') _ (-y) V3 _ HBa.out (by have := HN1.out; omega) (by rw [natB_dig]; exact HSG.out) HRM.out).mono ?_
        rintro e V2 ⟨ngm, Am, nm, cm, rfl, iam, hk2⟩
        refine hK _ _ (fun _ hS => hS.trans' hk2 (fun _ _ => id) (fun _ _ => id)) ?_
        clear hK
        have IM := hide iam; have HK2 := hide hk2
        clear iam hk2
        try simp only [Act.put, List.setIfInBounds_toArray, List.set_cons_succ, List.set_cons_zero]
        refine order_pure (i := 6) rfl (by kernel_rfl) (fun _ _ _ h => h) (.inl ⟨rfl, fun _ => by go_simp; rfl⟩) ?_
        try simp only [Act.put, List.setIfInBounds_toArray, List.set_cons_succ, List.set_cons_zero]
        refine order_pure (i := 7) rfl (by kernel_rfl) (fun _ _ _ h => h) (.inl ⟨rfl, fun _ => by go_simp; rfl⟩) ?_
        try simp only [Act.put, List.setIfInBounds_toArray, List.set_cons_succ, List.set_cons_zero]
        refine order_pure (i := 8) rfl (by kernel_rfl) (fun _ _ _ h => h) (.inl ⟨rfl, fun _ => by go_simp; rfl⟩) ?_
        try simp only [Act.put, List.setIfInBounds_toArray, List.set_cons_succ, List.set_cons_zero]
        have HKW := hide (HKa.out.trans' HK2.out (fun _ _ h => h) (fun _ _ h => h) : Keeps NoB w2 V2)
        have BG2 := hide (BG.out.keep HK2.out id)
        have IMW := hide (IM.out.more (B' := fun k => w2.heap.size ≤ k ∧ ¬ k = g) (fun k _ h => by have h1 : V3.heap.size ≤ k := h; have h2 := HLT.out; have h3 := HGW.out; omega))
        clear HKa HK2 IM BG
        have z0 : V2.cell? ⟨g, 0, none⟩ = some (.int .u8 0) := BG2.out.cell 0; have z1 : V2.cell? ⟨g, 1, none⟩ = some (.bool false) := BG2.out.cell 1; have z2 : V2.cell? ⟨g, 2, none⟩ = some (.slice none 0 0) := BG2.out.cell 2; have z3 : V2.cell? ⟨g, 3, none⟩ = some (.string { data := #[] }) := BG2.out.cell 3; have z4 : V2.cell? ⟨g, 4, none⟩ = some (.int .i64 0) := BG2.out.cell 4; have z5 : V2.cell? ⟨g, 5, none⟩ = some (.slice none 0 0) := BG2.out.cell 5; have z6 : V2.cell? ⟨g, 6, none⟩ = some (.slice none 0 0) := BG2.out.cell 6
        have f0 : V2.frozen? ⟨g, 0, none⟩ = false := BG2.out.free 0; have f1 : V2.frozen? ⟨g, 1, none⟩ = false := BG2.out.free 1; have f2 : V2.frozen? ⟨g, 2, none⟩ = false := BG2.out.free 2; have f3 : V2.frozen? ⟨g, 3, none⟩ = false := BG2.out.free 3; have f4 : V2.frozen? ⟨g, 4, none⟩ = false := BG2.out.free 4; have f5 : V2.frozen? ⟨g, 5, none⟩ = false := BG2.out.free 5; have f6 : V2.frozen? ⟨g, 6, none⟩ = false := BG2.out.free 6
        refine order_one (i := 10) rfl (by kernel_rfl) (fun K hK => ?_)
        go_simp
        refine hK _ _ (fun h => absurd h (by decide)) ?_
        clear hK
        try simp only [Act.put, List.setIfInBounds_toArray, List.set_cons_succ, List.set_cons_zero]
        refine order_pure (i := 11) rfl (by kernel_rfl) (fun _ _ _ h => h) (.inl ⟨rfl, fun _ => by go_simp; rfl⟩) ?_
        try simp only [Act.put, List.setIfInBounds_toArray, List.set_cons_succ, List.set_cons_zero]
        refine order_done (by kernel_rfl) ?_
        have BGf := hide (BG2.out.put7 (.int .u8 1) (.bool ngm) (.slice Am nm cm) (.string { data := #[] }) (.int .i64 0) (.slice none 0 0) (.slice none 0 0))
        have HKf := hide (HKW.out.set7 (g := g) HGW.out (.int .u8 1) (.bool ngm) (.slice Am nm cm) (.string { data := #[] }) (.int .i64 0) (.slice none 0 0) (.slice none 0 0))
        have IMf := hide ((IMW.out.far (Keeps.set7' (w := V2) (g := g) (.int .u8 1) (.bool ngm) (.slice Am nm cm) (.string { data := #[] }) (.int .i64 0) (.slice none 0 0) (.slice none 0 0)) (fun k hk e => hk.2 e)).more (B' := fun k => w2.heap.size ≤ k) (fun k _ hk => hk.1))
        go_wp2_with fail
        go_meet
        exact ⟨g, ngm, Am, nm, cm, rfl, hide ⟨HKf.out, BGf.out, IMf.out⟩⟩
    · skip
      go_simp
      refine hK _ _ (fun _ hS => hS.alloc _) ?_
      clear hK
      try simp only [Act.put, List.setIfInBounds_toArray, List.set_cons_succ, List.set_cons_zero]
      have HKa := hide (HKD.out.alloc (.cells #[.int .u8 0, .bool false, .slice none 0 0, .string { data := #[] }, .int .i64 0, .slice none 0 0, .slice none 0 0] 26))
      have BG := hide (Blk.new W0 26 #[.int .u8 0, .bool false, .slice none 0 0, .string { data := #[] }, .int .i64 0, .slice none 0 0, .slice none 0 0])
      have IYa := hide (IY.out.keep ((Keeps.refl NoB W0).alloc (.cells #[.int .u8 0, .bool false, .slice none 0 0, .string { data := #[] }, .int .i64 0, .slice none 0 0, .slice none 0 0] 26)))
      have HGW := hide (show w2.heap.size ≤ W0.heap.size from by have h3 := HSZ.out; omega)
      have HLT := hide BG.out.lt
      obtain ⟨g, hg⟩ : ∃ g, W0.heap.size = g := ⟨_, rfl⟩
      rw [hg] at BG HGW HLT ⊢
      obtain ⟨V3, hV3⟩ : ∃ V3, W0.alloc (.cells #[.int .u8 0, .bool false, .slice none 0 0, .string { data := #[] }, .int .i64 0, .slice none 0 0, .slice none 0 0] 26) = V3 := ⟨_, rfl⟩
      rw [hV3] at HKa BG IYa HLT ⊢
      clear hV3 hg
      refine order_one (i := 1) rfl (by kernel_rfl) (fun K hK => ?_)
      go_simp
      refine (bits_any _ _ _ _ _ _ _ _ _ V3 _ IYa.out).mono ?_
      rintro e V1 ⟨A1, n1, c1, rfl, hn1, hb1, hk1⟩
      refine hK _ _ (fun _ hS => hS.trans' hk1 (fun _ _ => id) (fun _ _ => id)) ?_
      clear hK
      have HN1 := hide (show n1 ≤ 1024 from by rw [hn1]; exact hb'); have HB1 := hide hb1; have HK1 := hide hk1
      clear hn1 hb1 hk1
      try simp only [Act.put, List.setIfInBounds_toArray, List.set_cons_succ, List.set_cons_zero]
      refine order_one (i := 5) rfl (by kernel_rfl) (fun K hK => ?_)
      go_simp
      refine (rmade_yes A1 n1 c1 (!ng') _ (-y) V1 _ HB1.out (by have := HN1.out; omega) (by rw [natB_dig]; exact HSG.out) HRM.out).mono ?_
      rintro e V2 ⟨ngm, Am, nm, cm, rfl, iam, hk2⟩
      refine hK _ _ (fun _ hS => hS.trans' hk2 (fun _ _ => id) (fun _ _ => id)) ?_
      clear hK
      have IM := hide iam; have HK2 := hide hk2
      clear iam hk2
      try simp only [Act.put, List.setIfInBounds_toArray, List.set_cons_succ, List.set_cons_zero]
      refine order_pure (i := 6) rfl (by kernel_rfl) (fun _ _ _ h => h) (.inl ⟨rfl, fun _ => by go_simp; rfl⟩) ?_
      try simp only [Act.put, List.setIfInBounds_toArray, List.set_cons_succ, List.set_cons_zero]
      refine order_pure (i := 7) rfl (by kernel_rfl) (fun _ _ _ h => h) (.inl ⟨rfl, fun _ => by go_simp; rfl⟩) ?_
      try simp only [Act.put, List.setIfInBounds_toArray, List.set_cons_succ, List.set_cons_zero]
      refine order_pure (i := 8) rfl (by kernel_rfl) (fun _ _ _ h => h) (.inl ⟨rfl, fun _ => by go_simp; rfl⟩) ?_
      try simp only [Act.put, List.setIfInBounds_toArray, List.set_cons_succ, List.set_cons_zero]
      have HKW := hide ((HKa.out.trans' HK1.out (fun _ _ h => h) (fun _ _ h => h)).trans' HK2.out (fun _ _ h => h) (fun _ _ h => h) : Keeps NoB w2 V2)
      have BG2 := hide ((BG.out.keep HK1.out id).keep HK2.out id)
      have IMW := hide (IM.out.more (B' := fun k => w2.heap.size ≤ k ∧ ¬ k = g) (fun k _ h => by have h1 : V1.heap.size ≤ k := h; have h2 := HLT.out; have h3 := HGW.out; have h4 := HK1.out.size; omega))
      clear HKa HK1 HK2 IM BG
      have z0 : V2.cell? ⟨g, 0, none⟩ = some (.int .u8 0) := BG2.out.cell 0; have z1 : V2.cell? ⟨g, 1, none⟩ = some (.bool false) := BG2.out.cell 1; have z2 : V2.cell? ⟨g, 2, none⟩ = some (.slice none 0 0) := BG2.out.cell 2; have z3 : V2.cell? ⟨g, 3, none⟩ = some (.string { data := #[] }) := BG2.out.cell 3; have z4 : V2.cell? ⟨g, 4, none⟩ = some (.int .i64 0) := BG2.out.cell 4; have z5 : V2.cell? ⟨g, 5, none⟩ = some (.slice none 0 0) := BG2.out.cell 5; have z6 : V2.cell? ⟨g, 6, none⟩ = some (.slice none 0 0) := BG2.out.cell 6
      have f0 : V2.frozen? ⟨g, 0, none⟩ = false := BG2.out.free 0; have f1 : V2.frozen? ⟨g, 1, none⟩ = false := BG2.out.free 1; have f2 : V2.frozen? ⟨g, 2, none⟩ = false := BG2.out.free 2; have f3 : V2.frozen? ⟨g, 3, none⟩ = false := BG2.out.free 3; have f4 : V2.frozen? ⟨g, 4, none⟩ = false := BG2.out.free 4; have f5 : V2.frozen? ⟨g, 5, none⟩ = false := BG2.out.free 5; have f6 : V2.frozen? ⟨g, 6, none⟩ = false := BG2.out.free 6
      refine order_one (i := 10) rfl (by kernel_rfl) (fun K hK => ?_)
      go_simp
      refine hK _ _ (fun h => absurd h (by decide)) ?_
      clear hK
      try simp only [Act.put, List.setIfInBounds_toArray, List.set_cons_succ, List.set_cons_zero]
      refine order_pure (i := 11) rfl (by kernel_rfl) (fun _ _ _ h => h) (.inl ⟨rfl, fun _ => by go_simp; rfl⟩) ?_
      try simp only [Act.put, List.setIfInBounds_toArray, List.set_cons_succ, List.set_cons_zero]
      refine order_done (by kernel_rfl) ?_
      have BGf := hide (BG2.out.put7 (.int .u8 1) (.bool ngm) (.slice Am nm cm) (.string { data := #[] }) (.int .i64 0) (.slice none 0 0) (.slice none 0 0))
      have HKf := hide (HKW.out.set7 (g := g) HGW.out (.int .u8 1) (.bool ngm) (.slice Am nm cm) (.string { data := #[] }) (.int .i64 0) (.slice none 0 0) (.slice none 0 0))
      have IMf := hide ((IMW.out.far (Keeps.set7' (w := V2) (g := g) (.int .u8 1) (.bool ngm) (.slice Am nm cm) (.string { data := #[] }) (.int .i64 0) (.slice none 0 0) (.slice none 0 0)) (fun k hk e => hk.2 e)).more (B' := fun k => w2.heap.size ≤ k) (fun k _ hk => hk.1))
      go_wp2_with fail
      go_meet
      exact ⟨g, ngm, Am, nm, cm, rfl, hide ⟨HKf.out, BGf.out, IMf.out⟩⟩
  case rest =>
    obtain ⟨g, ngm, Am, nm, cm, rfl, HM⟩ := hcut
    have HX5 := hide (HX2.out.keep HM.out.keep id); have HZ5 := hide (HZ2.out.keep HM.out.keep id)
    have HK5 := hide (HK2.out.trans' HM.out.keep (fun _ _ h => h) (fun _ _ h => h))
    have HG5 := hide HM.out.blk
    clear HX2 HY2 HZ2 HK2
    have x0 : wc.cell? ⟨w.heap.size, 0, none⟩ = some (.int .u8 kd) := HX5.out.cell 0; have x1 : wc.cell? ⟨w.heap.size, 1, none⟩ = some (.bool ng) := HX5.out.cell 1; have x2 : wc.cell? ⟨w.heap.size, 2, none⟩ = some (.slice la ln lc) := HX5.out.cell 2; have x3 : wc.cell? ⟨w.heap.size, 3, none⟩ = some (.string tx) := HX5.out.cell 3; have x4 : wc.cell? ⟨w.heap.size, 4, none⟩ = some (.int .i64 nu) := HX5.out.cell 4; have x5 : wc.cell? ⟨w.heap.size, 5, none⟩ = some (.slice ia im ic) := HX5.out.cell 5; have x6 : wc.cell? ⟨w.heap.size, 6, none⟩ = some (.slice ta tm tc) := HX5.out.cell 6
    have y0 : wc.cell? ⟨g, 0, none⟩ = some (.int .u8 1) := HG5.out.cell 0; have y1 : wc.cell? ⟨g, 1, none⟩ = some (.bool ngm) := HG5.out.cell 1; have y2 : wc.cell? ⟨g, 2, none⟩ = some (.slice Am nm cm) := HG5.out.cell 2; have y3 : wc.cell? ⟨g, 3, none⟩ = some (.string { data := #[] }) := HG5.out.cell 3; have y4 : wc.cell? ⟨g, 4, none⟩ = some (.int .i64 0) := HG5.out.cell 4; have y5 : wc.cell? ⟨g, 5, none⟩ = some (.slice none 0 0) := HG5.out.cell 5; have y6 : wc.cell? ⟨g, 6, none⟩ = some (.slice none 0 0) := HG5.out.cell 6
    go_wp2_with (go_at_call 29; refine (HAD.out wc _ ngm Am nm cm HK5.out HM.out.ia).mono ?_; rintro e w6 ⟨kd, ng, A, n, c, ok, rfl, hr, hk⟩; have HB6 := hide (HZ5.out.keep hk id); have HA6 := hide hr; have HK6 := hide (HK5.out.trans' hk (fun _ _ => id) (fun _ _ => id)); have hsz := HZ5.out.lt; clear hr hk x0 x1 x2 x3 x4 x5 x6 y0 y1 y2 y3 y4 y5 y6; have z0 : w6.cell? ⟨w.heap.size + 1 + 1, 0, none⟩ = some (.int .u8 0) := HB6.out.cell 0; have z1 : w6.cell? ⟨w.heap.size + 1 + 1, 1, none⟩ = some (.bool false) := HB6.out.cell 1; have z2 : w6.cell? ⟨w.heap.size + 1 + 1, 2, none⟩ = some (.slice none 0 0) := HB6.out.cell 2; have z3 : w6.cell? ⟨w.heap.size + 1 + 1, 3, none⟩ = some (.string { data := #[] }) := HB6.out.cell 3; have z4 : w6.cell? ⟨w.heap.size + 1 + 1, 4, none⟩ = some (.int .i64 0) := HB6.out.cell 4; have z5 : w6.cell? ⟨w.heap.size + 1 + 1, 5, none⟩ = some (.slice none 0 0) := HB6.out.cell 5; have z6 : w6.cell? ⟨w.heap.size + 1 + 1, 6, none⟩ = some (.slice none 0 0) := HB6.out.cell 6; have f0 : w6.frozen? ⟨w.heap.size + 1 + 1, 0, none⟩ = false := HB6.out.free 0; have f1 : w6.frozen? ⟨w.heap.size + 1 + 1, 1, none⟩ = false := HB6.out.free 1; have f2 : w6.frozen? ⟨w.heap.size + 1 + 1, 2, none⟩ = false := HB6.out.free 2; have f3 : w6.frozen? ⟨w.heap.size + 1 + 1, 3, none⟩ = false := HB6.out.free 3; have f4 : w6.frozen? ⟨w.heap.size + 1 + 1, 4, none⟩ = false := HB6.out.free 4; have f5 : w6.frozen? ⟨w.heap.size + 1 + 1, 5, none⟩ = false := HB6.out.free 5; have f6 : w6.frozen? ⟨w.heap.size + 1 + 1, 6, none⟩ = false := HB6.out.free 6)
    have HBf := hide (HB6.out.put7 (.int .u8 kd) (.bool ng) (.slice A n c) (.string { data := #[] }) (.int .i64 0) (.slice none 0 0) (.slice none 0 0))
    have HKf := hide (HK6.out.set7 (g := w.heap.size + 1 + 1) (by omega) (.int .u8 kd) (.bool ng) (.slice A n c) (.string { data := #[] }) (.int .i64 0) (.slice none 0 0) (.slice none 0 0))
    have HAf := hide ((HA6.out.far (Keeps.set7' (g := w.heap.size + 1 + 1) (.int .u8 kd) (.bool ng) (.slice A n c) (.string { data := #[] }) (.int .i64 0) (.slice none 0 0) (.slice none 0 0)) (fun k hk e => by first | omega | (simp at hk; omega))).more (B' := fun k => w.heap.size ≤ k) (fun k _ hk => by first | omega | (simp at hk; omega)))
    clear z0 z1 z2 z3 z4 z5 z6 f0 f1 f2 f3 f4 f5 f6 HB6 HK6 HA6
    generalize (((((((w6.setCell ⟨w.heap.size + 1 + 1, 0, none⟩ (.int .u8 kd)).setCell ⟨w.heap.size + 1 + 1, 1, none⟩ (.bool ng)).setCell ⟨w.heap.size + 1 + 1, 2, none⟩ (.slice A n c)).setCell ⟨w.heap.size + 1 + 1, 3, none⟩ (.string { data := #[] })).setCell ⟨w.heap.size + 1 + 1, 4, none⟩ (.int .i64 0)).setCell ⟨w.heap.size + 1 + 1, 5, none⟩ (.slice none 0 0)).setCell ⟨w.heap.size + 1 + 1, 6, none⟩ (.slice none 0 0)) = wf at *
    have d0 : wf.cell? ⟨w.heap.size + 1 + 1, 0, none⟩ = some (.int .u8 kd) := HBf.out.cell 0
    have d1 : wf.cell? ⟨w.heap.size + 1 + 1, 1, none⟩ = some (.bool ng) := HBf.out.cell 1
    have d2 : wf.cell? ⟨w.heap.size + 1 + 1, 2, none⟩ = some (.slice A n c) := HBf.out.cell 2
    have d3 : wf.cell? ⟨w.heap.size + 1 + 1, 3, none⟩ = some (.string { data := #[] }) := HBf.out.cell 3
    have d4 : wf.cell? ⟨w.heap.size + 1 + 1, 4, none⟩ = some (.int .i64 0) := HBf.out.cell 4
    have d5 : wf.cell? ⟨w.heap.size + 1 + 1, 5, none⟩ = some (.slice none 0 0) := HBf.out.cell 5
    have d6 : wf.cell? ⟨w.heap.size + 1 + 1, 6, none⟩ = some (.slice none 0 0) := HBf.out.cell 6
    refine bodyPost_ret (v := .tuple #[.agg #[.int .u8 kd, .bool ng, .slice A n c, .string { data := #[] }, .int .i64 0, .slice none 0 0, .slice none 0 0], .bool ok]) (by simp [results, Try.results30, go_sem, d0, d1, d2, d3, d4, d5, d6]) rfl ?_
    exact ⟨kd, ng, A, n, c, ok, rfl, HAf.out, HKf.out⟩
theorem rsub_any (ng ng' : Bool) (A A' ia ta ia' ta' : Option Addr) (n c n' c' ic tc ic' tc' : Nat) (x y : Int) (w : World) (B B' : Nat → Prop) (h : IA w B ng A n c x) (h' : IA w B' ng' A' n' c' y) :
    Calls Try.prog 30 #[.agg #[.int .u8 1, .bool ng, .slice A n c, .string { data := #[] }, .int .i64 0, .slice ia 0 ic, .slice ta 0 tc], .agg #[.int .u8 1, .bool ng', .slice A' n' c', .string { data := #[] }, .int .i64 0, .slice ia' 0 ic', .slice ta' 0 tc']] w (AnyP w (x - y)) :=
  rsub_int ng' A' ia' ta' n' c' ic' tc' x y w B B' (h.term ia ta ic tc) (hide (fun w1 B1 ngm Am nm cm hk hi => by
    rw [Int.sub_eq_add_neg]
    exact radd_any ng ngm A Am ia ta none none n c nm cm ic tc 0 0 x (-y) w1 _ _ (h.keep hk) hi)) h'
end Go.Proofs.Ytfehciiidmgopaa
