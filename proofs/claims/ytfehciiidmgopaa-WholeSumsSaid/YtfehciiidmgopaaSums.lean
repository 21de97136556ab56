/- WholeSums: the walk. Printed by mksums.py. -/
import Derived.Test.YtfehciiidmgopaaSumsLaw
import Derived.Test.YtfehciiidmgopaaSeq3
namespace Go.Proofs.Ytfehciiidmgopaa
open Go.RowKit
set_option maxHeartbeats 32000000 in
set_option maxRecDepth 100000 in
theorem sums_any {w : World} {B B' : Nat → Prop} {t u : Tm} {C D : Ct} {cs ds : Array Value} (ha : ArgT w B t C cs) (hb : ArgT w B' u D ds) : Calls Try.prog 8 #[.agg cs, .agg ds] w fun e w' => e = .returned (.bool true) ∧ Keeps NoB w w' := by
  obtain ⟨sm, hsm⟩ := small_any ha.top.term hb.top.term
  have HSM := hide hsm
  have HA := hide ha; have HB := hide hb
  clear hsm
  obtain ⟨la, ln, lc, ia, ic, ta, tc, e1, _⟩ := ha.top
  obtain ⟨la', ln', lc', ia', ic', ta', tc', e2, _⟩ := hb.top
  obtain ⟨kd, hkd⟩ : ∃ kd, C.kd = kd := ⟨_, rfl⟩
  obtain ⟨ng, hng⟩ : ∃ ng, C.ng = ng := ⟨_, rfl⟩
  obtain ⟨tx, htx⟩ : ∃ tx, C.tx = tx := ⟨_, rfl⟩
  obtain ⟨nm, hnm⟩ : ∃ nm, C.nm = nm := ⟨_, rfl⟩
  obtain ⟨im, him⟩ : ∃ im, C.im = im := ⟨_, rfl⟩
  obtain ⟨tm, htm⟩ : ∃ tm, C.tm = tm := ⟨_, rfl⟩
  obtain ⟨kd', hkd'⟩ : ∃ kd, D.kd = kd := ⟨_, rfl⟩
  obtain ⟨ng', hng'⟩ : ∃ ng, D.ng = ng := ⟨_, rfl⟩
  obtain ⟨tx', htx'⟩ : ∃ tx, D.tx = tx := ⟨_, rfl⟩
  obtain ⟨nm', hnm'⟩ : ∃ nm, D.nm = nm := ⟨_, rfl⟩
  obtain ⟨im', him'⟩ : ∃ im, D.im = im := ⟨_, rfl⟩
  obtain ⟨tm', htm'⟩ : ∃ tm, D.tm = tm := ⟨_, rfl⟩
  rw [hkd, hng, htx, hnm, him, htm] at e1
  rw [hkd', hng', htx', hnm', him', htm'] at e2
  subst e1 e2
  clear hkd hng htx hnm him htm hkd' hng' htx' hnm' him' htm' ha hb
  have Ba0 := hide ((Blk.new w 26 #[.int .u8 kd, .bool ng, .slice la ln lc, .string tx, .int .i64 nm, .slice ia im ic, .slice ta tm tc]).alloc (.cells #[.int .u8 kd', .bool ng', .slice la' ln' lc', .string tx', .int .i64 nm', .slice ia' im' ic', .slice ta' tm' tc'] 26))
  have Bb0 := hide (Blk.new2' w (.cells #[.int .u8 kd, .bool ng, .slice la ln lc, .string tx, .int .i64 nm, .slice ia im ic, .slice ta tm tc] 26) 26 #[.int .u8 kd', .bool ng', .slice la' ln' lc', .string tx', .int .i64 nm', .slice ia' im' ic', .slice ta' tm' tc'])
  have HK0 := hide (((Keeps.refl NoB w).alloc (.cells #[.int .u8 kd, .bool ng, .slice la ln lc, .string tx, .int .i64 nm, .slice ia im ic, .slice ta tm tc] 26)).alloc (.cells #[.int .u8 kd', .bool ng', .slice la' ln' lc', .string tx', .int .i64 nm', .slice ia' im' ic', .slice ta' tm' tc'] 26))
  go_enter Try.func8, Try.ntmps8
  cases sm with
  | false =>
    go_wp2_with first | (go_at_call 9; refine (awake_any _).mono ?_; rintro e w1 ⟨rfl, hk1⟩; have hka := hk1; have HK1 := hide (HK0.out.trans' hka (fun _ _ h => h) (fun _ _ h => h)); have Ba1 := hide (Ba0.out.keep hka id); have Bb1 := hide (Bb0.out.keep hka id); clear hk1 hka HK0 Ba0 Bb0; have fa0 : w1.cell? ⟨w.heap.size, 0, none⟩ = some (.int .u8 kd) := Ba1.out.cell 0; have fa1 : w1.cell? ⟨w.heap.size, 1, none⟩ = some (.bool ng) := Ba1.out.cell 1; have fa2 : w1.cell? ⟨w.heap.size, 2, none⟩ = some (.slice la ln lc) := Ba1.out.cell 2; have fa3 : w1.cell? ⟨w.heap.size, 3, none⟩ = some (.string tx) := Ba1.out.cell 3; have fa4 : w1.cell? ⟨w.heap.size, 4, none⟩ = some (.int .i64 nm) := Ba1.out.cell 4; have fa5 : w1.cell? ⟨w.heap.size, 5, none⟩ = some (.slice ia im ic) := Ba1.out.cell 5; have fa6 : w1.cell? ⟨w.heap.size, 6, none⟩ = some (.slice ta tm tc) := Ba1.out.cell 6; have fb0 : w1.cell? ⟨w.heap.size + 1, 0, none⟩ = some (.int .u8 kd') := Bb1.out.cell 0; have fb1 : w1.cell? ⟨w.heap.size + 1, 1, none⟩ = some (.bool ng') := Bb1.out.cell 1; have fb2 : w1.cell? ⟨w.heap.size + 1, 2, none⟩ = some (.slice la' ln' lc') := Bb1.out.cell 2; have fb3 : w1.cell? ⟨w.heap.size + 1, 3, none⟩ = some (.string tx') := Bb1.out.cell 3; have fb4 : w1.cell? ⟨w.heap.size + 1, 4, none⟩ = some (.int .i64 nm') := Bb1.out.cell 4; have fb5 : w1.cell? ⟨w.heap.size + 1, 5, none⟩ = some (.slice ia' im' ic') := Bb1.out.cell 5; have fb6 : w1.cell? ⟨w.heap.size + 1, 6, none⟩ = some (.slice ta' tm' tc') := Bb1.out.cell 6) | (go_at_call 10; refine (HSM.out _).mono ?_; rintro e w2 ⟨rfl, hk2⟩; have hka := hk2; have HK2 := hide (HK1.out.trans' hka (fun _ _ h => h) (fun _ _ h => h)); have Ba2 := hide (Ba1.out.keep hka id); have Bb2 := hide (Bb1.out.keep hka id); clear hk2 hka HK1 fa0 fa1 fa2 fa3 fa4 fa5 fa6 fb0 fb1 fb2 fb3 fb4 fb5 fb6 Ba1 Bb1) | fail
    go_ret
    exact ⟨rfl, HK2.out⟩
  | true =>
    go_wp2_with first | (go_at_call 9; refine (awake_any _).mono ?_; rintro e w1 ⟨rfl, hk1⟩; have hka := hk1; have HK1 := hide (HK0.out.trans' hka (fun _ _ h => h) (fun _ _ h => h)); have Ba1 := hide (Ba0.out.keep hka id); have Bb1 := hide (Bb0.out.keep hka id); clear hk1 hka HK0 Ba0 Bb0; have fa0 : w1.cell? ⟨w.heap.size, 0, none⟩ = some (.int .u8 kd) := Ba1.out.cell 0; have fa1 : w1.cell? ⟨w.heap.size, 1, none⟩ = some (.bool ng) := Ba1.out.cell 1; have fa2 : w1.cell? ⟨w.heap.size, 2, none⟩ = some (.slice la ln lc) := Ba1.out.cell 2; have fa3 : w1.cell? ⟨w.heap.size, 3, none⟩ = some (.string tx) := Ba1.out.cell 3; have fa4 : w1.cell? ⟨w.heap.size, 4, none⟩ = some (.int .i64 nm) := Ba1.out.cell 4; have fa5 : w1.cell? ⟨w.heap.size, 5, none⟩ = some (.slice ia im ic) := Ba1.out.cell 5; have fa6 : w1.cell? ⟨w.heap.size, 6, none⟩ = some (.slice ta tm tc) := Ba1.out.cell 6; have fb0 : w1.cell? ⟨w.heap.size + 1, 0, none⟩ = some (.int .u8 kd') := Bb1.out.cell 0; have fb1 : w1.cell? ⟨w.heap.size + 1, 1, none⟩ = some (.bool ng') := Bb1.out.cell 1; have fb2 : w1.cell? ⟨w.heap.size + 1, 2, none⟩ = some (.slice la' ln' lc') := Bb1.out.cell 2; have fb3 : w1.cell? ⟨w.heap.size + 1, 3, none⟩ = some (.string tx') := Bb1.out.cell 3; have fb4 : w1.cell? ⟨w.heap.size + 1, 4, none⟩ = some (.int .i64 nm') := Bb1.out.cell 4; have fb5 : w1.cell? ⟨w.heap.size + 1, 5, none⟩ = some (.slice ia' im' ic') := Bb1.out.cell 5; have fb6 : w1.cell? ⟨w.heap.size + 1, 6, none⟩ = some (.slice ta' tm' tc') := Bb1.out.cell 6) | (go_at_call 10; refine (HSM.out _).mono ?_; rintro e w2 ⟨rfl, hk2⟩; have hka := hk2; have HK2 := hide (HK1.out.trans' hka (fun _ _ h => h) (fun _ _ h => h)); have Ba2 := hide (Ba1.out.keep hka id); have Bb2 := hide (Bb1.out.keep hka id); clear hk2 hka HK1 fa0 fa1 fa2 fa3 fa4 fa5 fa6 fb0 fb1 fb2 fb3 fb4 fb5 fb6 Ba1 Bb1) | fail
    go_cut [5, 6] (fun px py wx => ∃ (gx gy : Nat) (ngx : Bool) (lax iax tax : Option Addr) (kdx nmx : Int) (lnx lcx imx icx tmx tcx : Nat) (txx : ByteArray) (ngy : Bool) (lay iay tay : Option Addr) (kdy nmy : Int) (lny lcy imy icy tmy tcy : Nat) (txy : ByteArray), px = .pointer (some ⟨gx, 0, none⟩) ∧ py = .pointer (some ⟨gy, 0, none⟩) ∧ Hid (SumsSt w2 gx gy t u #[.int .u8 kdx, .bool ngx, .slice lax lnx lcx, .string txx, .int .i64 nmx, .slice iax imx icx, .slice tax tmx tcx] #[.int .u8 kdy, .bool ngy, .slice lay lny lcy, .string txy, .int .i64 nmy, .slice iay imy icy, .slice tay tmy tcy] wx))
    case first =>
      refine order_begin (fun W => Keeps NoB w2.drew W) (fun k => k != 6 && k != 7) (by kernel_rfl) 8 rfl ?_
      have HA0 := hide (HA.out.keep HK2.out.drew); have HB0 := hide (HB.out.keep HK2.out.drew)
      have RA0 := hide Ba2.out.drew; have RB0 := hide Bb2.out.drew
      clear Ba2 Bb2 HK2 HA HB
      have HK00 := hide (Keeps.refl NoB w2.drew)
      have HWV := hide ((Keeps.refl NoB w2).drew)
      generalize w2.drew = W0 at *
      have HS : Keeps NoB W0 W0 := HK00.out
      refine order_held (i := 0) rfl (by kernel_rfl) (fun _ _ _ h => h) (.inl ⟨rfl, fun W hW => by
        have q0 : W.cell? ⟨w.heap.size, 0, none⟩ = some (.int .u8 kd) := hW.cell id (RA0.out.cell 0)
        have q1 : W.cell? ⟨w.heap.size, 1, none⟩ = some (.bool ng) := hW.cell id (RA0.out.cell 1)
        have q2 : W.cell? ⟨w.heap.size, 2, none⟩ = some (.slice la ln lc) := hW.cell id (RA0.out.cell 2)
        have q3 : W.cell? ⟨w.heap.size, 3, none⟩ = some (.string tx) := hW.cell id (RA0.out.cell 3)
        have q4 : W.cell? ⟨w.heap.size, 4, none⟩ = some (.int .i64 nm) := hW.cell id (RA0.out.cell 4)
        have q5 : W.cell? ⟨w.heap.size, 5, none⟩ = some (.slice ia im ic) := hW.cell id (RA0.out.cell 5)
        have q6 : W.cell? ⟨w.heap.size, 6, none⟩ = some (.slice ta tm tc) := hW.cell id (RA0.out.cell 6)
        go_simp; rfl⟩) HS ?_
      try simp only [Act.put, List.setIfInBounds_toArray, List.set_cons_succ, List.set_cons_zero]
      refine order_held (i := 2) rfl (by kernel_rfl) (fun _ _ _ h => h) (.inl ⟨rfl, fun W hW => by
        have q0 : W.cell? ⟨w.heap.size + 1, 0, none⟩ = some (.int .u8 kd') := hW.cell id (RB0.out.cell 0)
        have q1 : W.cell? ⟨w.heap.size + 1, 1, none⟩ = some (.bool ng') := hW.cell id (RB0.out.cell 1)
        have q2 : W.cell? ⟨w.heap.size + 1, 2, none⟩ = some (.slice la' ln' lc') := hW.cell id (RB0.out.cell 2)
        have q3 : W.cell? ⟨w.heap.size + 1, 3, none⟩ = some (.string tx') := hW.cell id (RB0.out.cell 3)
        have q4 : W.cell? ⟨w.heap.size + 1, 4, none⟩ = some (.int .i64 nm') := hW.cell id (RB0.out.cell 4)
        have q5 : W.cell? ⟨w.heap.size + 1, 5, none⟩ = some (.slice ia' im' ic') := hW.cell id (RB0.out.cell 5)
        have q6 : W.cell? ⟨w.heap.size + 1, 6, none⟩ = some (.slice ta' tm' tc') := hW.cell id (RB0.out.cell 6)
        go_simp; rfl⟩) HS ?_
      try simp only [Act.put, List.setIfInBounds_toArray, List.set_cons_succ, List.set_cons_zero]
      clear HS
      refine order_three (i := 1) (j := 4) (k := 5) rfl rfl rfl (by kernel_rfl) (fun K hK => ?_) (fun K hK => ?_) (fun K hK => ?_)
      · skip
        go_simp
        refine (lent_any (HA0.out.keep HK00.out)).mono ?_
        rintro e V1 ⟨ngx, lax, iax, tax, kdx, nmx, lnx, lcx, imx, icx, tmx, tcx, txx, rfl, ilent, hk⟩
        refine hK _ _ (fun _ hS => hS.trans' hk (fun _ _ => id) (fun _ _ => id)) ?_
        clear hK
        try simp only [Act.put, List.setIfInBounds_toArray, List.set_cons_succ, List.set_cons_zero]
        have HV1 := hide (HK00.out.trans' hk (fun _ _ h => h) (fun _ _ h => h))
        have IX1 := hide (ilent.more (P' := fun k => True) (fun k _ hB => by have hB' : W0.heap.size ≤ k := hB; exact trivial))
        clear ilent hk
        refine order_three (i := 3) (j := 4) (k := 5) rfl rfl rfl (by kernel_rfl) (fun K hK => ?_) (fun K hK => ?_) (fun K hK => ?_)
        · skip
          go_simp
          refine (lent_any (HB0.out.keep HV1.out)).mono ?_
          rintro e V2 ⟨ngy, lay, iay, tay, kdy, nmy, lny, lcy, imy, icy, tmy, tcy, txy, rfl, ilent, hk⟩
          refine hK _ _ (fun _ hS => hS.trans' hk (fun _ _ => id) (fun _ _ => id)) ?_
          clear hK
          try simp only [Act.put, List.setIfInBounds_toArray, List.set_cons_succ, List.set_cons_zero]
          have HV2 := hide (HV1.out.trans' hk (fun _ _ h => h) (fun _ _ h => h))
          have IY2 := hide (ilent.more (P' := fun k => True) (fun k _ hB => by have hB' : V1.heap.size ≤ k := hB; exact trivial))
          have IX2 := hide (IX1.out.keep hk)
          clear HV1 ilent hk IX1
          refine order_two (i := 4) (j := 5) rfl rfl (by kernel_rfl) (fun K hK => ?_) (fun K hK => ?_)
          · skip
            go_simp
            refine hK _ _ (fun _ hS => hS.alloc _) ?_
            clear hK
            try simp only [Act.put, List.setIfInBounds_toArray, List.set_cons_succ, List.set_cons_zero]
            obtain ⟨gx, hgx⟩ : ∃ gx, V2.heap.size = gx := ⟨_, rfl⟩
            have HV3 := hide (HV2.out.alloc (.cells #[.int .u8 0, .bool false, .slice none 0 0, .string { data := #[] }, .int .i64 0, .slice none 0 0, .slice none 0 0] 26))
            have Lx := hide (show W0.heap.size ≤ gx from hgx ▸ HV2.out.size)
            have BX3 := hide (Blk.new V2 26 #[.int .u8 0, .bool false, .slice none 0 0, .string { data := #[] }, .int .i64 0, .slice none 0 0, .slice none 0 0])
            have IX3 := hide (((IX2.out.more (P' := fun k => True ∧ ¬ k = V2.heap.size) (fun k hk h => ⟨trivial, Nat.ne_of_lt hk⟩)).keep ((Keeps.refl NoB V2).alloc (.cells #[.int .u8 0, .bool false, .slice none 0 0, .string { data := #[] }, .int .i64 0, .slice none 0 0, .slice none 0 0] 26))))
            have IY3 := hide (((IY2.out.more (P' := fun k => True ∧ ¬ k = V2.heap.size) (fun k hk h => ⟨trivial, Nat.ne_of_lt hk⟩)).keep ((Keeps.refl NoB V2).alloc (.cells #[.int .u8 0, .bool false, .slice none 0 0, .string { data := #[] }, .int .i64 0, .slice none 0 0, .slice none 0 0] 26))))
            clear HV2 IX2 IY2
            rw [hgx] at BX3 IX3 IY3 ⊢
            generalize V2.alloc (.cells #[.int .u8 0, .bool false, .slice none 0 0, .string { data := #[] }, .int .i64 0, .slice none 0 0, .slice none 0 0] 26) = V3 at *
            clear hgx
            refine order_one (i := 5) rfl (by kernel_rfl) (fun K hK => ?_)
            go_simp
            refine hK _ _ (fun _ hS => hS.alloc _) ?_
            clear hK
            try simp only [Act.put, List.setIfInBounds_toArray, List.set_cons_succ, List.set_cons_zero]
            obtain ⟨gy, hgy⟩ : ∃ gy, V3.heap.size = gy := ⟨_, rfl⟩
            have HV4 := hide (HV3.out.alloc (.cells #[.int .u8 0, .bool false, .slice none 0 0, .string { data := #[] }, .int .i64 0, .slice none 0 0, .slice none 0 0] 26))
            have Ly := hide (show W0.heap.size ≤ gy from hgy ▸ HV3.out.size)
            have BY4 := hide (Blk.new V3 26 #[.int .u8 0, .bool false, .slice none 0 0, .string { data := #[] }, .int .i64 0, .slice none 0 0, .slice none 0 0])
            have BX4 := hide (BX3.out.alloc (.cells #[.int .u8 0, .bool false, .slice none 0 0, .string { data := #[] }, .int .i64 0, .slice none 0 0, .slice none 0 0] 26))
            have HNE := hide (show ¬ gx = gy from by have := BX3.out.lt; omega)
            have IX4 := hide (((IX3.out.more (P' := fun k => True ∧ ¬ k = gx ∧ ¬ k = V3.heap.size) (fun k hk h => ⟨h.1, h.2, Nat.ne_of_lt hk⟩)).keep ((Keeps.refl NoB V3).alloc (.cells #[.int .u8 0, .bool false, .slice none 0 0, .string { data := #[] }, .int .i64 0, .slice none 0 0, .slice none 0 0] 26))))
            have IY4 := hide (((IY3.out.more (P' := fun k => True ∧ ¬ k = gx ∧ ¬ k = V3.heap.size) (fun k hk h => ⟨h.1, h.2, Nat.ne_of_lt hk⟩)).keep ((Keeps.refl NoB V3).alloc (.cells #[.int .u8 0, .bool false, .slice none 0 0, .string { data := #[] }, .int .i64 0, .slice none 0 0, .slice none 0 0] 26))))
            clear HV3 BX3 IX3 IY3
            rw [hgy] at BY4 IX4 IY4 ⊢
            generalize V3.alloc (.cells #[.int .u8 0, .bool false, .slice none 0 0, .string { data := #[] }, .int .i64 0, .slice none 0 0, .slice none 0 0] 26) = V4 at *
            clear hgy
            have IXa := hide (IX4.out.more (P' := fun k => ¬ k = gx ∧ ¬ k = gy) (fun k _ h => ⟨h.2.1, h.2.2⟩)); have IYa := hide (IY4.out.more (P' := fun k => ¬ k = gx ∧ ¬ k = gy) (fun k _ h => ⟨h.2.1, h.2.2⟩))
            have z0 : V4.cell? ⟨gx, 0, none⟩ = some (.int .u8 0) := BX4.out.cell 0; have z1 : V4.cell? ⟨gx, 1, none⟩ = some (.bool false) := BX4.out.cell 1; have z2 : V4.cell? ⟨gx, 2, none⟩ = some (.slice none 0 0) := BX4.out.cell 2; have z3 : V4.cell? ⟨gx, 3, none⟩ = some (.string { data := #[] }) := BX4.out.cell 3; have z4 : V4.cell? ⟨gx, 4, none⟩ = some (.int .i64 0) := BX4.out.cell 4; have z5 : V4.cell? ⟨gx, 5, none⟩ = some (.slice none 0 0) := BX4.out.cell 5; have z6 : V4.cell? ⟨gx, 6, none⟩ = some (.slice none 0 0) := BX4.out.cell 6
            have f0 : V4.frozen? ⟨gx, 0, none⟩ = false := BX4.out.free 0; have f1 : V4.frozen? ⟨gx, 1, none⟩ = false := BX4.out.free 1; have f2 : V4.frozen? ⟨gx, 2, none⟩ = false := BX4.out.free 2; have f3 : V4.frozen? ⟨gx, 3, none⟩ = false := BX4.out.free 3; have f4 : V4.frozen? ⟨gx, 4, none⟩ = false := BX4.out.free 4; have f5 : V4.frozen? ⟨gx, 5, none⟩ = false := BX4.out.free 5; have f6 : V4.frozen? ⟨gx, 6, none⟩ = false := BX4.out.free 6
            refine order_one (i := 6) rfl (by kernel_rfl) (fun K hK => ?_)
            go_simp
            refine hK _ _ (fun h => by cases h) ?_
            clear hK
            try simp only [Act.put, List.setIfInBounds_toArray, List.set_cons_succ, List.set_cons_zero]
            have hs := Keeps.set7' (w := V4) (g := gx) (.int .u8 kdx) (.bool ngx) (.slice lax lnx lcx) (.string txx) (.int .i64 nmx) (.slice iax imx icx) (.slice tax tmx tcx)
            have BXb := hide (BX4.out.put7 (.int .u8 kdx) (.bool ngx) (.slice lax lnx lcx) (.string txx) (.int .i64 nmx) (.slice iax imx icx) (.slice tax tmx tcx)); have BYb := hide (BY4.out.keep hs (fun e => HNE.out e.symm)); have IXb := hide (IXa.out.far hs (fun k h => h.1)); have IYb := hide (IYa.out.far hs (fun k h => h.1)); have HKb := hide (HV4.out.set7 Lx.out (.int .u8 kdx) (.bool ngx) (.slice lax lnx lcx) (.string txx) (.int .i64 nmx) (.slice iax imx icx) (.slice tax tmx tcx))
            clear hs z0 z1 z2 z3 z4 z5 z6 f0 f1 f2 f3 f4 f5 f6 IXa IYa BX4 BY4 IX4 IY4 HV4
            generalize (((((((V4.setCell ⟨gx, 0, none⟩ (.int .u8 kdx)).setCell ⟨gx, 1, none⟩ (.bool ngx)).setCell ⟨gx, 2, none⟩ (.slice lax lnx lcx)).setCell ⟨gx, 3, none⟩ (.string txx)).setCell ⟨gx, 4, none⟩ (.int .i64 nmx)).setCell ⟨gx, 5, none⟩ (.slice iax imx icx)).setCell ⟨gx, 6, none⟩ (.slice tax tmx tcx)) = Wb at *
            have z0 : Wb.cell? ⟨gy, 0, none⟩ = some (.int .u8 0) := BYb.out.cell 0; have z1 : Wb.cell? ⟨gy, 1, none⟩ = some (.bool false) := BYb.out.cell 1; have z2 : Wb.cell? ⟨gy, 2, none⟩ = some (.slice none 0 0) := BYb.out.cell 2; have z3 : Wb.cell? ⟨gy, 3, none⟩ = some (.string { data := #[] }) := BYb.out.cell 3; have z4 : Wb.cell? ⟨gy, 4, none⟩ = some (.int .i64 0) := BYb.out.cell 4; have z5 : Wb.cell? ⟨gy, 5, none⟩ = some (.slice none 0 0) := BYb.out.cell 5; have z6 : Wb.cell? ⟨gy, 6, none⟩ = some (.slice none 0 0) := BYb.out.cell 6
            have f0 : Wb.frozen? ⟨gy, 0, none⟩ = false := BYb.out.free 0; have f1 : Wb.frozen? ⟨gy, 1, none⟩ = false := BYb.out.free 1; have f2 : Wb.frozen? ⟨gy, 2, none⟩ = false := BYb.out.free 2; have f3 : Wb.frozen? ⟨gy, 3, none⟩ = false := BYb.out.free 3; have f4 : Wb.frozen? ⟨gy, 4, none⟩ = false := BYb.out.free 4; have f5 : Wb.frozen? ⟨gy, 5, none⟩ = false := BYb.out.free 5; have f6 : Wb.frozen? ⟨gy, 6, none⟩ = false := BYb.out.free 6
            refine order_one (i := 7) rfl (by kernel_rfl) (fun K hK => ?_)
            go_simp
            refine hK _ _ (fun h => by cases h) ?_
            clear hK
            try simp only [Act.put, List.setIfInBounds_toArray, List.set_cons_succ, List.set_cons_zero]
            have hs := Keeps.set7' (w := Wb) (g := gy) (.int .u8 kdy) (.bool ngy) (.slice lay lny lcy) (.string txy) (.int .i64 nmy) (.slice iay imy icy) (.slice tay tmy tcy)
            have BXc := hide (BXb.out.keep hs HNE.out); have BYc := hide (BYb.out.put7 (.int .u8 kdy) (.bool ngy) (.slice lay lny lcy) (.string txy) (.int .i64 nmy) (.slice iay imy icy) (.slice tay tmy tcy)); have IXc := hide (IXb.out.far hs (fun k h => h.2)); have IYc := hide (IYb.out.far hs (fun k h => h.2)); have HKc := hide (HKb.out.set7 Ly.out (.int .u8 kdy) (.bool ngy) (.slice lay lny lcy) (.string txy) (.int .i64 nmy) (.slice iay imy icy) (.slice tay tmy tcy))
            clear hs z0 z1 z2 z3 z4 z5 z6 f0 f1 f2 f3 f4 f5 f6 BXb BYb IXb IYb HKb
            generalize (((((((Wb.setCell ⟨gy, 0, none⟩ (.int .u8 kdy)).setCell ⟨gy, 1, none⟩ (.bool ngy)).setCell ⟨gy, 2, none⟩ (.slice lay lny lcy)).setCell ⟨gy, 3, none⟩ (.string txy)).setCell ⟨gy, 4, none⟩ (.int .i64 nmy)).setCell ⟨gy, 5, none⟩ (.slice iay imy icy)).setCell ⟨gy, 6, none⟩ (.slice tay tmy tcy)) = Wc at *
            refine order_done (by kernel_rfl) ?_
            go_wp2_with fail
            go_meet
            exact ⟨gx, gy, ngx, lax, iax, tax, kdx, nmx, lnx, lcx, imx, icx, tmx, tcx, txx, ngy, lay, iay, tay, kdy, nmy, lny, lcy, imy, icy, tmy, tcy, txy, rfl, rfl, hide ⟨HWV.out.trans' HKc.out (fun _ _ h => h) (fun _ _ h => h), BXc.out, BYc.out, IXc.out, IYc.out⟩⟩
          · skip
            go_simp
            refine hK _ _ (fun _ hS => hS.alloc _) ?_
            clear hK
            try simp only [Act.put, List.setIfInBounds_toArray, List.set_cons_succ, List.set_cons_zero]
            obtain ⟨gy, hgy⟩ : ∃ gy, V2.heap.size = gy := ⟨_, rfl⟩
            have HV5 := hide (HV2.out.alloc (.cells #[.int .u8 0, .bool false, .slice none 0 0, .string { data := #[] }, .int .i64 0, .slice none 0 0, .slice none 0 0] 26))
            have Ly := hide (show W0.heap.size ≤ gy from hgy ▸ HV2.out.size)
            have BY5 := hide (Blk.new V2 26 #[.int .u8 0, .bool false, .slice none 0 0, .string { data := #[] }, .int .i64 0, .slice none 0 0, .slice none 0 0])
            have IX5 := hide (((IX2.out.more (P' := fun k => True ∧ ¬ k = V2.heap.size) (fun k hk h => ⟨trivial, Nat.ne_of_lt hk⟩)).keep ((Keeps.refl NoB V2).alloc (.cells #[.int .u8 0, .bool false, .slice none 0 0, .string { data := #[] }, .int .i64 0, .slice none 0 0, .slice none 0 0] 26))))
            have IY5 := hide (((IY2.out.more (P' := fun k => True ∧ ¬ k = V2.heap.size) (fun k hk h => ⟨trivial, Nat.ne_of_lt hk⟩)).keep ((Keeps.refl NoB V2).alloc (.cells #[.int .u8 0, .bool false, .slice none 0 0, .string { data := #[] }, .int .i64 0, .slice none 0 0, .slice none 0 0] 26))))
            clear HV2 IX2 IY2
            rw [hgy] at BY5 IX5 IY5 ⊢
            generalize V2.alloc (.cells #[.int .u8 0, .bool false, .slice none 0 0, .string { data := #[] }, .int .i64 0, .slice none 0 0, .slice none 0 0] 26) = V5 at *
            clear hgy
            refine order_one (i := 4) rfl (by kernel_rfl) (fun K hK => ?_)
            go_simp
            refine hK _ _ (fun _ hS => hS.alloc _) ?_
            clear hK
            try simp only [Act.put, List.setIfInBounds_toArray, List.set_cons_succ, List.set_cons_zero]
            obtain ⟨gx, hgx⟩ : ∃ gx, V5.heap.size = gx := ⟨_, rfl⟩
            have HV6 := hide (HV5.out.alloc (.cells #[.int .u8 0, .bool false, .slice none 0 0, .string { data := #[] }, .int .i64 0, .slice none 0 0, .slice none 0 0] 26))
            have Lx := hide (show W0.heap.size ≤ gx from hgx ▸ HV5.out.size)
            have BX6 := hide (Blk.new V5 26 #[.int .u8 0, .bool false, .slice none 0 0, .string { data := #[] }, .int .i64 0, .slice none 0 0, .slice none 0 0])
            have BY6 := hide (BY5.out.alloc (.cells #[.int .u8 0, .bool false, .slice none 0 0, .string { data := #[] }, .int .i64 0, .slice none 0 0, .slice none 0 0] 26))
            have HNE := hide (show ¬ gx = gy from by have := BY5.out.lt; omega)
            have IX6 := hide (((IX5.out.more (P' := fun k => True ∧ ¬ k = gy ∧ ¬ k = V5.heap.size) (fun k hk h => ⟨h.1, h.2, Nat.ne_of_lt hk⟩)).keep ((Keeps.refl NoB V5).alloc (.cells #[.int .u8 0, .bool false, .slice none 0 0, .string { data := #[] }, .int .i64 0, .slice none 0 0, .slice none 0 0] 26))))
            have IY6 := hide (((IY5.out.more (P' := fun k => True ∧ ¬ k = gy ∧ ¬ k = V5.heap.size) (fun k hk h => ⟨h.1, h.2, Nat.ne_of_lt hk⟩)).keep ((Keeps.refl NoB V5).alloc (.cells #[.int .u8 0, .bool false, .slice none 0 0, .string { data := #[] }, .int .i64 0, .slice none 0 0, .slice none 0 0] 26))))
            clear HV5 BY5 IX5 IY5
            rw [hgx] at BX6 IX6 IY6 ⊢
            generalize V5.alloc (.cells #[.int .u8 0, .bool false, .slice none 0 0, .string { data := #[] }, .int .i64 0, .slice none 0 0, .slice none 0 0] 26) = V6 at *
            clear hgx
            have IXa := hide (IX6.out.more (P' := fun k => ¬ k = gx ∧ ¬ k = gy) (fun k _ h => ⟨h.2.2, h.2.1⟩)); have IYa := hide (IY6.out.more (P' := fun k => ¬ k = gx ∧ ¬ k = gy) (fun k _ h => ⟨h.2.2, h.2.1⟩))
            have z0 : V6.cell? ⟨gx, 0, none⟩ = some (.int .u8 0) := BX6.out.cell 0; have z1 : V6.cell? ⟨gx, 1, none⟩ = some (.bool false) := BX6.out.cell 1; have z2 : V6.cell? ⟨gx, 2, none⟩ = some (.slice none 0 0) := BX6.out.cell 2; have z3 : V6.cell? ⟨gx, 3, none⟩ = some (.string { data := #[] }) := BX6.out.cell 3; have z4 : V6.cell? ⟨gx, 4, none⟩ = some (.int .i64 0) := BX6.out.cell 4; have z5 : V6.cell? ⟨gx, 5, none⟩ = some (.slice none 0 0) := BX6.out.cell 5; have z6 : V6.cell? ⟨gx, 6, none⟩ = some (.slice none 0 0) := BX6.out.cell 6
            have f0 : V6.frozen? ⟨gx, 0, none⟩ = false := BX6.out.free 0; have f1 : V6.frozen? ⟨gx, 1, none⟩ = false := BX6.out.free 1; have f2 : V6.frozen? ⟨gx, 2, none⟩ = false := BX6.out.free 2; have f3 : V6.frozen? ⟨gx, 3, none⟩ = false := BX6.out.free 3; have f4 : V6.frozen? ⟨gx, 4, none⟩ = false := BX6.out.free 4; have f5 : V6.frozen? ⟨gx, 5, none⟩ = false := BX6.out.free 5; have f6 : V6.frozen? ⟨gx, 6, none⟩ = false := BX6.out.free 6
            refine order_one (i := 6) rfl (by kernel_rfl) (fun K hK => ?_)
            go_simp
            refine hK _ _ (fun h => by cases h) ?_
            clear hK
            try simp only [Act.put, List.setIfInBounds_toArray, List.set_cons_succ, List.set_cons_zero]
            have hs := Keeps.set7' (w := V6) (g := gx) (.int .u8 kdx) (.bool ngx) (.slice lax lnx lcx) (.string txx) (.int .i64 nmx) (.slice iax imx icx) (.slice tax tmx tcx)
            have BXb := hide (BX6.out.put7 (.int .u8 kdx) (.bool ngx) (.slice lax lnx lcx) (.string txx) (.int .i64 nmx) (.slice iax imx icx) (.slice tax tmx tcx)); have BYb := hide (BY6.out.keep hs (fun e => HNE.out e.symm)); have IXb := hide (IXa.out.far hs (fun k h => h.1)); have IYb := hide (IYa.out.far hs (fun k h => h.1)); have HKb := hide (HV6.out.set7 Lx.out (.int .u8 kdx) (.bool ngx) (.slice lax lnx lcx) (.string txx) (.int .i64 nmx) (.slice iax imx icx) (.slice tax tmx tcx))
            clear hs z0 z1 z2 z3 z4 z5 z6 f0 f1 f2 f3 f4 f5 f6 IXa IYa BX6 BY6 IX6 IY6 HV6
            generalize (((((((V6.setCell ⟨gx, 0, none⟩ (.int .u8 kdx)).setCell ⟨gx, 1, none⟩ (.bool ngx)).setCell ⟨gx, 2, none⟩ (.slice lax lnx lcx)).setCell ⟨gx, 3, none⟩ (.string txx)).setCell ⟨gx, 4, none⟩ (.int .i64 nmx)).setCell ⟨gx, 5, none⟩ (.slice iax imx icx)).setCell ⟨gx, 6, none⟩ (.slice tax tmx tcx)) = Wb at *
            have z0 : Wb.cell? ⟨gy, 0, none⟩ = some (.int .u8 0) := BYb.out.cell 0; have z1 : Wb.cell? ⟨gy, 1, none⟩ = some (.bool false) := BYb.out.cell 1; have z2 : Wb.cell? ⟨gy, 2, none⟩ = some (.slice none 0 0) := BYb.out.cell 2; have z3 : Wb.cell? ⟨gy, 3, none⟩ = some (.string { data := #[] }) := BYb.out.cell 3; have z4 : Wb.cell? ⟨gy, 4, none⟩ = some (.int .i64 0) := BYb.out.cell 4; have z5 : Wb.cell? ⟨gy, 5, none⟩ = some (.slice none 0 0) := BYb.out.cell 5; have z6 : Wb.cell? ⟨gy, 6, none⟩ = some (.slice none 0 0) := BYb.out.cell 6
            have f0 : Wb.frozen? ⟨gy, 0, none⟩ = false := BYb.out.free 0; have f1 : Wb.frozen? ⟨gy, 1, none⟩ = false := BYb.out.free 1; have f2 : Wb.frozen? ⟨gy, 2, none⟩ = false := BYb.out.free 2; have f3 : Wb.frozen? ⟨gy, 3, none⟩ = false := BYb.out.free 3; have f4 : Wb.frozen? ⟨gy, 4, none⟩ = false := BYb.out.free 4; have f5 : Wb.frozen? ⟨gy, 5, none⟩ = false := BYb.out.free 5; have f6 : Wb.frozen? ⟨gy, 6, none⟩ = false := BYb.out.free 6
            refine order_one (i := 7) rfl (by kernel_rfl) (fun K hK => ?_)
            go_simp
            refine hK _ _ (fun h => by cases h) ?_
            clear hK
            try simp only [Act.put, List.setIfInBounds_toArray, List.set_cons_succ, List.set_cons_zero]
            have hs := Keeps.set7' (w := Wb) (g := gy) (.int .u8 kdy) (.bool ngy) (.slice lay lny lcy) (.string txy) (.int .i64 nmy) (.slice iay imy icy) (.slice tay tmy tcy)
            have BXc := hide (BXb.out.keep hs HNE.out); have BYc := hide (BYb.out.put7 (.int .u8 kdy) (.bool ngy) (.slice lay lny lcy) (.string txy) (.int .i64 nmy) (.slice iay imy icy) (.slice tay tmy tcy)); have IXc := hide (IXb.out.far hs (fun k h => h.2)); have IYc := hide (IYb.out.far hs (fun k h => h.2)); have HKc := hide (HKb.out.set7 Ly.out (.int .u8 kdy) (.bool ngy) (.slice lay lny lcy) (.string txy) (.int .i64 nmy) (.slice iay imy icy) (.slice tay tmy tcy))
            clear hs z0 z1 z2 z3 z4 z5 z6 f0 f1 f2 f3 f4 f5 f6 BXb BYb IXb IYb HKb
            generalize (((((((Wb.setCell ⟨gy, 0, none⟩ (.int .u8 kdy)).setCell ⟨gy, 1, none⟩ (.bool ngy)).setCell ⟨gy, 2, none⟩ (.slice lay lny lcy)).setCell ⟨gy, 3, none⟩ (.string txy)).setCell ⟨gy, 4, none⟩ (.int .i64 nmy)).setCell ⟨gy, 5, none⟩ (.slice iay imy icy)).setCell ⟨gy, 6, none⟩ (.slice tay tmy tcy)) = Wc at *
            refine order_done (by kernel_rfl) ?_
            go_wp2_with fail
            go_meet
            exact ⟨gx, gy, ngx, lax, iax, tax, kdx, nmx, lnx, lcx, imx, icx, tmx, tcx, txx, ngy, lay, iay, tay, kdy, nmy, lny, lcy, imy, icy, tmy, tcy, txy, rfl, rfl, hide ⟨HWV.out.trans' HKc.out (fun _ _ h => h) (fun _ _ h => h), BXc.out, BYc.out, IXc.out, IYc.out⟩⟩
        · skip
          go_simp
          refine hK _ _ (fun _ hS => hS.alloc _) ?_
          clear hK
          try simp only [Act.put, List.setIfInBounds_toArray, List.set_cons_succ, List.set_cons_zero]
          obtain ⟨gx, hgx⟩ : ∃ gx, V1.heap.size = gx := ⟨_, rfl⟩
          have HV7 := hide (HV1.out.alloc (.cells #[.int .u8 0, .bool false, .slice none 0 0, .string { data := #[] }, .int .i64 0, .slice none 0 0, .slice none 0 0] 26))
          have Lx := hide (show W0.heap.size ≤ gx from hgx ▸ HV1.out.size)
          have BX7 := hide (Blk.new V1 26 #[.int .u8 0, .bool false, .slice none 0 0, .string { data := #[] }, .int .i64 0, .slice none 0 0, .slice none 0 0])
          have IX7 := hide (((IX1.out.more (P' := fun k => True ∧ ¬ k = V1.heap.size) (fun k hk h => ⟨trivial, Nat.ne_of_lt hk⟩)).keep ((Keeps.refl NoB V1).alloc (.cells #[.int .u8 0, .bool false, .slice none 0 0, .string { data := #[] }, .int .i64 0, .slice none 0 0, .slice none 0 0] 26))))
          clear HV1 IX1
          rw [hgx] at BX7 IX7 ⊢
          generalize V1.alloc (.cells #[.int .u8 0, .bool false, .slice none 0 0, .string { data := #[] }, .int .i64 0, .slice none 0 0, .slice none 0 0] 26) = V7 at *
          clear hgx
          refine order_two (i := 3) (j := 5) rfl rfl (by kernel_rfl) (fun K hK => ?_) (fun K hK => ?_)
          · skip
            go_simp
            refine (lent_any (HB0.out.keep HV7.out)).mono ?_
            rintro e V8 ⟨ngy, lay, iay, tay, kdy, nmy, lny, lcy, imy, icy, tmy, tcy, txy, rfl, ilent, hk⟩
            refine hK _ _ (fun _ hS => hS.trans' hk (fun _ _ => id) (fun _ _ => id)) ?_
            clear hK
            try simp only [Act.put, List.setIfInBounds_toArray, List.set_cons_succ, List.set_cons_zero]
            have HV8 := hide (HV7.out.trans' hk (fun _ _ h => h) (fun _ _ h => h))
            have IY8 := hide (ilent.more (P' := fun k => True ∧ ¬ k = gx) (fun k _ hB => by have lx := BX7.out.lt; have hB' : V7.heap.size ≤ k := hB; exact ⟨trivial, by omega⟩))
            have BX8 := hide (BX7.out.keep hk id)
            have IX8 := hide (IX7.out.keep hk)
            clear HV7 ilent hk BX7 IX7
            refine order_one (i := 5) rfl (by kernel_rfl) (fun K hK => ?_)
            go_simp
            refine hK _ _ (fun _ hS => hS.alloc _) ?_
            clear hK
            try simp only [Act.put, List.setIfInBounds_toArray, List.set_cons_succ, List.set_cons_zero]
            obtain ⟨gy, hgy⟩ : ∃ gy, V8.heap.size = gy := ⟨_, rfl⟩
            have HV9 := hide (HV8.out.alloc (.cells #[.int .u8 0, .bool false, .slice none 0 0, .string { data := #[] }, .int .i64 0, .slice none 0 0, .slice none 0 0] 26))
            have Ly := hide (show W0.heap.size ≤ gy from hgy ▸ HV8.out.size)
            have BY9 := hide (Blk.new V8 26 #[.int .u8 0, .bool false, .slice none 0 0, .string { data := #[] }, .int .i64 0, .slice none 0 0, .slice none 0 0])
            have BX9 := hide (BX8.out.alloc (.cells #[.int .u8 0, .bool false, .slice none 0 0, .string { data := #[] }, .int .i64 0, .slice none 0 0, .slice none 0 0] 26))
            have HNE := hide (show ¬ gx = gy from by have := BX8.out.lt; omega)
            have IX9 := hide (((IX8.out.more (P' := fun k => True ∧ ¬ k = gx ∧ ¬ k = V8.heap.size) (fun k hk h => ⟨h.1, h.2, Nat.ne_of_lt hk⟩)).keep ((Keeps.refl NoB V8).alloc (.cells #[.int .u8 0, .bool false, .slice none 0 0, .string { data := #[] }, .int .i64 0, .slice none 0 0, .slice none 0 0] 26))))
            have IY9 := hide (((IY8.out.more (P' := fun k => True ∧ ¬ k = gx ∧ ¬ k = V8.heap.size) (fun k hk h => ⟨h.1, h.2, Nat.ne_of_lt hk⟩)).keep ((Keeps.refl NoB V8).alloc (.cells #[.int .u8 0, .bool false, .slice none 0 0, .string { data := #[] }, .int .i64 0, .slice none 0 0, .slice none 0 0] 26))))
            clear HV8 BX8 IX8 IY8
            rw [hgy] at BY9 IX9 IY9 ⊢
            generalize V8.alloc (.cells #[.int .u8 0, .bool false, .slice none 0 0, .string { data := #[] }, .int .i64 0, .slice none 0 0, .slice none 0 0] 26) = V9 at *
            clear hgy
            have IXa := hide (IX9.out.more (P' := fun k => ¬ k = gx ∧ ¬ k = gy) (fun k _ h => ⟨h.2.1, h.2.2⟩)); have IYa := hide (IY9.out.more (P' := fun k => ¬ k = gx ∧ ¬ k = gy) (fun k _ h => ⟨h.2.1, h.2.2⟩))
            have z0 : V9.cell? ⟨gx, 0, none⟩ = some (.int .u8 0) := BX9.out.cell 0; have z1 : V9.cell? ⟨gx, 1, none⟩ = some (.bool false) := BX9.out.cell 1; have z2 : V9.cell? ⟨gx, 2, none⟩ = some (.slice none 0 0) := BX9.out.cell 2; have z3 : V9.cell? ⟨gx, 3, none⟩ = some (.string { data := #[] }) := BX9.out.cell 3; have z4 : V9.cell? ⟨gx, 4, none⟩ = some (.int .i64 0) := BX9.out.cell 4; have z5 : V9.cell? ⟨gx, 5, none⟩ = some (.slice none 0 0) := BX9.out.cell 5; have z6 : V9.cell? ⟨gx, 6, none⟩ = some (.slice none 0 0) := BX9.out.cell 6
            have f0 : V9.frozen? ⟨gx, 0, none⟩ = false := BX9.out.free 0; have f1 : V9.frozen? ⟨gx, 1, none⟩ = false := BX9.out.free 1; have f2 : V9.frozen? ⟨gx, 2, none⟩ = false := BX9.out.free 2; have f3 : V9.frozen? ⟨gx, 3, none⟩ = false := BX9.out.free 3; have f4 : V9.frozen? ⟨gx, 4, none⟩ = false := BX9.out.free 4; have f5 : V9.frozen? ⟨gx, 5, none⟩ = false := BX9.out.free 5; have f6 : V9.frozen? ⟨gx, 6, none⟩ = false := BX9.out.free 6
            refine order_one (i := 6) rfl (by kernel_rfl) (fun K hK => ?_)
            go_simp
            refine hK _ _ (fun h => by cases h) ?_
            clear hK
            try simp only [Act.put, List.setIfInBounds_toArray, List.set_cons_succ, List.set_cons_zero]
            have hs := Keeps.set7' (w := V9) (g := gx) (.int .u8 kdx) (.bool ngx) (.slice lax lnx lcx) (.string txx) (.int .i64 nmx) (.slice iax imx icx) (.slice tax tmx tcx)
            have BXb := hide (BX9.out.put7 (.int .u8 kdx) (.bool ngx) (.slice lax lnx lcx) (.string txx) (.int .i64 nmx) (.slice iax imx icx) (.slice tax tmx tcx)); have BYb := hide (BY9.out.keep hs (fun e => HNE.out e.symm)); have IXb := hide (IXa.out.far hs (fun k h => h.1)); have IYb := hide (IYa.out.far hs (fun k h => h.1)); have HKb := hide (HV9.out.set7 Lx.out (.int .u8 kdx) (.bool ngx) (.slice lax lnx lcx) (.string txx) (.int .i64 nmx) (.slice iax imx icx) (.slice tax tmx tcx))
            clear hs z0 z1 z2 z3 z4 z5 z6 f0 f1 f2 f3 f4 f5 f6 IXa IYa BX9 BY9 IX9 IY9 HV9
            generalize (((((((V9.setCell ⟨gx, 0, none⟩ (.int .u8 kdx)).setCell ⟨gx, 1, none⟩ (.bool ngx)).setCell ⟨gx, 2, none⟩ (.slice lax lnx lcx)).setCell ⟨gx, 3, none⟩ (.string txx)).setCell ⟨gx, 4, none⟩ (.int .i64 nmx)).setCell ⟨gx, 5, none⟩ (.slice iax imx icx)).setCell ⟨gx, 6, none⟩ (.slice tax tmx tcx)) = Wb at *
            have z0 : Wb.cell? ⟨gy, 0, none⟩ = some (.int .u8 0) := BYb.out.cell 0; have z1 : Wb.cell? ⟨gy, 1, none⟩ = some (.bool false) := BYb.out.cell 1; have z2 : Wb.cell? ⟨gy, 2, none⟩ = some (.slice none 0 0) := BYb.out.cell 2; have z3 : Wb.cell? ⟨gy, 3, none⟩ = some (.string { data := #[] }) := BYb.out.cell 3; have z4 : Wb.cell? ⟨gy, 4, none⟩ = some (.int .i64 0) := BYb.out.cell 4; have z5 : Wb.cell? ⟨gy, 5, none⟩ = some (.slice none 0 0) := BYb.out.cell 5; have z6 : Wb.cell? ⟨gy, 6, none⟩ = some (.slice none 0 0) := BYb.out.cell 6
            have f0 : Wb.frozen? ⟨gy, 0, none⟩ = false := BYb.out.free 0; have f1 : Wb.frozen? ⟨gy, 1, none⟩ = false := BYb.out.free 1; have f2 : Wb.frozen? ⟨gy, 2, none⟩ = false := BYb.out.free 2; have f3 : Wb.frozen? ⟨gy, 3, none⟩ = false := BYb.out.free 3; have f4 : Wb.frozen? ⟨gy, 4, none⟩ = false := BYb.out.free 4; have f5 : Wb.frozen? ⟨gy, 5, none⟩ = false := BYb.out.free 5; have f6 : Wb.frozen? ⟨gy, 6, none⟩ = false := BYb.out.free 6
            refine order_one (i := 7) rfl (by kernel_rfl) (fun K hK => ?_)
            go_simp
            refine hK _ _ (fun h => by cases h) ?_
            clear hK
            try simp only [Act.put, List.setIfInBounds_toArray, List.set_cons_succ, List.set_cons_zero]
            have hs := Keeps.set7' (w := Wb) (g := gy) (.int .u8 kdy) (.bool ngy) (.slice lay lny lcy) (.string txy) (.int .i64 nmy) (.slice iay imy icy) (.slice tay tmy tcy)
            have BXc := hide (BXb.out.keep hs HNE.out); have BYc := hide (BYb.out.put7 (.int .u8 kdy) (.bool ngy) (.slice lay lny lcy) (.string txy) (.int .i64 nmy) (.slice iay imy icy) (.slice tay tmy tcy)); have IXc := hide (IXb.out.far hs (fun k h => h.2)); have IYc := hide (IYb.out.far hs (fun k h => h.2)); have HKc := hide (HKb.out.set7 Ly.out (.int .u8 kdy) (.bool ngy) (.slice lay lny lcy) (.string txy) (.int .i64 nmy) (.slice iay imy icy) (.slice tay tmy tcy))
            clear hs z0 z1 z2 z3 z4 z5 z6 f0 f1 f2 f3 f4 f5 f6 BXb BYb IXb IYb HKb
            generalize (((((((Wb.setCell ⟨gy, 0, none⟩ (.int .u8 kdy)).setCell ⟨gy, 1, none⟩ (.bool ngy)).setCell ⟨gy, 2, none⟩ (.slice lay lny lcy)).setCell ⟨gy, 3, none⟩ (.string txy)).setCell ⟨gy, 4, none⟩ (.int .i64 nmy)).setCell ⟨gy, 5, none⟩ (.slice iay imy icy)).setCell ⟨gy, 6, none⟩ (.slice tay tmy tcy)) = Wc at *
            refine order_done (by kernel_rfl) ?_
            go_wp2_with fail
            go_meet
            exact ⟨gx, gy, ngx, lax, iax, tax, kdx, nmx, lnx, lcx, imx, icx, tmx, tcx, txx, ngy, lay, iay, tay, kdy, nmy, lny, lcy, imy, icy, tmy, tcy, txy, rfl, rfl, hide ⟨HWV.out.trans' HKc.out (fun _ _ h => h) (fun _ _ h => h), BXc.out, BYc.out, IXc.out, IYc.out⟩⟩
          · skip
            go_simp
            refine hK _ _ (fun _ hS => hS.alloc _) ?_
            clear hK
            try simp only [Act.put, List.setIfInBounds_toArray, List.set_cons_succ, List.set_cons_zero]
            obtain ⟨gy, hgy⟩ : ∃ gy, V7.heap.size = gy := ⟨_, rfl⟩
            have HV10 := hide (HV7.out.alloc (.cells #[.int .u8 0, .bool false, .slice none 0 0, .string { data := #[] }, .int .i64 0, .slice none 0 0, .slice none 0 0] 26))
            have Ly := hide (show W0.heap.size ≤ gy from hgy ▸ HV7.out.size)
            have BY10 := hide (Blk.new V7 26 #[.int .u8 0, .bool false, .slice none 0 0, .string { data := #[] }, .int .i64 0, .slice none 0 0, .slice none 0 0])
            have BX10 := hide (BX7.out.alloc (.cells #[.int .u8 0, .bool false, .slice none 0 0, .string { data := #[] }, .int .i64 0, .slice none 0 0, .slice none 0 0] 26))
            have HNE := hide (show ¬ gx = gy from by have := BX7.out.lt; omega)
            have IX10 := hide (((IX7.out.more (P' := fun k => True ∧ ¬ k = gx ∧ ¬ k = V7.heap.size) (fun k hk h => ⟨h.1, h.2, Nat.ne_of_lt hk⟩)).keep ((Keeps.refl NoB V7).alloc (.cells #[.int .u8 0, .bool false, .slice none 0 0, .string { data := #[] }, .int .i64 0, .slice none 0 0, .slice none 0 0] 26))))
            clear HV7 BX7 IX7
            rw [hgy] at BY10 IX10 ⊢
            generalize V7.alloc (.cells #[.int .u8 0, .bool false, .slice none 0 0, .string { data := #[] }, .int .i64 0, .slice none 0 0, .slice none 0 0] 26) = V10 at *
            clear hgy
            refine order_one (i := 3) rfl (by kernel_rfl) (fun K hK => ?_)
            go_simp
            refine (lent_any (HB0.out.keep HV10.out)).mono ?_
            rintro e V11 ⟨ngy, lay, iay, tay, kdy, nmy, lny, lcy, imy, icy, tmy, tcy, txy, rfl, ilent, hk⟩
            refine hK _ _ (fun _ hS => hS.trans' hk (fun _ _ => id) (fun _ _ => id)) ?_
            clear hK
            try simp only [Act.put, List.setIfInBounds_toArray, List.set_cons_succ, List.set_cons_zero]
            have HV11 := hide (HV10.out.trans' hk (fun _ _ h => h) (fun _ _ h => h))
            have IY11 := hide (ilent.more (P' := fun k => True ∧ ¬ k = gx ∧ ¬ k = gy) (fun k _ hB => by have lx := BX10.out.lt; have ly := BY10.out.lt; have hB' : V10.heap.size ≤ k := hB; exact ⟨trivial, by omega, by omega⟩))
            have BX11 := hide (BX10.out.keep hk id)
            have BY11 := hide (BY10.out.keep hk id)
            have IX11 := hide (IX10.out.keep hk)
            clear HV10 ilent hk BX10 BY10 IX10
            have IXa := hide (IX11.out.more (P' := fun k => ¬ k = gx ∧ ¬ k = gy) (fun k _ h => ⟨h.2.1, h.2.2⟩)); have IYa := hide (IY11.out.more (P' := fun k => ¬ k = gx ∧ ¬ k = gy) (fun k _ h => ⟨h.2.1, h.2.2⟩))
            have z0 : V11.cell? ⟨gx, 0, none⟩ = some (.int .u8 0) := BX11.out.cell 0; have z1 : V11.cell? ⟨gx, 1, none⟩ = some (.bool false) := BX11.out.cell 1; have z2 : V11.cell? ⟨gx, 2, none⟩ = some (.slice none 0 0) := BX11.out.cell 2; have z3 : V11.cell? ⟨gx, 3, none⟩ = some (.string { data := #[] }) := BX11.out.cell 3; have z4 : V11.cell? ⟨gx, 4, none⟩ = some (.int .i64 0) := BX11.out.cell 4; have z5 : V11.cell? ⟨gx, 5, none⟩ = some (.slice none 0 0) := BX11.out.cell 5; have z6 : V11.cell? ⟨gx, 6, none⟩ = some (.slice none 0 0) := BX11.out.cell 6
            have f0 : V11.frozen? ⟨gx, 0, none⟩ = false := BX11.out.free 0; have f1 : V11.frozen? ⟨gx, 1, none⟩ = false := BX11.out.free 1; have f2 : V11.frozen? ⟨gx, 2, none⟩ = false := BX11.out.free 2; have f3 : V11.frozen? ⟨gx, 3, none⟩ = false := BX11.out.free 3; have f4 : V11.frozen? ⟨gx, 4, none⟩ = false := BX11.out.free 4; have f5 : V11.frozen? ⟨gx, 5, none⟩ = false := BX11.out.free 5; have f6 : V11.frozen? ⟨gx, 6, none⟩ = false := BX11.out.free 6
            refine order_one (i := 6) rfl (by kernel_rfl) (fun K hK => ?_)
            go_simp
            refine hK _ _ (fun h => by cases h) ?_
            clear hK
            try simp only [Act.put, List.setIfInBounds_toArray, List.set_cons_succ, List.set_cons_zero]
            have hs := Keeps.set7' (w := V11) (g := gx) (.int .u8 kdx) (.bool ngx) (.slice lax lnx lcx) (.string txx) (.int .i64 nmx) (.slice iax imx icx) (.slice tax tmx tcx)
            have BXb := hide (BX11.out.put7 (.int .u8 kdx) (.bool ngx) (.slice lax lnx lcx) (.string txx) (.int .i64 nmx) (.slice iax imx icx) (.slice tax tmx tcx)); have BYb := hide (BY11.out.keep hs (fun e => HNE.out e.symm)); have IXb := hide (IXa.out.far hs (fun k h => h.1)); have IYb := hide (IYa.out.far hs (fun k h => h.1)); have HKb := hide (HV11.out.set7 Lx.out (.int .u8 kdx) (.bool ngx) (.slice lax lnx lcx) (.string txx) (.int .i64 nmx) (.slice iax imx icx) (.slice tax tmx tcx))
            clear hs z0 z1 z2 z3 z4 z5 z6 f0 f1 f2 f3 f4 f5 f6 IXa IYa BX11 BY11 IX11 IY11 HV11
            generalize (((((((V11.setCell ⟨gx, 0, none⟩ (.int .u8 kdx)).setCell ⟨gx, 1, none⟩ (.bool ngx)).setCell ⟨gx, 2, none⟩ (.slice lax lnx lcx)).setCell ⟨gx, 3, none⟩ (.string txx)).setCell ⟨gx, 4, none⟩ (.int .i64 nmx)).setCell ⟨gx, 5, none⟩ (.slice iax imx icx)).setCell ⟨gx, 6, none⟩ (.slice tax tmx tcx)) = Wb at *
            have z0 : Wb.cell? ⟨gy, 0, none⟩ = some (.int .u8 0) := BYb.out.cell 0; have z1 : Wb.cell? ⟨gy, 1, none⟩ = some (.bool false) := BYb.out.cell 1; have z2 : Wb.cell? ⟨gy, 2, none⟩ = some (.slice none 0 0) := BYb.out.cell 2; have z3 : Wb.cell? ⟨gy, 3, none⟩ = some (.string { data := #[] }) := BYb.out.cell 3; have z4 : Wb.cell? ⟨gy, 4, none⟩ = some (.int .i64 0) := BYb.out.cell 4; have z5 : Wb.cell? ⟨gy, 5, none⟩ = some (.slice none 0 0) := BYb.out.cell 5; have z6 : Wb.cell? ⟨gy, 6, none⟩ = some (.slice none 0 0) := BYb.out.cell 6
            have f0 : Wb.frozen? ⟨gy, 0, none⟩ = false := BYb.out.free 0; have f1 : Wb.frozen? ⟨gy, 1, none⟩ = false := BYb.out.free 1; have f2 : Wb.frozen? ⟨gy, 2, none⟩ = false := BYb.out.free 2; have f3 : Wb.frozen? ⟨gy, 3, none⟩ = false := BYb.out.free 3; have f4 : Wb.frozen? ⟨gy, 4, none⟩ = false := BYb.out.free 4; have f5 : Wb.frozen? ⟨gy, 5, none⟩ = false := BYb.out.free 5; have f6 : Wb.frozen? ⟨gy, 6, none⟩ = false := BYb.out.free 6
            refine order_one (i := 7) rfl (by kernel_rfl) (fun K hK => ?_)
            go_simp
            refine hK _ _ (fun h => by cases h) ?_
            clear hK
            try simp only [Act.put, List.setIfInBounds_toArray, List.set_cons_succ, List.set_cons_zero]
            have hs := Keeps.set7' (w := Wb) (g := gy) (.int .u8 kdy) (.bool ngy) (.slice lay lny lcy) (.string txy) (.int .i64 nmy) (.slice iay imy icy) (.slice tay tmy tcy)
            have BXc := hide (BXb.out.keep hs HNE.out); have BYc := hide (BYb.out.put7 (.int .u8 kdy) (.bool ngy) (.slice lay lny lcy) (.string txy) (.int .i64 nmy) (.slice iay imy icy) (.slice tay tmy tcy)); have IXc := hide (IXb.out.far hs (fun k h => h.2)); have IYc := hide (IYb.out.far hs (fun k h => h.2)); have HKc := hide (HKb.out.set7 Ly.out (.int .u8 kdy) (.bool ngy) (.slice lay lny lcy) (.string txy) (.int .i64 nmy) (.slice iay imy icy) (.slice tay tmy tcy))
            clear hs z0 z1 z2 z3 z4 z5 z6 f0 f1 f2 f3 f4 f5 f6 BXb BYb IXb IYb HKb
            generalize (((((((Wb.setCell ⟨gy, 0, none⟩ (.int .u8 kdy)).setCell ⟨gy, 1, none⟩ (.bool ngy)).setCell ⟨gy, 2, none⟩ (.slice lay lny lcy)).setCell ⟨gy, 3, none⟩ (.string txy)).setCell ⟨gy, 4, none⟩ (.int .i64 nmy)).setCell ⟨gy, 5, none⟩ (.slice iay imy icy)).setCell ⟨gy, 6, none⟩ (.slice tay tmy tcy)) = Wc at *
            refine order_done (by kernel_rfl) ?_
            go_wp2_with fail
            go_meet
            exact ⟨gx, gy, ngx, lax, iax, tax, kdx, nmx, lnx, lcx, imx, icx, tmx, tcx, txx, ngy, lay, iay, tay, kdy, nmy, lny, lcy, imy, icy, tmy, tcy, txy, rfl, rfl, hide ⟨HWV.out.trans' HKc.out (fun _ _ h => h) (fun _ _ h => h), BXc.out, BYc.out, IXc.out, IYc.out⟩⟩
        · skip
          go_simp
          refine hK _ _ (fun _ hS => hS.alloc _) ?_
          clear hK
          try simp only [Act.put, List.setIfInBounds_toArray, List.set_cons_succ, List.set_cons_zero]
          obtain ⟨gy, hgy⟩ : ∃ gy, V1.heap.size = gy := ⟨_, rfl⟩
          have HV12 := hide (HV1.out.alloc (.cells #[.int .u8 0, .bool false, .slice none 0 0, .string { data := #[] }, .int .i64 0, .slice none 0 0, .slice none 0 0] 26))
          have Ly := hide (show W0.heap.size ≤ gy from hgy ▸ HV1.out.size)
          have BY12 := hide (Blk.new V1 26 #[.int .u8 0, .bool false, .slice none 0 0, .string { data := #[] }, .int .i64 0, .slice none 0 0, .slice none 0 0])
          have IX12 := hide (((IX1.out.more (P' := fun k => True ∧ ¬ k = V1.heap.size) (fun k hk h => ⟨trivial, Nat.ne_of_lt hk⟩)).keep ((Keeps.refl NoB V1).alloc (.cells #[.int .u8 0, .bool false, .slice none 0 0, .string { data := #[] }, .int .i64 0, .slice none 0 0, .slice none 0 0] 26))))
          clear HV1 IX1
          rw [hgy] at BY12 IX12 ⊢
          generalize V1.alloc (.cells #[.int .u8 0, .bool false, .slice none 0 0, .string { data := #[] }, .int .i64 0, .slice none 0 0, .slice none 0 0] 26) = V12 at *
          clear hgy
          refine order_two (i := 3) (j := 4) rfl rfl (by kernel_rfl) (fun K hK => ?_) (fun K hK => ?_)
          · skip
            go_simp
            refine (lent_any (HB0.out.keep HV12.out)).mono ?_
            rintro e V13 ⟨ngy, lay, iay, tay, kdy, nmy, lny, lcy, imy, icy, tmy, tcy, txy, rfl, ilent, hk⟩
            refine hK _ _ (fun _ hS => hS.trans' hk (fun _ _ => id) (fun _ _ => id)) ?_
            clear hK
            try simp only [Act.put, List.setIfInBounds_toArray, List.set_cons_succ, List.set_cons_zero]
            have HV13 := hide (HV12.out.trans' hk (fun _ _ h => h) (fun _ _ h => h))
            have IY13 := hide (ilent.more (P' := fun k => True ∧ ¬ k = gy) (fun k _ hB => by have ly := BY12.out.lt; have hB' : V12.heap.size ≤ k := hB; exact ⟨trivial, by omega⟩))
            have BY13 := hide (BY12.out.keep hk id)
            have IX13 := hide (IX12.out.keep hk)
            clear HV12 ilent hk BY12 IX12
            refine order_one (i := 4) rfl (by kernel_rfl) (fun K hK => ?_)
            go_simp
            refine hK _ _ (fun _ hS => hS.alloc _) ?_
            clear hK
            try simp only [Act.put, List.setIfInBounds_toArray, List.set_cons_succ, List.set_cons_zero]
            obtain ⟨gx, hgx⟩ : ∃ gx, V13.heap.size = gx := ⟨_, rfl⟩
            have HV14 := hide (HV13.out.alloc (.cells #[.int .u8 0, .bool false, .slice none 0 0, .string { data := #[] }, .int .i64 0, .slice none 0 0, .slice none 0 0] 26))
            have Lx := hide (show W0.heap.size ≤ gx from hgx ▸ HV13.out.size)
            have BX14 := hide (Blk.new V13 26 #[.int .u8 0, .bool false, .slice none 0 0, .string { data := #[] }, .int .i64 0, .slice none 0 0, .slice none 0 0])
            have BY14 := hide (BY13.out.alloc (.cells #[.int .u8 0, .bool false, .slice none 0 0, .string { data := #[] }, .int .i64 0, .slice none 0 0, .slice none 0 0] 26))
            have HNE := hide (show ¬ gx = gy from by have := BY13.out.lt; omega)
            have IX14 := hide (((IX13.out.more (P' := fun k => True ∧ ¬ k = gy ∧ ¬ k = V13.heap.size) (fun k hk h => ⟨h.1, h.2, Nat.ne_of_lt hk⟩)).keep ((Keeps.refl NoB V13).alloc (.cells #[.int .u8 0, .bool false, .slice none 0 0, .string { data := #[] }, .int .i64 0, .slice none 0 0, .slice none 0 0] 26))))
            have IY14 := hide (((IY13.out.more (P' := fun k => True ∧ ¬ k = gy ∧ ¬ k = V13.heap.size) (fun k hk h => ⟨h.1, h.2, Nat.ne_of_lt hk⟩)).keep ((Keeps.refl NoB V13).alloc (.cells #[.int .u8 0, .bool false, .slice none 0 0, .string { data := #[] }, .int .i64 0, .slice none 0 0, .slice none 0 0] 26))))
            clear HV13 BY13 IX13 IY13
            rw [hgx] at BX14 IX14 IY14 ⊢
            generalize V13.alloc (.cells #[.int .u8 0, .bool false, .slice none 0 0, .string { data := #[] }, .int .i64 0, .slice none 0 0, .slice none 0 0] 26) = V14 at *
            clear hgx
            have IXa := hide (IX14.out.more (P' := fun k => ¬ k = gx ∧ ¬ k = gy) (fun k _ h => ⟨h.2.2, h.2.1⟩)); have IYa := hide (IY14.out.more (P' := fun k => ¬ k = gx ∧ ¬ k = gy) (fun k _ h => ⟨h.2.2, h.2.1⟩))
            have z0 : V14.cell? ⟨gx, 0, none⟩ = some (.int .u8 0) := BX14.out.cell 0; have z1 : V14.cell? ⟨gx, 1, none⟩ = some (.bool false) := BX14.out.cell 1; have z2 : V14.cell? ⟨gx, 2, none⟩ = some (.slice none 0 0) := BX14.out.cell 2; have z3 : V14.cell? ⟨gx, 3, none⟩ = some (.string { data := #[] }) := BX14.out.cell 3; have z4 : V14.cell? ⟨gx, 4, none⟩ = some (.int .i64 0) := BX14.out.cell 4; have z5 : V14.cell? ⟨gx, 5, none⟩ = some (.slice none 0 0) := BX14.out.cell 5; have z6 : V14.cell? ⟨gx, 6, none⟩ = some (.slice none 0 0) := BX14.out.cell 6
            have f0 : V14.frozen? ⟨gx, 0, none⟩ = false := BX14.out.free 0; have f1 : V14.frozen? ⟨gx, 1, none⟩ = false := BX14.out.free 1; have f2 : V14.frozen? ⟨gx, 2, none⟩ = false := BX14.out.free 2; have f3 : V14.frozen? ⟨gx, 3, none⟩ = false := BX14.out.free 3; have f4 : V14.frozen? ⟨gx, 4, none⟩ = false := BX14.out.free 4; have f5 : V14.frozen? ⟨gx, 5, none⟩ = false := BX14.out.free 5; have f6 : V14.frozen? ⟨gx, 6, none⟩ = false := BX14.out.free 6
            refine order_one (i := 6) rfl (by kernel_rfl) (fun K hK => ?_)
            go_simp
            refine hK _ _ (fun h => by cases h) ?_
            clear hK
            try simp only [Act.put, List.setIfInBounds_toArray, List.set_cons_succ, List.set_cons_zero]
            have hs := Keeps.set7' (w := V14) (g := gx) (.int .u8 kdx) (.bool ngx) (.slice lax lnx lcx) (.string txx) (.int .i64 nmx) (.slice iax imx icx) (.slice tax tmx tcx)
            have BXb := hide (BX14.out.put7 (.int .u8 kdx) (.bool ngx) (.slice lax lnx lcx) (.string txx) (.int .i64 nmx) (.slice iax imx icx) (.slice tax tmx tcx)); have BYb := hide (BY14.out.keep hs (fun e => HNE.out e.symm)); have IXb := hide (IXa.out.far hs (fun k h => h.1)); have IYb := hide (IYa.out.far hs (fun k h => h.1)); have HKb := hide (HV14.out.set7 Lx.out (.int .u8 kdx) (.bool ngx) (.slice lax lnx lcx) (.string txx) (.int .i64 nmx) (.slice iax imx icx) (.slice tax tmx tcx))
            clear hs z0 z1 z2 z3 z4 z5 z6 f0 f1 f2 f3 f4 f5 f6 IXa IYa BX14 BY14 IX14 IY14 HV14
            generalize (((((((V14.setCell ⟨gx, 0, none⟩ (.int .u8 kdx)).setCell ⟨gx, 1, none⟩ (.bool ngx)).setCell ⟨gx, 2, none⟩ (.slice lax lnx lcx)).setCell ⟨gx, 3, none⟩ (.string txx)).setCell ⟨gx, 4, none⟩ (.int .i64 nmx)).setCell ⟨gx, 5, none⟩ (.slice iax imx icx)).setCell ⟨gx, 6, none⟩ (.slice tax tmx tcx)) = Wb at *
            have z0 : Wb.cell? ⟨gy, 0, none⟩ = some (.int .u8 0) := BYb.out.cell 0; have z1 : Wb.cell? ⟨gy, 1, none⟩ = some (.bool false) := BYb.out.cell 1; have z2 : Wb.cell? ⟨gy, 2, none⟩ = some (.slice none 0 0) := BYb.out.cell 2; have z3 : Wb.cell? ⟨gy, 3, none⟩ = some (.string { data := #[] }) := BYb.out.cell 3; have z4 : Wb.cell? ⟨gy, 4, none⟩ = some (.int .i64 0) := BYb.out.cell 4; have z5 : Wb.cell? ⟨gy, 5, none⟩ = some (.slice none 0 0) := BYb.out.cell 5; have z6 : Wb.cell? ⟨gy, 6, none⟩ = some (.slice none 0 0) := BYb.out.cell 6
            have f0 : Wb.frozen? ⟨gy, 0, none⟩ = false := BYb.out.free 0; have f1 : Wb.frozen? ⟨gy, 1, none⟩ = false := BYb.out.free 1; have f2 : Wb.frozen? ⟨gy, 2, none⟩ = false := BYb.out.free 2; have f3 : Wb.frozen? ⟨gy, 3, none⟩ = false := BYb.out.free 3; have f4 : Wb.frozen? ⟨gy, 4, none⟩ = false := BYb.out.free 4; have f5 : Wb.frozen? ⟨gy, 5, none⟩ = false := BYb.out.free 5; have f6 : Wb.frozen? ⟨gy, 6, none⟩ = false := BYb.out.free 6
            refine order_one (i := 7) rfl (by kernel_rfl) (fun K hK => ?_)
            go_simp
            refine hK _ _ (fun h => by cases h) ?_
            clear hK
            try simp only [Act.put, List.setIfInBounds_toArray, List.set_cons_succ, List.set_cons_zero]
            have hs := Keeps.set7' (w := Wb) (g := gy) (.int .u8 kdy) (.bool ngy) (.slice lay lny lcy) (.string txy) (.int .i64 nmy) (.slice iay imy icy) (.slice tay tmy tcy)
            have BXc := hide (BXb.out.keep hs HNE.out); have BYc := hide (BYb.out.put7 (.int .u8 kdy) (.bool ngy) (.slice lay lny lcy) (.string txy) (.int .i64 nmy) (.slice iay imy icy) (.slice tay tmy tcy)); have IXc := hide (IXb.out.far hs (fun k h => h.2)); have IYc := hide (IYb.out.far hs (fun k h => h.2)); have HKc := hide (HKb.out.set7 Ly.out (.int .u8 kdy) (.bool ngy) (.slice lay lny lcy) (.string txy) (.int .i64 nmy) (.slice iay imy icy) (.slice tay tmy tcy))
            clear hs z0 z1 z2 z3 z4 z5 z6 f0 f1 f2 f3 f4 f5 f6 BXb BYb IXb IYb HKb
            generalize (((((((Wb.setCell ⟨gy, 0, none⟩ (.int .u8 kdy)).setCell ⟨gy, 1, none⟩ (.bool ngy)).setCell ⟨gy, 2, none⟩ (.slice lay lny lcy)).setCell ⟨gy, 3, none⟩ (.string txy)).setCell ⟨gy, 4, none⟩ (.int .i64 nmy)).setCell ⟨gy, 5, none⟩ (.slice iay imy icy)).setCell ⟨gy, 6, none⟩ (.slice tay tmy tcy)) = Wc at *
            refine order_done (by kernel_rfl) ?_
            go_wp2_with fail
            go_meet
            exact ⟨gx, gy, ngx, lax, iax, tax, kdx, nmx, lnx, lcx, imx, icx, tmx, tcx, txx, ngy, lay, iay, tay, kdy, nmy, lny, lcy, imy, icy, tmy, tcy, txy, rfl, rfl, hide ⟨HWV.out.trans' HKc.out (fun _ _ h => h) (fun _ _ h => h), BXc.out, BYc.out, IXc.out, IYc.out⟩⟩
          · skip
            go_simp
            refine hK _ _ (fun _ hS => hS.alloc _) ?_
            clear hK
            try simp only [Act.put, List.setIfInBounds_toArray, List.set_cons_succ, List.set_cons_zero]
            obtain ⟨gx, hgx⟩ : ∃ gx, V12.heap.size = gx := ⟨_, rfl⟩
            have HV15 := hide (HV12.out.alloc (.cells #[.int .u8 0, .bool false, .slice none 0 0, .string { data := #[] }, .int .i64 0, .slice none 0 0, .slice none 0 0] 26))
            have Lx := hide (show W0.heap.size ≤ gx from hgx ▸ HV12.out.size)
            have BX15 := hide (Blk.new V12 26 #[.int .u8 0, .bool false, .slice none 0 0, .string { data := #[] }, .int .i64 0, .slice none 0 0, .slice none 0 0])
            have BY15 := hide (BY12.out.alloc (.cells #[.int .u8 0, .bool false, .slice none 0 0, .string { data := #[] }, .int .i64 0, .slice none 0 0, .slice none 0 0] 26))
            have HNE := hide (show ¬ gx = gy from by have := BY12.out.lt; omega)
            have IX15 := hide (((IX12.out.more (P' := fun k => True ∧ ¬ k = gy ∧ ¬ k = V12.heap.size) (fun k hk h => ⟨h.1, h.2, Nat.ne_of_lt hk⟩)).keep ((Keeps.refl NoB V12).alloc (.cells #[.int .u8 0, .bool false, .slice none 0 0, .string { data := #[] }, .int .i64 0, .slice none 0 0, .slice none 0 0] 26))))
            clear HV12 BY12 IX12
            rw [hgx] at BX15 IX15 ⊢
            generalize V12.alloc (.cells #[.int .u8 0, .bool false, .slice none 0 0, .string { data := #[] }, .int .i64 0, .slice none 0 0, .slice none 0 0] 26) = V15 at *
            clear hgx
            refine order_one (i := 3) rfl (by kernel_rfl) (fun K hK => ?_)
            go_simp
            refine (lent_any (HB0.out.keep HV15.out)).mono ?_
            rintro e V16 ⟨ngy, lay, iay, tay, kdy, nmy, lny, lcy, imy, icy, tmy, tcy, txy, rfl, ilent, hk⟩
            refine hK _ _ (fun _ hS => hS.trans' hk (fun _ _ => id) (fun _ _ => id)) ?_
            clear hK
            try simp only [Act.put, List.setIfInBounds_toArray, List.set_cons_succ, List.set_cons_zero]
            have HV16 := hide (HV15.out.trans' hk (fun _ _ h => h) (fun _ _ h => h))
            have IY16 := hide (ilent.more (P' := fun k => True ∧ ¬ k = gy ∧ ¬ k = gx) (fun k _ hB => by have ly := BY15.out.lt; have lx := BX15.out.lt; have hB' : V15.heap.size ≤ k := hB; exact ⟨trivial, by omega, by omega⟩))
            have BX16 := hide (BX15.out.keep hk id)
            have BY16 := hide (BY15.out.keep hk id)
            have IX16 := hide (IX15.out.keep hk)
            clear HV15 ilent hk BX15 BY15 IX15
            have IXa := hide (IX16.out.more (P' := fun k => ¬ k = gx ∧ ¬ k = gy) (fun k _ h => ⟨h.2.2, h.2.1⟩)); have IYa := hide (IY16.out.more (P' := fun k => ¬ k = gx ∧ ¬ k = gy) (fun k _ h => ⟨h.2.2, h.2.1⟩))
            have z0 : V16.cell? ⟨gx, 0, none⟩ = some (.int .u8 0) := BX16.out.cell 0; have z1 : V16.cell? ⟨gx, 1, none⟩ = some (.bool false) := BX16.out.cell 1; have z2 : V16.cell? ⟨gx, 2, none⟩ = some (.slice none 0 0) := BX16.out.cell 2; have z3 : V16.cell? ⟨gx, 3, none⟩ = some (.string { data := #[] }) := BX16.out.cell 3; have z4 : V16.cell? ⟨gx, 4, none⟩ = some (.int .i64 0) := BX16.out.cell 4; have z5 : V16.cell? ⟨gx, 5, none⟩ = some (.slice none 0 0) := BX16.out.cell 5; have z6 : V16.cell? ⟨gx, 6, none⟩ = some (.slice none 0 0) := BX16.out.cell 6
            have f0 : V16.frozen? ⟨gx, 0, none⟩ = false := BX16.out.free 0; have f1 : V16.frozen? ⟨gx, 1, none⟩ = false := BX16.out.free 1; have f2 : V16.frozen? ⟨gx, 2, none⟩ = false := BX16.out.free 2; have f3 : V16.frozen? ⟨gx, 3, none⟩ = false := BX16.out.free 3; have f4 : V16.frozen? ⟨gx, 4, none⟩ = false := BX16.out.free 4; have f5 : V16.frozen? ⟨gx, 5, none⟩ = false := BX16.out.free 5; have f6 : V16.frozen? ⟨gx, 6, none⟩ = false := BX16.out.free 6
            refine order_one (i := 6) rfl (by kernel_rfl) (fun K hK => ?_)
            go_simp
            refine hK _ _ (fun h => by cases h) ?_
            clear hK
            try simp only [Act.put, List.setIfInBounds_toArray, List.set_cons_succ, List.set_cons_zero]
            have hs := Keeps.set7' (w := V16) (g := gx) (.int .u8 kdx) (.bool ngx) (.slice lax lnx lcx) (.string txx) (.int .i64 nmx) (.slice iax imx icx) (.slice tax tmx tcx)
            have BXb := hide (BX16.out.put7 (.int .u8 kdx) (.bool ngx) (.slice lax lnx lcx) (.string txx) (.int .i64 nmx) (.slice iax imx icx) (.slice tax tmx tcx)); have BYb := hide (BY16.out.keep hs (fun e => HNE.out e.symm)); have IXb := hide (IXa.out.far hs (fun k h => h.1)); have IYb := hide (IYa.out.far hs (fun k h => h.1)); have HKb := hide (HV16.out.set7 Lx.out (.int .u8 kdx) (.bool ngx) (.slice lax lnx lcx) (.string txx) (.int .i64 nmx) (.slice iax imx icx) (.slice tax tmx tcx))
            clear hs z0 z1 z2 z3 z4 z5 z6 f0 f1 f2 f3 f4 f5 f6 IXa IYa BX16 BY16 IX16 IY16 HV16
            generalize (((((((V16.setCell ⟨gx, 0, none⟩ (.int .u8 kdx)).setCell ⟨gx, 1, none⟩ (.bool ngx)).setCell ⟨gx, 2, none⟩ (.slice lax lnx lcx)).setCell ⟨gx, 3, none⟩ (.string txx)).setCell ⟨gx, 4, none⟩ (.int .i64 nmx)).setCell ⟨gx, 5, none⟩ (.slice iax imx icx)).setCell ⟨gx, 6, none⟩ (.slice tax tmx tcx)) = Wb at *
            have z0 : Wb.cell? ⟨gy, 0, none⟩ = some (.int .u8 0) := BYb.out.cell 0; have z1 : Wb.cell? ⟨gy, 1, none⟩ = some (.bool false) := BYb.out.cell 1; have z2 : Wb.cell? ⟨gy, 2, none⟩ = some (.slice none 0 0) := BYb.out.cell 2; have z3 : Wb.cell? ⟨gy, 3, none⟩ = some (.string { data := #[] }) := BYb.out.cell 3; have z4 : Wb.cell? ⟨gy, 4, none⟩ = some (.int .i64 0) := BYb.out.cell 4; have z5 : Wb.cell? ⟨gy, 5, none⟩ = some (.slice none 0 0) := BYb.out.cell 5; have z6 : Wb.cell? ⟨gy, 6, none⟩ = some (.slice none 0 0) := BYb.out.cell 6
            have f0 : Wb.frozen? ⟨gy, 0, none⟩ = false := BYb.out.free 0; have f1 : Wb.frozen? ⟨gy, 1, none⟩ = false := BYb.out.free 1; have f2 : Wb.frozen? ⟨gy, 2, none⟩ = false := BYb.out.free 2; have f3 : Wb.frozen? ⟨gy, 3, none⟩ = false := BYb.out.free 3; have f4 : Wb.frozen? ⟨gy, 4, none⟩ = false := BYb.out.free 4; have f5 : Wb.frozen? ⟨gy, 5, none⟩ = false := BYb.out.free 5; have f6 : Wb.frozen? ⟨gy, 6, none⟩ = false := BYb.out.free 6
            refine order_one (i := 7) rfl (by kernel_rfl) (fun K hK => ?_)
            go_simp
            refine hK _ _ (fun h => by cases h) ?_
            clear hK
            try simp only [Act.put, List.setIfInBounds_toArray, List.set_cons_succ, List.set_cons_zero]
            have hs := Keeps.set7' (w := Wb) (g := gy) (.int .u8 kdy) (.bool ngy) (.slice lay lny lcy) (.string txy) (.int .i64 nmy) (.slice iay imy icy) (.slice tay tmy tcy)
            have BXc := hide (BXb.out.keep hs HNE.out); have BYc := hide (BYb.out.put7 (.int .u8 kdy) (.bool ngy) (.slice lay lny lcy) (.string txy) (.int .i64 nmy) (.slice iay imy icy) (.slice tay tmy tcy)); have IXc := hide (IXb.out.far hs (fun k h => h.2)); have IYc := hide (IYb.out.far hs (fun k h => h.2)); have HKc := hide (HKb.out.set7 Ly.out (.int .u8 kdy) (.bool ngy) (.slice lay lny lcy) (.string txy) (.int .i64 nmy) (.slice iay imy icy) (.slice tay tmy tcy))
            clear hs z0 z1 z2 z3 z4 z5 z6 f0 f1 f2 f3 f4 f5 f6 BXb BYb IXb IYb HKb
            generalize (((((((Wb.setCell ⟨gy, 0, none⟩ (.int .u8 kdy)).setCell ⟨gy, 1, none⟩ (.bool ngy)).setCell ⟨gy, 2, none⟩ (.slice lay lny lcy)).setCell ⟨gy, 3, none⟩ (.string txy)).setCell ⟨gy, 4, none⟩ (.int .i64 nmy)).setCell ⟨gy, 5, none⟩ (.slice iay imy icy)).setCell ⟨gy, 6, none⟩ (.slice tay tmy tcy)) = Wc at *
            refine order_done (by kernel_rfl) ?_
            go_wp2_with fail
            go_meet
            exact ⟨gx, gy, ngx, lax, iax, tax, kdx, nmx, lnx, lcx, imx, icx, tmx, tcx, txx, ngy, lay, iay, tay, kdy, nmy, lny, lcy, imy, icy, tmy, tcy, txy, rfl, rfl, hide ⟨HWV.out.trans' HKc.out (fun _ _ h => h) (fun _ _ h => h), BXc.out, BYc.out, IXc.out, IYc.out⟩⟩
      · skip
        go_simp
        refine hK _ _ (fun _ hS => hS.alloc _) ?_
        clear hK
        try simp only [Act.put, List.setIfInBounds_toArray, List.set_cons_succ, List.set_cons_zero]
        obtain ⟨gx, hgx⟩ : ∃ gx, W0.heap.size = gx := ⟨_, rfl⟩
        have HV17 := hide (HK00.out.alloc (.cells #[.int .u8 0, .bool false, .slice none 0 0, .string { data := #[] }, .int .i64 0, .slice none 0 0, .slice none 0 0] 26))
        have Lx := hide (show W0.heap.size ≤ gx from hgx ▸ HK00.out.size)
        have BX17 := hide (Blk.new W0 26 #[.int .u8 0, .bool false, .slice none 0 0, .string { data := #[] }, .int .i64 0, .slice none 0 0, .slice none 0 0])
        rw [hgx] at BX17 ⊢
        generalize W0.alloc (.cells #[.int .u8 0, .bool false, .slice none 0 0, .string { data := #[] }, .int .i64 0, .slice none 0 0, .slice none 0 0] 26) = V17 at *
        clear hgx
        refine order_two (i := 1) (j := 5) rfl rfl (by kernel_rfl) (fun K hK => ?_) (fun K hK => ?_)
        · skip
          go_simp
          refine (lent_any (HA0.out.keep HV17.out)).mono ?_
          rintro e V18 ⟨ngx, lax, iax, tax, kdx, nmx, lnx, lcx, imx, icx, tmx, tcx, txx, rfl, ilent, hk⟩
          refine hK _ _ (fun _ hS => hS.trans' hk (fun _ _ => id) (fun _ _ => id)) ?_
          clear hK
          try simp only [Act.put, List.setIfInBounds_toArray, List.set_cons_succ, List.set_cons_zero]
          have HV18 := hide (HV17.out.trans' hk (fun _ _ h => h) (fun _ _ h => h))
          have IX18 := hide (ilent.more (P' := fun k => True ∧ ¬ k = gx) (fun k _ hB => by have lx := BX17.out.lt; have hB' : V17.heap.size ≤ k := hB; exact ⟨trivial, by omega⟩))
          have BX18 := hide (BX17.out.keep hk id)
          clear HV17 ilent hk BX17
          refine order_two (i := 3) (j := 5) rfl rfl (by kernel_rfl) (fun K hK => ?_) (fun K hK => ?_)
          · skip
            go_simp
            refine (lent_any (HB0.out.keep HV18.out)).mono ?_
            rintro e V19 ⟨ngy, lay, iay, tay, kdy, nmy, lny, lcy, imy, icy, tmy, tcy, txy, rfl, ilent, hk⟩
            refine hK _ _ (fun _ hS => hS.trans' hk (fun _ _ => id) (fun _ _ => id)) ?_
            clear hK
            try simp only [Act.put, List.setIfInBounds_toArray, List.set_cons_succ, List.set_cons_zero]
            have HV19 := hide (HV18.out.trans' hk (fun _ _ h => h) (fun _ _ h => h))
            have IY19 := hide (ilent.more (P' := fun k => True ∧ ¬ k = gx) (fun k _ hB => by have lx := BX18.out.lt; have hB' : V18.heap.size ≤ k := hB; exact ⟨trivial, by omega⟩))
            have BX19 := hide (BX18.out.keep hk id)
            have IX19 := hide (IX18.out.keep hk)
            clear HV18 ilent hk BX18 IX18
            refine order_one (i := 5) rfl (by kernel_rfl) (fun K hK => ?_)
            go_simp
            refine hK _ _ (fun _ hS => hS.alloc _) ?_
            clear hK
            try simp only [Act.put, List.setIfInBounds_toArray, List.set_cons_succ, List.set_cons_zero]
            obtain ⟨gy, hgy⟩ : ∃ gy, V19.heap.size = gy := ⟨_, rfl⟩
            have HV20 := hide (HV19.out.alloc (.cells #[.int .u8 0, .bool false, .slice none 0 0, .string { data := #[] }, .int .i64 0, .slice none 0 0, .slice none 0 0] 26))
            have Ly := hide (show W0.heap.size ≤ gy from hgy ▸ HV19.out.size)
            have BY20 := hide (Blk.new V19 26 #[.int .u8 0, .bool false, .slice none 0 0, .string { data := #[] }, .int .i64 0, .slice none 0 0, .slice none 0 0])
            have BX20 := hide (BX19.out.alloc (.cells #[.int .u8 0, .bool false, .slice none 0 0, .string { data := #[] }, .int .i64 0, .slice none 0 0, .slice none 0 0] 26))
            have HNE := hide (show ¬ gx = gy from by have := BX19.out.lt; omega)
            have IX20 := hide (((IX19.out.more (P' := fun k => True ∧ ¬ k = gx ∧ ¬ k = V19.heap.size) (fun k hk h => ⟨h.1, h.2, Nat.ne_of_lt hk⟩)).keep ((Keeps.refl NoB V19).alloc (.cells #[.int .u8 0, .bool false, .slice none 0 0, .string { data := #[] }, .int .i64 0, .slice none 0 0, .slice none 0 0] 26))))
            have IY20 := hide (((IY19.out.more (P' := fun k => True ∧ ¬ k = gx ∧ ¬ k = V19.heap.size) (fun k hk h => ⟨h.1, h.2, Nat.ne_of_lt hk⟩)).keep ((Keeps.refl NoB V19).alloc (.cells #[.int .u8 0, .bool false, .slice none 0 0, .string { data := #[] }, .int .i64 0, .slice none 0 0, .slice none 0 0] 26))))
            clear HV19 BX19 IX19 IY19
            rw [hgy] at BY20 IX20 IY20 ⊢
            generalize V19.alloc (.cells #[.int .u8 0, .bool false, .slice none 0 0, .string { data := #[] }, .int .i64 0, .slice none 0 0, .slice none 0 0] 26) = V20 at *
            clear hgy
            have IXa := hide (IX20.out.more (P' := fun k => ¬ k = gx ∧ ¬ k = gy) (fun k _ h => ⟨h.2.1, h.2.2⟩)); have IYa := hide (IY20.out.more (P' := fun k => ¬ k = gx ∧ ¬ k = gy) (fun k _ h => ⟨h.2.1, h.2.2⟩))
            have z0 : V20.cell? ⟨gx, 0, none⟩ = some (.int .u8 0) := BX20.out.cell 0; have z1 : V20.cell? ⟨gx, 1, none⟩ = some (.bool false) := BX20.out.cell 1; have z2 : V20.cell? ⟨gx, 2, none⟩ = some (.slice none 0 0) := BX20.out.cell 2; have z3 : V20.cell? ⟨gx, 3, none⟩ = some (.string { data := #[] }) := BX20.out.cell 3; have z4 : V20.cell? ⟨gx, 4, none⟩ = some (.int .i64 0) := BX20.out.cell 4; have z5 : V20.cell? ⟨gx, 5, none⟩ = some (.slice none 0 0) := BX20.out.cell 5; have z6 : V20.cell? ⟨gx, 6, none⟩ = some (.slice none 0 0) := BX20.out.cell 6
            have f0 : V20.frozen? ⟨gx, 0, none⟩ = false := BX20.out.free 0; have f1 : V20.frozen? ⟨gx, 1, none⟩ = false := BX20.out.free 1; have f2 : V20.frozen? ⟨gx, 2, none⟩ = false := BX20.out.free 2; have f3 : V20.frozen? ⟨gx, 3, none⟩ = false := BX20.out.free 3; have f4 : V20.frozen? ⟨gx, 4, none⟩ = false := BX20.out.free 4; have f5 : V20.frozen? ⟨gx, 5, none⟩ = false := BX20.out.free 5; have f6 : V20.frozen? ⟨gx, 6, none⟩ = false := BX20.out.free 6
            refine order_one (i := 6) rfl (by kernel_rfl) (fun K hK => ?_)
            go_simp
            refine hK _ _ (fun h => by cases h) ?_
            clear hK
            try simp only [Act.put, List.setIfInBounds_toArray, List.set_cons_succ, List.set_cons_zero]
            have hs := Keeps.set7' (w := V20) (g := gx) (.int .u8 kdx) (.bool ngx) (.slice lax lnx lcx) (.string txx) (.int .i64 nmx) (.slice iax imx icx) (.slice tax tmx tcx)
            have BXb := hide (BX20.out.put7 (.int .u8 kdx) (.bool ngx) (.slice lax lnx lcx) (.string txx) (.int .i64 nmx) (.slice iax imx icx) (.slice tax tmx tcx)); have BYb := hide (BY20.out.keep hs (fun e => HNE.out e.symm)); have IXb := hide (IXa.out.far hs (fun k h => h.1)); have IYb := hide (IYa.out.far hs (fun k h => h.1)); have HKb := hide (HV20.out.set7 Lx.out (.int .u8 kdx) (.bool ngx) (.slice lax lnx lcx) (.string txx) (.int .i64 nmx) (.slice iax imx icx) (.slice tax tmx tcx))
            clear hs z0 z1 z2 z3 z4 z5 z6 f0 f1 f2 f3 f4 f5 f6 IXa IYa BX20 BY20 IX20 IY20 HV20
            generalize (((((((V20.setCell ⟨gx, 0, none⟩ (.int .u8 kdx)).setCell ⟨gx, 1, none⟩ (.bool ngx)).setCell ⟨gx, 2, none⟩ (.slice lax lnx lcx)).setCell ⟨gx, 3, none⟩ (.string txx)).setCell ⟨gx, 4, none⟩ (.int .i64 nmx)).setCell ⟨gx, 5, none⟩ (.slice iax imx icx)).setCell ⟨gx, 6, none⟩ (.slice tax tmx tcx)) = Wb at *
            have z0 : Wb.cell? ⟨gy, 0, none⟩ = some (.int .u8 0) := BYb.out.cell 0; have z1 : Wb.cell? ⟨gy, 1, none⟩ = some (.bool false) := BYb.out.cell 1; have z2 : Wb.cell? ⟨gy, 2, none⟩ = some (.slice none 0 0) := BYb.out.cell 2; have z3 : Wb.cell? ⟨gy, 3, none⟩ = some (.string { data := #[] }) := BYb.out.cell 3; have z4 : Wb.cell? ⟨gy, 4, none⟩ = some (.int .i64 0) := BYb.out.cell 4; have z5 : Wb.cell? ⟨gy, 5, none⟩ = some (.slice none 0 0) := BYb.out.cell 5; have z6 : Wb.cell? ⟨gy, 6, none⟩ = some (.slice none 0 0) := BYb.out.cell 6
            have f0 : Wb.frozen? ⟨gy, 0, none⟩ = false := BYb.out.free 0; have f1 : Wb.frozen? ⟨gy, 1, none⟩ = false := BYb.out.free 1; have f2 : Wb.frozen? ⟨gy, 2, none⟩ = false := BYb.out.free 2; have f3 : Wb.frozen? ⟨gy, 3, none⟩ = false := BYb.out.free 3; have f4 : Wb.frozen? ⟨gy, 4, none⟩ = false := BYb.out.free 4; have f5 : Wb.frozen? ⟨gy, 5, none⟩ = false := BYb.out.free 5; have f6 : Wb.frozen? ⟨gy, 6, none⟩ = false := BYb.out.free 6
            refine order_one (i := 7) rfl (by kernel_rfl) (fun K hK => ?_)
            go_simp
            refine hK _ _ (fun h => by cases h) ?_
            clear hK
            try simp only [Act.put, List.setIfInBounds_toArray, List.set_cons_succ, List.set_cons_zero]
            have hs := Keeps.set7' (w := Wb) (g := gy) (.int .u8 kdy) (.bool ngy) (.slice lay lny lcy) (.string txy) (.int .i64 nmy) (.slice iay imy icy) (.slice tay tmy tcy)
            have BXc := hide (BXb.out.keep hs HNE.out); have BYc := hide (BYb.out.put7 (.int .u8 kdy) (.bool ngy) (.slice lay lny lcy) (.string txy) (.int .i64 nmy) (.slice iay imy icy) (.slice tay tmy tcy)); have IXc := hide (IXb.out.far hs (fun k h => h.2)); have IYc := hide (IYb.out.far hs (fun k h => h.2)); have HKc := hide (HKb.out.set7 Ly.out (.int .u8 kdy) (.bool ngy) (.slice lay lny lcy) (.string txy) (.int .i64 nmy) (.slice iay imy icy) (.slice tay tmy tcy))
            clear hs z0 z1 z2 z3 z4 z5 z6 f0 f1 f2 f3 f4 f5 f6 BXb BYb IXb IYb HKb
            generalize (((((((Wb.setCell ⟨gy, 0, none⟩ (.int .u8 kdy)).setCell ⟨gy, 1, none⟩ (.bool ngy)).setCell ⟨gy, 2, none⟩ (.slice lay lny lcy)).setCell ⟨gy, 3, none⟩ (.string txy)).setCell ⟨gy, 4, none⟩ (.int .i64 nmy)).setCell ⟨gy, 5, none⟩ (.slice iay imy icy)).setCell ⟨gy, 6, none⟩ (.slice tay tmy tcy)) = Wc at *
            refine order_done (by kernel_rfl) ?_
            go_wp2_with fail
            go_meet
            exact ⟨gx, gy, ngx, lax, iax, tax, kdx, nmx, lnx, lcx, imx, icx, tmx, tcx, txx, ngy, lay, iay, tay, kdy, nmy, lny, lcy, imy, icy, tmy, tcy, txy, rfl, rfl, hide ⟨HWV.out.trans' HKc.out (fun _ _ h => h) (fun _ _ h => h), BXc.out, BYc.out, IXc.out, IYc.out⟩⟩
          · skip
            go_simp
            refine hK _ _ (fun _ hS => hS.alloc _) ?_
            clear hK
            try simp only [Act.put, List.setIfInBounds_toArray, List.set_cons_succ, List.set_cons_zero]
            obtain ⟨gy, hgy⟩ : ∃ gy, V18.heap.size = gy := ⟨_, rfl⟩
            have HV21 := hide (HV18.out.alloc (.cells #[.int .u8 0, .bool false, .slice none 0 0, .string { data := #[] }, .int .i64 0, .slice none 0 0, .slice none 0 0] 26))
            have Ly := hide (show W0.heap.size ≤ gy from hgy ▸ HV18.out.size)
            have BY21 := hide (Blk.new V18 26 #[.int .u8 0, .bool false, .slice none 0 0, .string { data := #[] }, .int .i64 0, .slice none 0 0, .slice none 0 0])
            have BX21 := hide (BX18.out.alloc (.cells #[.int .u8 0, .bool false, .slice none 0 0, .string { data := #[] }, .int .i64 0, .slice none 0 0, .slice none 0 0] 26))
            have HNE := hide (show ¬ gx = gy from by have := BX18.out.lt; omega)
            have IX21 := hide (((IX18.out.more (P' := fun k => True ∧ ¬ k = gx ∧ ¬ k = V18.heap.size) (fun k hk h => ⟨h.1, h.2, Nat.ne_of_lt hk⟩)).keep ((Keeps.refl NoB V18).alloc (.cells #[.int .u8 0, .bool false, .slice none 0 0, .string { data := #[] }, .int .i64 0, .slice none 0 0, .slice none 0 0] 26))))
            clear HV18 BX18 IX18
            rw [hgy] at BY21 IX21 ⊢
            generalize V18.alloc (.cells #[.int .u8 0, .bool false, .slice none 0 0, .string { data := #[] }, .int .i64 0, .slice none 0 0, .slice none 0 0] 26) = V21 at *
            clear hgy
            refine order_one (i := 3) rfl (by kernel_rfl) (fun K hK => ?_)
            go_simp
            refine (lent_any (HB0.out.keep HV21.out)).mono ?_
            rintro e V22 ⟨ngy, lay, iay, tay, kdy, nmy, lny, lcy, imy, icy, tmy, tcy, txy, rfl, ilent, hk⟩
            refine hK _ _ (fun _ hS => hS.trans' hk (fun _ _ => id) (fun _ _ => id)) ?_
            clear hK
            try simp only [Act.put, List.setIfInBounds_toArray, List.set_cons_succ, List.set_cons_zero]
            have HV22 := hide (HV21.out.trans' hk (fun _ _ h => h) (fun _ _ h => h))
            have IY22 := hide (ilent.more (P' := fun k => True ∧ ¬ k = gx ∧ ¬ k = gy) (fun k _ hB => by have lx := BX21.out.lt; have ly := BY21.out.lt; have hB' : V21.heap.size ≤ k := hB; exact ⟨trivial, by omega, by omega⟩))
            have BX22 := hide (BX21.out.keep hk id)
            have BY22 := hide (BY21.out.keep hk id)
            have IX22 := hide (IX21.out.keep hk)
            clear HV21 ilent hk BX21 BY21 IX21
            have IXa := hide (IX22.out.more (P' := fun k => ¬ k = gx ∧ ¬ k = gy) (fun k _ h => ⟨h.2.1, h.2.2⟩)); have IYa := hide (IY22.out.more (P' := fun k => ¬ k = gx ∧ ¬ k = gy) (fun k _ h => ⟨h.2.1, h.2.2⟩))
            have z0 : V22.cell? ⟨gx, 0, none⟩ = some (.int .u8 0) := BX22.out.cell 0; have z1 : V22.cell? ⟨gx, 1, none⟩ = some (.bool false) := BX22.out.cell 1; have z2 : V22.cell? ⟨gx, 2, none⟩ = some (.slice none 0 0) := BX22.out.cell 2; have z3 : V22.cell? ⟨gx, 3, none⟩ = some (.string { data := #[] }) := BX22.out.cell 3; have z4 : V22.cell? ⟨gx, 4, none⟩ = some (.int .i64 0) := BX22.out.cell 4; have z5 : V22.cell? ⟨gx, 5, none⟩ = some (.slice none 0 0) := BX22.out.cell 5; have z6 : V22.cell? ⟨gx, 6, none⟩ = some (.slice none 0 0) := BX22.out.cell 6
            have f0 : V22.frozen? ⟨gx, 0, none⟩ = false := BX22.out.free 0; have f1 : V22.frozen? ⟨gx, 1, none⟩ = false := BX22.out.free 1; have f2 : V22.frozen? ⟨gx, 2, none⟩ = false := BX22.out.free 2; have f3 : V22.frozen? ⟨gx, 3, none⟩ = false := BX22.out.free 3; have f4 : V22.frozen? ⟨gx, 4, none⟩ = false := BX22.out.free 4; have f5 : V22.frozen? ⟨gx, 5, none⟩ = false := BX22.out.free 5; have f6 : V22.frozen? ⟨gx, 6, none⟩ = false := BX22.out.free 6
            refine order_one (i := 6) rfl (by kernel_rfl) (fun K hK => ?_)
            go_simp
            refine hK _ _ (fun h => by cases h) ?_
            clear hK
            try simp only [Act.put, List.setIfInBounds_toArray, List.set_cons_succ, List.set_cons_zero]
            have hs := Keeps.set7' (w := V22) (g := gx) (.int .u8 kdx) (.bool ngx) (.slice lax lnx lcx) (.string txx) (.int .i64 nmx) (.slice iax imx icx) (.slice tax tmx tcx)
            have BXb := hide (BX22.out.put7 (.int .u8 kdx) (.bool ngx) (.slice lax lnx lcx) (.string txx) (.int .i64 nmx) (.slice iax imx icx) (.slice tax tmx tcx)); have BYb := hide (BY22.out.keep hs (fun e => HNE.out e.symm)); have IXb := hide (IXa.out.far hs (fun k h => h.1)); have IYb := hide (IYa.out.far hs (fun k h => h.1)); have HKb := hide (HV22.out.set7 Lx.out (.int .u8 kdx) (.bool ngx) (.slice lax lnx lcx) (.string txx) (.int .i64 nmx) (.slice iax imx icx) (.slice tax tmx tcx))
            clear hs z0 z1 z2 z3 z4 z5 z6 f0 f1 f2 f3 f4 f5 f6 IXa IYa BX22 BY22 IX22 IY22 HV22
            generalize (((((((V22.setCell ⟨gx, 0, none⟩ (.int .u8 kdx)).setCell ⟨gx, 1, none⟩ (.bool ngx)).setCell ⟨gx, 2, none⟩ (.slice lax lnx lcx)).setCell ⟨gx, 3, none⟩ (.string txx)).setCell ⟨gx, 4, none⟩ (.int .i64 nmx)).setCell ⟨gx, 5, none⟩ (.slice iax imx icx)).setCell ⟨gx, 6, none⟩ (.slice tax tmx tcx)) = Wb at *
            have z0 : Wb.cell? ⟨gy, 0, none⟩ = some (.int .u8 0) := BYb.out.cell 0; have z1 : Wb.cell? ⟨gy, 1, none⟩ = some (.bool false) := BYb.out.cell 1; have z2 : Wb.cell? ⟨gy, 2, none⟩ = some (.slice none 0 0) := BYb.out.cell 2; have z3 : Wb.cell? ⟨gy, 3, none⟩ = some (.string { data := #[] }) := BYb.out.cell 3; have z4 : Wb.cell? ⟨gy, 4, none⟩ = some (.int .i64 0) := BYb.out.cell 4; have z5 : Wb.cell? ⟨gy, 5, none⟩ = some (.slice none 0 0) := BYb.out.cell 5; have z6 : Wb.cell? ⟨gy, 6, none⟩ = some (.slice none 0 0) := BYb.out.cell 6
            have f0 : Wb.frozen? ⟨gy, 0, none⟩ = false := BYb.out.free 0; have f1 : Wb.frozen? ⟨gy, 1, none⟩ = false := BYb.out.free 1; have f2 : Wb.frozen? ⟨gy, 2, none⟩ = false := BYb.out.free 2; have f3 : Wb.frozen? ⟨gy, 3, none⟩ = false := BYb.out.free 3; have f4 : Wb.frozen? ⟨gy, 4, none⟩ = false := BYb.out.free 4; have f5 : Wb.frozen? ⟨gy, 5, none⟩ = false := BYb.out.free 5; have f6 : Wb.frozen? ⟨gy, 6, none⟩ = false := BYb.out.free 6
            refine order_one (i := 7) rfl (by kernel_rfl) (fun K hK => ?_)
            go_simp
            refine hK _ _ (fun h => by cases h) ?_
            clear hK
            try simp only [Act.put, List.setIfInBounds_toArray, List.set_cons_succ, List.set_cons_zero]
            have hs := Keeps.set7' (w := Wb) (g := gy) (.int .u8 kdy) (.bool ngy) (.slice lay lny lcy) (.string txy) (.int .i64 nmy) (.slice iay imy icy) (.slice tay tmy tcy)
            have BXc := hide (BXb.out.keep hs HNE.out); have BYc := hide (BYb.out.put7 (.int .u8 kdy) (.bool ngy) (.slice lay lny lcy) (.string txy) (.int .i64 nmy) (.slice iay imy icy) (.slice tay tmy tcy)); have IXc := hide (IXb.out.far hs (fun k h => h.2)); have IYc := hide (IYb.out.far hs (fun k h => h.2)); have HKc := hide (HKb.out.set7 Ly.out (.int .u8 kdy) (.bool ngy) (.slice lay lny lcy) (.string txy) (.int .i64 nmy) (.slice iay imy icy) (.slice tay tmy tcy))
            clear hs z0 z1 z2 z3 z4 z5 z6 f0 f1 f2 f3 f4 f5 f6 BXb BYb IXb IYb HKb
            generalize (((((((Wb.setCell ⟨gy, 0, none⟩ (.int .u8 kdy)).setCell ⟨gy, 1, none⟩ (.bool ngy)).setCell ⟨gy, 2, none⟩ (.slice lay lny lcy)).setCell ⟨gy, 3, none⟩ (.string txy)).setCell ⟨gy, 4, none⟩ (.int .i64 nmy)).setCell ⟨gy, 5, none⟩ (.slice iay imy icy)).setCell ⟨gy, 6, none⟩ (.slice tay tmy tcy)) = Wc at *
            refine order_done (by kernel_rfl) ?_
            go_wp2_with fail
            go_meet
            exact ⟨gx, gy, ngx, lax, iax, tax, kdx, nmx, lnx, lcx, imx, icx, tmx, tcx, txx, ngy, lay, iay, tay, kdy, nmy, lny, lcy, imy, icy, tmy, tcy, txy, rfl, rfl, hide ⟨HWV.out.trans' HKc.out (fun _ _ h => h) (fun _ _ h => h), BXc.out, BYc.out, IXc.out, IYc.out⟩⟩
        · skip
          go_simp
          refine hK _ _ (fun _ hS => hS.alloc _) ?_
          clear hK
          try simp only [Act.put, List.setIfInBounds_toArray, List.set_cons_succ, List.set_cons_zero]
          obtain ⟨gy, hgy⟩ : ∃ gy, V17.heap.size = gy := ⟨_, rfl⟩
          have HV23 := hide (HV17.out.alloc (.cells #[.int .u8 0, .bool false, .slice none 0 0, .string { data := #[] }, .int .i64 0, .slice none 0 0, .slice none 0 0] 26))
          have Ly := hide (show W0.heap.size ≤ gy from hgy ▸ HV17.out.size)
          have BY23 := hide (Blk.new V17 26 #[.int .u8 0, .bool false, .slice none 0 0, .string { data := #[] }, .int .i64 0, .slice none 0 0, .slice none 0 0])
          have BX23 := hide (BX17.out.alloc (.cells #[.int .u8 0, .bool false, .slice none 0 0, .string { data := #[] }, .int .i64 0, .slice none 0 0, .slice none 0 0] 26))
          have HNE := hide (show ¬ gx = gy from by have := BX17.out.lt; omega)
          clear HV17 BX17
          rw [hgy] at BY23 ⊢
          generalize V17.alloc (.cells #[.int .u8 0, .bool false, .slice none 0 0, .string { data := #[] }, .int .i64 0, .slice none 0 0, .slice none 0 0] 26) = V23 at *
          clear hgy
          refine order_one (i := 1) rfl (by kernel_rfl) (fun K hK => ?_)
          go_simp
          refine (lent_any (HA0.out.keep HV23.out)).mono ?_
          rintro e V24 ⟨ngx, lax, iax, tax, kdx, nmx, lnx, lcx, imx, icx, tmx, tcx, txx, rfl, ilent, hk⟩
          refine hK _ _ (fun _ hS => hS.trans' hk (fun _ _ => id) (fun _ _ => id)) ?_
          clear hK
          try simp only [Act.put, List.setIfInBounds_toArray, List.set_cons_succ, List.set_cons_zero]
          have HV24 := hide (HV23.out.trans' hk (fun _ _ h => h) (fun _ _ h => h))
          have IX24 := hide (ilent.more (P' := fun k => True ∧ ¬ k = gx ∧ ¬ k = gy) (fun k _ hB => by have lx := BX23.out.lt; have ly := BY23.out.lt; have hB' : V23.heap.size ≤ k := hB; exact ⟨trivial, by omega, by omega⟩))
          have BX24 := hide (BX23.out.keep hk id)
          have BY24 := hide (BY23.out.keep hk id)
          clear HV23 ilent hk BX23 BY23
          refine order_one (i := 3) rfl (by kernel_rfl) (fun K hK => ?_)
          go_simp
          refine (lent_any (HB0.out.keep HV24.out)).mono ?_
          rintro e V25 ⟨ngy, lay, iay, tay, kdy, nmy, lny, lcy, imy, icy, tmy, tcy, txy, rfl, ilent, hk⟩
          refine hK _ _ (fun _ hS => hS.trans' hk (fun _ _ => id) (fun _ _ => id)) ?_
          clear hK
          try simp only [Act.put, List.setIfInBounds_toArray, List.set_cons_succ, List.set_cons_zero]
          have HV25 := hide (HV24.out.trans' hk (fun _ _ h => h) (fun _ _ h => h))
          have IY25 := hide (ilent.more (P' := fun k => True ∧ ¬ k = gx ∧ ¬ k = gy) (fun k _ hB => by have lx := BX24.out.lt; have ly := BY24.out.lt; have hB' : V24.heap.size ≤ k := hB; exact ⟨trivial, by omega, by omega⟩))
          have BX25 := hide (BX24.out.keep hk id)
          have BY25 := hide (BY24.out.keep hk id)
          have IX25 := hide (IX24.out.keep hk)
          clear HV24 ilent hk BX24 BY24 IX24
          have IXa := hide (IX25.out.more (P' := fun k => ¬ k = gx ∧ ¬ k = gy) (fun k _ h => ⟨h.2.1, h.2.2⟩)); have IYa := hide (IY25.out.more (P' := fun k => ¬ k = gx ∧ ¬ k = gy) (fun k _ h => ⟨h.2.1, h.2.2⟩))
          have z0 : V25.cell? ⟨gx, 0, none⟩ = some (.int .u8 0) := BX25.out.cell 0; have z1 : V25.cell? ⟨gx, 1, none⟩ = some (.bool false) := BX25.out.cell 1; have z2 : V25.cell? ⟨gx, 2, none⟩ = some (.slice none 0 0) := BX25.out.cell 2; have z3 : V25.cell? ⟨gx, 3, none⟩ = some (.string { data := #[] }) := BX25.out.cell 3; have z4 : V25.cell? ⟨gx, 4, none⟩ = some (.int .i64 0) := BX25.out.cell 4; have z5 : V25.cell? ⟨gx, 5, none⟩ = some (.slice none 0 0) := BX25.out.cell 5; have z6 : V25.cell? ⟨gx, 6, none⟩ = some (.slice none 0 0) := BX25.out.cell 6
          have f0 : V25.frozen? ⟨gx, 0, none⟩ = false := BX25.out.free 0; have f1 : V25.frozen? ⟨gx, 1, none⟩ = false := BX25.out.free 1; have f2 : V25.frozen? ⟨gx, 2, none⟩ = false := BX25.out.free 2; have f3 : V25.frozen? ⟨gx, 3, none⟩ = false := BX25.out.free 3; have f4 : V25.frozen? ⟨gx, 4, none⟩ = false := BX25.out.free 4; have f5 : V25.frozen? ⟨gx, 5, none⟩ = false := BX25.out.free 5; have f6 : V25.frozen? ⟨gx, 6, none⟩ = false := BX25.out.free 6
          refine order_one (i := 6) rfl (by kernel_rfl) (fun K hK => ?_)
          go_simp
          refine hK _ _ (fun h => by cases h) ?_
          clear hK
          try simp only [Act.put, List.setIfInBounds_toArray, List.set_cons_succ, List.set_cons_zero]
          have hs := Keeps.set7' (w := V25) (g := gx) (.int .u8 kdx) (.bool ngx) (.slice lax lnx lcx) (.string txx) (.int .i64 nmx) (.slice iax imx icx) (.slice tax tmx tcx)
          have BXb := hide (BX25.out.put7 (.int .u8 kdx) (.bool ngx) (.slice lax lnx lcx) (.string txx) (.int .i64 nmx) (.slice iax imx icx) (.slice tax tmx tcx)); have BYb := hide (BY25.out.keep hs (fun e => HNE.out e.symm)); have IXb := hide (IXa.out.far hs (fun k h => h.1)); have IYb := hide (IYa.out.far hs (fun k h => h.1)); have HKb := hide (HV25.out.set7 Lx.out (.int .u8 kdx) (.bool ngx) (.slice lax lnx lcx) (.string txx) (.int .i64 nmx) (.slice iax imx icx) (.slice tax tmx tcx))
          clear hs z0 z1 z2 z3 z4 z5 z6 f0 f1 f2 f3 f4 f5 f6 IXa IYa BX25 BY25 IX25 IY25 HV25
          generalize (((((((V25.setCell ⟨gx, 0, none⟩ (.int .u8 kdx)).setCell ⟨gx, 1, none⟩ (.bool ngx)).setCell ⟨gx, 2, none⟩ (.slice lax lnx lcx)).setCell ⟨gx, 3, none⟩ (.string txx)).setCell ⟨gx, 4, none⟩ (.int .i64 nmx)).setCell ⟨gx, 5, none⟩ (.slice iax imx icx)).setCell ⟨gx, 6, none⟩ (.slice tax tmx tcx)) = Wb at *
          have z0 : Wb.cell? ⟨gy, 0, none⟩ = some (.int .u8 0) := BYb.out.cell 0; have z1 : Wb.cell? ⟨gy, 1, none⟩ = some (.bool false) := BYb.out.cell 1; have z2 : Wb.cell? ⟨gy, 2, none⟩ = some (.slice none 0 0) := BYb.out.cell 2; have z3 : Wb.cell? ⟨gy, 3, none⟩ = some (.string { data := #[] }) := BYb.out.cell 3; have z4 : Wb.cell? ⟨gy, 4, none⟩ = some (.int .i64 0) := BYb.out.cell 4; have z5 : Wb.cell? ⟨gy, 5, none⟩ = some (.slice none 0 0) := BYb.out.cell 5; have z6 : Wb.cell? ⟨gy, 6, none⟩ = some (.slice none 0 0) := BYb.out.cell 6
          have f0 : Wb.frozen? ⟨gy, 0, none⟩ = false := BYb.out.free 0; have f1 : Wb.frozen? ⟨gy, 1, none⟩ = false := BYb.out.free 1; have f2 : Wb.frozen? ⟨gy, 2, none⟩ = false := BYb.out.free 2; have f3 : Wb.frozen? ⟨gy, 3, none⟩ = false := BYb.out.free 3; have f4 : Wb.frozen? ⟨gy, 4, none⟩ = false := BYb.out.free 4; have f5 : Wb.frozen? ⟨gy, 5, none⟩ = false := BYb.out.free 5; have f6 : Wb.frozen? ⟨gy, 6, none⟩ = false := BYb.out.free 6
          refine order_one (i := 7) rfl (by kernel_rfl) (fun K hK => ?_)
          go_simp
          refine hK _ _ (fun h => by cases h) ?_
          clear hK
          try simp only [Act.put, List.setIfInBounds_toArray, List.set_cons_succ, List.set_cons_zero]
          have hs := Keeps.set7' (w := Wb) (g := gy) (.int .u8 kdy) (.bool ngy) (.slice lay lny lcy) (.string txy) (.int .i64 nmy) (.slice iay imy icy) (.slice tay tmy tcy)
          have BXc := hide (BXb.out.keep hs HNE.out); have BYc := hide (BYb.out.put7 (.int .u8 kdy) (.bool ngy) (.slice lay lny lcy) (.string txy) (.int .i64 nmy) (.slice iay imy icy) (.slice tay tmy tcy)); have IXc := hide (IXb.out.far hs (fun k h => h.2)); have IYc := hide (IYb.out.far hs (fun k h => h.2)); have HKc := hide (HKb.out.set7 Ly.out (.int .u8 kdy) (.bool ngy) (.slice lay lny lcy) (.string txy) (.int .i64 nmy) (.slice iay imy icy) (.slice tay tmy tcy))
          clear hs z0 z1 z2 z3 z4 z5 z6 f0 f1 f2 f3 f4 f5 f6 BXb BYb IXb IYb HKb
          generalize (((((((Wb.setCell ⟨gy, 0, none⟩ (.int .u8 kdy)).setCell ⟨gy, 1, none⟩ (.bool ngy)).setCell ⟨gy, 2, none⟩ (.slice lay lny lcy)).setCell ⟨gy, 3, none⟩ (.string txy)).setCell ⟨gy, 4, none⟩ (.int .i64 nmy)).setCell ⟨gy, 5, none⟩ (.slice iay imy icy)).setCell ⟨gy, 6, none⟩ (.slice tay tmy tcy)) = Wc at *
          refine order_done (by kernel_rfl) ?_
          go_wp2_with fail
          go_meet
          exact ⟨gx, gy, ngx, lax, iax, tax, kdx, nmx, lnx, lcx, imx, icx, tmx, tcx, txx, ngy, lay, iay, tay, kdy, nmy, lny, lcy, imy, icy, tmy, tcy, txy, rfl, rfl, hide ⟨HWV.out.trans' HKc.out (fun _ _ h => h) (fun _ _ h => h), BXc.out, BYc.out, IXc.out, IYc.out⟩⟩
      · skip
        go_simp
        refine hK _ _ (fun _ hS => hS.alloc _) ?_
        clear hK
        try simp only [Act.put, List.setIfInBounds_toArray, List.set_cons_succ, List.set_cons_zero]
        obtain ⟨gy, hgy⟩ : ∃ gy, W0.heap.size = gy := ⟨_, rfl⟩
        have HV26 := hide (HK00.out.alloc (.cells #[.int .u8 0, .bool false, .slice none 0 0, .string { data := #[] }, .int .i64 0, .slice none 0 0, .slice none 0 0] 26))
        have Ly := hide (show W0.heap.size ≤ gy from hgy ▸ HK00.out.size)
        have BY26 := hide (Blk.new W0 26 #[.int .u8 0, .bool false, .slice none 0 0, .string { data := #[] }, .int .i64 0, .slice none 0 0, .slice none 0 0])
        rw [hgy] at BY26 ⊢
        generalize W0.alloc (.cells #[.int .u8 0, .bool false, .slice none 0 0, .string { data := #[] }, .int .i64 0, .slice none 0 0, .slice none 0 0] 26) = V26 at *
        clear hgy
        refine order_two (i := 1) (j := 4) rfl rfl (by kernel_rfl) (fun K hK => ?_) (fun K hK => ?_)
        · skip
          go_simp
          refine (lent_any (HA0.out.keep HV26.out)).mono ?_
          rintro e V27 ⟨ngx, lax, iax, tax, kdx, nmx, lnx, lcx, imx, icx, tmx, tcx, txx, rfl, ilent, hk⟩
          refine hK _ _ (fun _ hS => hS.trans' hk (fun _ _ => id) (fun _ _ => id)) ?_
          clear hK
          try simp only [Act.put, List.setIfInBounds_toArray, List.set_cons_succ, List.set_cons_zero]
          have HV27 := hide (HV26.out.trans' hk (fun _ _ h => h) (fun _ _ h => h))
          have IX27 := hide (ilent.more (P' := fun k => True ∧ ¬ k = gy) (fun k _ hB => by have ly := BY26.out.lt; have hB' : V26.heap.size ≤ k := hB; exact ⟨trivial, by omega⟩))
          have BY27 := hide (BY26.out.keep hk id)
          clear HV26 ilent hk BY26
          refine order_two (i := 3) (j := 4) rfl rfl (by kernel_rfl) (fun K hK => ?_) (fun K hK => ?_)
          · skip
            go_simp
            refine (lent_any (HB0.out.keep HV27.out)).mono ?_
            rintro e V28 ⟨ngy, lay, iay, tay, kdy, nmy, lny, lcy, imy, icy, tmy, tcy, txy, rfl, ilent, hk⟩
            refine hK _ _ (fun _ hS => hS.trans' hk (fun _ _ => id) (fun _ _ => id)) ?_
            clear hK
            try simp only [Act.put, List.setIfInBounds_toArray, List.set_cons_succ, List.set_cons_zero]
            have HV28 := hide (HV27.out.trans' hk (fun _ _ h => h) (fun _ _ h => h))
            have IY28 := hide (ilent.more (P' := fun k => True ∧ ¬ k = gy) (fun k _ hB => by have ly := BY27.out.lt; have hB' : V27.heap.size ≤ k := hB; exact ⟨trivial, by omega⟩))
            have BY28 := hide (BY27.out.keep hk id)
            have IX28 := hide (IX27.out.keep hk)
            clear HV27 ilent hk BY27 IX27
            refine order_one (i := 4) rfl (by kernel_rfl) (fun K hK => ?_)
            go_simp
            refine hK _ _ (fun _ hS => hS.alloc _) ?_
            clear hK
            try simp only [Act.put, List.setIfInBounds_toArray, List.set_cons_succ, List.set_cons_zero]
            obtain ⟨gx, hgx⟩ : ∃ gx, V28.heap.size = gx := ⟨_, rfl⟩
            have HV29 := hide (HV28.out.alloc (.cells #[.int .u8 0, .bool false, .slice none 0 0, .string { data := #[] }, .int .i64 0, .slice none 0 0, .slice none 0 0] 26))
            have Lx := hide (show W0.heap.size ≤ gx from hgx ▸ HV28.out.size)
            have BX29 := hide (Blk.new V28 26 #[.int .u8 0, .bool false, .slice none 0 0, .string { data := #[] }, .int .i64 0, .slice none 0 0, .slice none 0 0])
            have BY29 := hide (BY28.out.alloc (.cells #[.int .u8 0, .bool false, .slice none 0 0, .string { data := #[] }, .int .i64 0, .slice none 0 0, .slice none 0 0] 26))
            have HNE := hide (show ¬ gx = gy from by have := BY28.out.lt; omega)
            have IX29 := hide (((IX28.out.more (P' := fun k => True ∧ ¬ k = gy ∧ ¬ k = V28.heap.size) (fun k hk h => ⟨h.1, h.2, Nat.ne_of_lt hk⟩)).keep ((Keeps.refl NoB V28).alloc (.cells #[.int .u8 0, .bool false, .slice none 0 0, .string { data := #[] }, .int .i64 0, .slice none 0 0, .slice none 0 0] 26))))
            have IY29 := hide (((IY28.out.more (P' := fun k => True ∧ ¬ k = gy ∧ ¬ k = V28.heap.size) (fun k hk h => ⟨h.1, h.2, Nat.ne_of_lt hk⟩)).keep ((Keeps.refl NoB V28).alloc (.cells #[.int .u8 0, .bool false, .slice none 0 0, .string { data := #[] }, .int .i64 0, .slice none 0 0, .slice none 0 0] 26))))
            clear HV28 BY28 IX28 IY28
            rw [hgx] at BX29 IX29 IY29 ⊢
            generalize V28.alloc (.cells #[.int .u8 0, .bool false, .slice none 0 0, .string { data := #[] }, .int .i64 0, .slice none 0 0, .slice none 0 0] 26) = V29 at *
            clear hgx
            have IXa := hide (IX29.out.more (P' := fun k => ¬ k = gx ∧ ¬ k = gy) (fun k _ h => ⟨h.2.2, h.2.1⟩)); have IYa := hide (IY29.out.more (P' := fun k => ¬ k = gx ∧ ¬ k = gy) (fun k _ h => ⟨h.2.2, h.2.1⟩))
            have z0 : V29.cell? ⟨gx, 0, none⟩ = some (.int .u8 0) := BX29.out.cell 0; have z1 : V29.cell? ⟨gx, 1, none⟩ = some (.bool false) := BX29.out.cell 1; have z2 : V29.cell? ⟨gx, 2, none⟩ = some (.slice none 0 0) := BX29.out.cell 2; have z3 : V29.cell? ⟨gx, 3, none⟩ = some (.string { data := #[] }) := BX29.out.cell 3; have z4 : V29.cell? ⟨gx, 4, none⟩ = some (.int .i64 0) := BX29.out.cell 4; have z5 : V29.cell? ⟨gx, 5, none⟩ = some (.slice none 0 0) := BX29.out.cell 5; have z6 : V29.cell? ⟨gx, 6, none⟩ = some (.slice none 0 0) := BX29.out.cell 6
            have f0 : V29.frozen? ⟨gx, 0, none⟩ = false := BX29.out.free 0; have f1 : V29.frozen? ⟨gx, 1, none⟩ = false := BX29.out.free 1; have f2 : V29.frozen? ⟨gx, 2, none⟩ = false := BX29.out.free 2; have f3 : V29.frozen? ⟨gx, 3, none⟩ = false := BX29.out.free 3; have f4 : V29.frozen? ⟨gx, 4, none⟩ = false := BX29.out.free 4; have f5 : V29.frozen? ⟨gx, 5, none⟩ = false := BX29.out.free 5; have f6 : V29.frozen? ⟨gx, 6, none⟩ = false := BX29.out.free 6
            refine order_one (i := 6) rfl (by kernel_rfl) (fun K hK => ?_)
            go_simp
            refine hK _ _ (fun h => by cases h) ?_
            clear hK
            try simp only [Act.put, List.setIfInBounds_toArray, List.set_cons_succ, List.set_cons_zero]
            have hs := Keeps.set7' (w := V29) (g := gx) (.int .u8 kdx) (.bool ngx) (.slice lax lnx lcx) (.string txx) (.int .i64 nmx) (.slice iax imx icx) (.slice tax tmx tcx)
            have BXb := hide (BX29.out.put7 (.int .u8 kdx) (.bool ngx) (.slice lax lnx lcx) (.string txx) (.int .i64 nmx) (.slice iax imx icx) (.slice tax tmx tcx)); have BYb := hide (BY29.out.keep hs (fun e => HNE.out e.symm)); have IXb := hide (IXa.out.far hs (fun k h => h.1)); have IYb := hide (IYa.out.far hs (fun k h => h.1)); have HKb := hide (HV29.out.set7 Lx.out (.int .u8 kdx) (.bool ngx) (.slice lax lnx lcx) (.string txx) (.int .i64 nmx) (.slice iax imx icx) (.slice tax tmx tcx))
            clear hs z0 z1 z2 z3 z4 z5 z6 f0 f1 f2 f3 f4 f5 f6 IXa IYa BX29 BY29 IX29 IY29 HV29
            generalize (((((((V29.setCell ⟨gx, 0, none⟩ (.int .u8 kdx)).setCell ⟨gx, 1, none⟩ (.bool ngx)).setCell ⟨gx, 2, none⟩ (.slice lax lnx lcx)).setCell ⟨gx, 3, none⟩ (.string txx)).setCell ⟨gx, 4, none⟩ (.int .i64 nmx)).setCell ⟨gx, 5, none⟩ (.slice iax imx icx)).setCell ⟨gx, 6, none⟩ (.slice tax tmx tcx)) = Wb at *
            have z0 : Wb.cell? ⟨gy, 0, none⟩ = some (.int .u8 0) := BYb.out.cell 0; have z1 : Wb.cell? ⟨gy, 1, none⟩ = some (.bool false) := BYb.out.cell 1; have z2 : Wb.cell? ⟨gy, 2, none⟩ = some (.slice none 0 0) := BYb.out.cell 2; have z3 : Wb.cell? ⟨gy, 3, none⟩ = some (.string { data := #[] }) := BYb.out.cell 3; have z4 : Wb.cell? ⟨gy, 4, none⟩ = some (.int .i64 0) := BYb.out.cell 4; have z5 : Wb.cell? ⟨gy, 5, none⟩ = some (.slice none 0 0) := BYb.out.cell 5; have z6 : Wb.cell? ⟨gy, 6, none⟩ = some (.slice none 0 0) := BYb.out.cell 6
            have f0 : Wb.frozen? ⟨gy, 0, none⟩ = false := BYb.out.free 0; have f1 : Wb.frozen? ⟨gy, 1, none⟩ = false := BYb.out.free 1; have f2 : Wb.frozen? ⟨gy, 2, none⟩ = false := BYb.out.free 2; have f3 : Wb.frozen? ⟨gy, 3, none⟩ = false := BYb.out.free 3; have f4 : Wb.frozen? ⟨gy, 4, none⟩ = false := BYb.out.free 4; have f5 : Wb.frozen? ⟨gy, 5, none⟩ = false := BYb.out.free 5; have f6 : Wb.frozen? ⟨gy, 6, none⟩ = false := BYb.out.free 6
            refine order_one (i := 7) rfl (by kernel_rfl) (fun K hK => ?_)
            go_simp
            refine hK _ _ (fun h => by cases h) ?_
            clear hK
            try simp only [Act.put, List.setIfInBounds_toArray, List.set_cons_succ, List.set_cons_zero]
            have hs := Keeps.set7' (w := Wb) (g := gy) (.int .u8 kdy) (.bool ngy) (.slice lay lny lcy) (.string txy) (.int .i64 nmy) (.slice iay imy icy) (.slice tay tmy tcy)
            have BXc := hide (BXb.out.keep hs HNE.out); have BYc := hide (BYb.out.put7 (.int .u8 kdy) (.bool ngy) (.slice lay lny lcy) (.string txy) (.int .i64 nmy) (.slice iay imy icy) (.slice tay tmy tcy)); have IXc := hide (IXb.out.far hs (fun k h => h.2)); have IYc := hide (IYb.out.far hs (fun k h => h.2)); have HKc := hide (HKb.out.set7 Ly.out (.int .u8 kdy) (.bool ngy) (.slice lay lny lcy) (.string txy) (.int .i64 nmy) (.slice iay imy icy) (.slice tay tmy tcy))
            clear hs z0 z1 z2 z3 z4 z5 z6 f0 f1 f2 f3 f4 f5 f6 BXb BYb IXb IYb HKb
            generalize (((((((Wb.setCell ⟨gy, 0, none⟩ (.int .u8 kdy)).setCell ⟨gy, 1, none⟩ (.bool ngy)).setCell ⟨gy, 2, none⟩ (.slice lay lny lcy)).setCell ⟨gy, 3, none⟩ (.string txy)).setCell ⟨gy, 4, none⟩ (.int .i64 nmy)).setCell ⟨gy, 5, none⟩ (.slice iay imy icy)).setCell ⟨gy, 6, none⟩ (.slice tay tmy tcy)) = Wc at *
            refine order_done (by kernel_rfl) ?_
            go_wp2_with fail
            go_meet
            exact ⟨gx, gy, ngx, lax, iax, tax, kdx, nmx, lnx, lcx, imx, icx, tmx, tcx, txx, ngy, lay, iay, tay, kdy, nmy, lny, lcy, imy, icy, tmy, tcy, txy, rfl, rfl, hide ⟨HWV.out.trans' HKc.out (fun _ _ h => h) (fun _ _ h => h), BXc.out, BYc.out, IXc.out, IYc.out⟩⟩
          · skip
            go_simp
            refine hK _ _ (fun _ hS => hS.alloc _) ?_
            clear hK
            try simp only [Act.put, List.setIfInBounds_toArray, List.set_cons_succ, List.set_cons_zero]
            obtain ⟨gx, hgx⟩ : ∃ gx, V27.heap.size = gx := ⟨_, rfl⟩
            have HV30 := hide (HV27.out.alloc (.cells #[.int .u8 0, .bool false, .slice none 0 0, .string { data := #[] }, .int .i64 0, .slice none 0 0, .slice none 0 0] 26))
            have Lx := hide (show W0.heap.size ≤ gx from hgx ▸ HV27.out.size)
            have BX30 := hide (Blk.new V27 26 #[.int .u8 0, .bool false, .slice none 0 0, .string { data := #[] }, .int .i64 0, .slice none 0 0, .slice none 0 0])
            have BY30 := hide (BY27.out.alloc (.cells #[.int .u8 0, .bool false, .slice none 0 0, .string { data := #[] }, .int .i64 0, .slice none 0 0, .slice none 0 0] 26))
            have HNE := hide (show ¬ gx = gy from by have := BY27.out.lt; omega)
            have IX30 := hide (((IX27.out.more (P' := fun k => True ∧ ¬ k = gy ∧ ¬ k = V27.heap.size) (fun k hk h => ⟨h.1, h.2, Nat.ne_of_lt hk⟩)).keep ((Keeps.refl NoB V27).alloc (.cells #[.int .u8 0, .bool false, .slice none 0 0, .string { data := #[] }, .int .i64 0, .slice none 0 0, .slice none 0 0] 26))))
            clear HV27 BY27 IX27
            rw [hgx] at BX30 IX30 ⊢
            generalize V27.alloc (.cells #[.int .u8 0, .bool false, .slice none 0 0, .string { data := #[] }, .int .i64 0, .slice none 0 0, .slice none 0 0] 26) = V30 at *
            clear hgx
            refine order_one (i := 3) rfl (by kernel_rfl) (fun K hK => ?_)
            go_simp
            refine (lent_any (HB0.out.keep HV30.out)).mono ?_
            rintro e V31 ⟨ngy, lay, iay, tay, kdy, nmy, lny, lcy, imy, icy, tmy, tcy, txy, rfl, ilent, hk⟩
            refine hK _ _ (fun _ hS => hS.trans' hk (fun _ _ => id) (fun _ _ => id)) ?_
            clear hK
            try simp only [Act.put, List.setIfInBounds_toArray, List.set_cons_succ, List.set_cons_zero]
            have HV31 := hide (HV30.out.trans' hk (fun _ _ h => h) (fun _ _ h => h))
            have IY31 := hide (ilent.more (P' := fun k => True ∧ ¬ k = gy ∧ ¬ k = gx) (fun k _ hB => by have ly := BY30.out.lt; have lx := BX30.out.lt; have hB' : V30.heap.size ≤ k := hB; exact ⟨trivial, by omega, by omega⟩))
            have BX31 := hide (BX30.out.keep hk id)
            have BY31 := hide (BY30.out.keep hk id)
            have IX31 := hide (IX30.out.keep hk)
            clear HV30 ilent hk BX30 BY30 IX30
            have IXa := hide (IX31.out.more (P' := fun k => ¬ k = gx ∧ ¬ k = gy) (fun k _ h => ⟨h.2.2, h.2.1⟩)); have IYa := hide (IY31.out.more (P' := fun k => ¬ k = gx ∧ ¬ k = gy) (fun k _ h => ⟨h.2.2, h.2.1⟩))
            have z0 : V31.cell? ⟨gx, 0, none⟩ = some (.int .u8 0) := BX31.out.cell 0; have z1 : V31.cell? ⟨gx, 1, none⟩ = some (.bool false) := BX31.out.cell 1; have z2 : V31.cell? ⟨gx, 2, none⟩ = some (.slice none 0 0) := BX31.out.cell 2; have z3 : V31.cell? ⟨gx, 3, none⟩ = some (.string { data := #[] }) := BX31.out.cell 3; have z4 : V31.cell? ⟨gx, 4, none⟩ = some (.int .i64 0) := BX31.out.cell 4; have z5 : V31.cell? ⟨gx, 5, none⟩ = some (.slice none 0 0) := BX31.out.cell 5; have z6 : V31.cell? ⟨gx, 6, none⟩ = some (.slice none 0 0) := BX31.out.cell 6
            have f0 : V31.frozen? ⟨gx, 0, none⟩ = false := BX31.out.free 0; have f1 : V31.frozen? ⟨gx, 1, none⟩ = false := BX31.out.free 1; have f2 : V31.frozen? ⟨gx, 2, none⟩ = false := BX31.out.free 2; have f3 : V31.frozen? ⟨gx, 3, none⟩ = false := BX31.out.free 3; have f4 : V31.frozen? ⟨gx, 4, none⟩ = false := BX31.out.free 4; have f5 : V31.frozen? ⟨gx, 5, none⟩ = false := BX31.out.free 5; have f6 : V31.frozen? ⟨gx, 6, none⟩ = false := BX31.out.free 6
            refine order_one (i := 6) rfl (by kernel_rfl) (fun K hK => ?_)
            go_simp
            refine hK _ _ (fun h => by cases h) ?_
            clear hK
            try simp only [Act.put, List.setIfInBounds_toArray, List.set_cons_succ, List.set_cons_zero]
            have hs := Keeps.set7' (w := V31) (g := gx) (.int .u8 kdx) (.bool ngx) (.slice lax lnx lcx) (.string txx) (.int .i64 nmx) (.slice iax imx icx) (.slice tax tmx tcx)
            have BXb := hide (BX31.out.put7 (.int .u8 kdx) (.bool ngx) (.slice lax lnx lcx) (.string txx) (.int .i64 nmx) (.slice iax imx icx) (.slice tax tmx tcx)); have BYb := hide (BY31.out.keep hs (fun e => HNE.out e.symm)); have IXb := hide (IXa.out.far hs (fun k h => h.1)); have IYb := hide (IYa.out.far hs (fun k h => h.1)); have HKb := hide (HV31.out.set7 Lx.out (.int .u8 kdx) (.bool ngx) (.slice lax lnx lcx) (.string txx) (.int .i64 nmx) (.slice iax imx icx) (.slice tax tmx tcx))
            clear hs z0 z1 z2 z3 z4 z5 z6 f0 f1 f2 f3 f4 f5 f6 IXa IYa BX31 BY31 IX31 IY31 HV31
            generalize (((((((V31.setCell ⟨gx, 0, none⟩ (.int .u8 kdx)).setCell ⟨gx, 1, none⟩ (.bool ngx)).setCell ⟨gx, 2, none⟩ (.slice lax lnx lcx)).setCell ⟨gx, 3, none⟩ (.string txx)).setCell ⟨gx, 4, none⟩ (.int .i64 nmx)).setCell ⟨gx, 5, none⟩ (.slice iax imx icx)).setCell ⟨gx, 6, none⟩ (.slice tax tmx tcx)) = Wb at *
            have z0 : Wb.cell? ⟨gy, 0, none⟩ = some (.int .u8 0) := BYb.out.cell 0; have z1 : Wb.cell? ⟨gy, 1, none⟩ = some (.bool false) := BYb.out.cell 1; have z2 : Wb.cell? ⟨gy, 2, none⟩ = some (.slice none 0 0) := BYb.out.cell 2; have z3 : Wb.cell? ⟨gy, 3, none⟩ = some (.string { data := #[] }) := BYb.out.cell 3; have z4 : Wb.cell? ⟨gy, 4, none⟩ = some (.int .i64 0) := BYb.out.cell 4; have z5 : Wb.cell? ⟨gy, 5, none⟩ = some (.slice none 0 0) := BYb.out.cell 5; have z6 : Wb.cell? ⟨gy, 6, none⟩ = some (.slice none 0 0) := BYb.out.cell 6
            have f0 : Wb.frozen? ⟨gy, 0, none⟩ = false := BYb.out.free 0; have f1 : Wb.frozen? ⟨gy, 1, none⟩ = false := BYb.out.free 1; have f2 : Wb.frozen? ⟨gy, 2, none⟩ = false := BYb.out.free 2; have f3 : Wb.frozen? ⟨gy, 3, none⟩ = false := BYb.out.free 3; have f4 : Wb.frozen? ⟨gy, 4, none⟩ = false := BYb.out.free 4; have f5 : Wb.frozen? ⟨gy, 5, none⟩ = false := BYb.out.free 5; have f6 : Wb.frozen? ⟨gy, 6, none⟩ = false := BYb.out.free 6
            refine order_one (i := 7) rfl (by kernel_rfl) (fun K hK => ?_)
            go_simp
            refine hK _ _ (fun h => by cases h) ?_
            clear hK
            try simp only [Act.put, List.setIfInBounds_toArray, List.set_cons_succ, List.set_cons_zero]
            have hs := Keeps.set7' (w := Wb) (g := gy) (.int .u8 kdy) (.bool ngy) (.slice lay lny lcy) (.string txy) (.int .i64 nmy) (.slice iay imy icy) (.slice tay tmy tcy)
            have BXc := hide (BXb.out.keep hs HNE.out); have BYc := hide (BYb.out.put7 (.int .u8 kdy) (.bool ngy) (.slice lay lny lcy) (.string txy) (.int .i64 nmy) (.slice iay imy icy) (.slice tay tmy tcy)); have IXc := hide (IXb.out.far hs (fun k h => h.2)); have IYc := hide (IYb.out.far hs (fun k h => h.2)); have HKc := hide (HKb.out.set7 Ly.out (.int .u8 kdy) (.bool ngy) (.slice lay lny lcy) (.string txy) (.int .i64 nmy) (.slice iay imy icy) (.slice tay tmy tcy))
            clear hs z0 z1 z2 z3 z4 z5 z6 f0 f1 f2 f3 f4 f5 f6 BXb BYb IXb IYb HKb
            generalize (((((((Wb.setCell ⟨gy, 0, none⟩ (.int .u8 kdy)).setCell ⟨gy, 1, none⟩ (.bool ngy)).setCell ⟨gy, 2, none⟩ (.slice lay lny lcy)).setCell ⟨gy, 3, none⟩ (.string txy)).setCell ⟨gy, 4, none⟩ (.int .i64 nmy)).setCell ⟨gy, 5, none⟩ (.slice iay imy icy)).setCell ⟨gy, 6, none⟩ (.slice tay tmy tcy)) = Wc at *
            refine order_done (by kernel_rfl) ?_
            go_wp2_with fail
            go_meet
            exact ⟨gx, gy, ngx, lax, iax, tax, kdx, nmx, lnx, lcx, imx, icx, tmx, tcx, txx, ngy, lay, iay, tay, kdy, nmy, lny, lcy, imy, icy, tmy, tcy, txy, rfl, rfl, hide ⟨HWV.out.trans' HKc.out (fun _ _ h => h) (fun _ _ h => h), BXc.out, BYc.out, IXc.out, IYc.out⟩⟩
        · skip
          go_simp
          refine hK _ _ (fun _ hS => hS.alloc _) ?_
          clear hK
          try simp only [Act.put, List.setIfInBounds_toArray, List.set_cons_succ, List.set_cons_zero]
          obtain ⟨gx, hgx⟩ : ∃ gx, V26.heap.size = gx := ⟨_, rfl⟩
          have HV32 := hide (HV26.out.alloc (.cells #[.int .u8 0, .bool false, .slice none 0 0, .string { data := #[] }, .int .i64 0, .slice none 0 0, .slice none 0 0] 26))
          have Lx := hide (show W0.heap.size ≤ gx from hgx ▸ HV26.out.size)
          have BX32 := hide (Blk.new V26 26 #[.int .u8 0, .bool false, .slice none 0 0, .string { data := #[] }, .int .i64 0, .slice none 0 0, .slice none 0 0])
          have BY32 := hide (BY26.out.alloc (.cells #[.int .u8 0, .bool false, .slice none 0 0, .string { data := #[] }, .int .i64 0, .slice none 0 0, .slice none 0 0] 26))
          have HNE := hide (show ¬ gx = gy from by have := BY26.out.lt; omega)
          clear HV26 BY26
          rw [hgx] at BX32 ⊢
          generalize V26.alloc (.cells #[.int .u8 0, .bool false, .slice none 0 0, .string { data := #[] }, .int .i64 0, .slice none 0 0, .slice none 0 0] 26) = V32 at *
          clear hgx
          refine order_one (i := 1) rfl (by kernel_rfl) (fun K hK => ?_)
          go_simp
          refine (lent_any (HA0.out.keep HV32.out)).mono ?_
          rintro e V33 ⟨ngx, lax, iax, tax, kdx, nmx, lnx, lcx, imx, icx, tmx, tcx, txx, rfl, ilent, hk⟩
          refine hK _ _ (fun _ hS => hS.trans' hk (fun _ _ => id) (fun _ _ => id)) ?_
          clear hK
          try simp only [Act.put, List.setIfInBounds_toArray, List.set_cons_succ, List.set_cons_zero]
          have HV33 := hide (HV32.out.trans' hk (fun _ _ h => h) (fun _ _ h => h))
          have IX33 := hide (ilent.more (P' := fun k => True ∧ ¬ k = gy ∧ ¬ k = gx) (fun k _ hB => by have ly := BY32.out.lt; have lx := BX32.out.lt; have hB' : V32.heap.size ≤ k := hB; exact ⟨trivial, by omega, by omega⟩))
          have BX33 := hide (BX32.out.keep hk id)
          have BY33 := hide (BY32.out.keep hk id)
          clear HV32 ilent hk BX32 BY32
          refine order_one (i := 3) rfl (by kernel_rfl) (fun K hK => ?_)
          go_simp
          refine (lent_any (HB0.out.keep HV33.out)).mono ?_
          rintro e V34 ⟨ngy, lay, iay, tay, kdy, nmy, lny, lcy, imy, icy, tmy, tcy, txy, rfl, ilent, hk⟩
          refine hK _ _ (fun _ hS => hS.trans' hk (fun _ _ => id) (fun _ _ => id)) ?_
          clear hK
          try simp only [Act.put, List.setIfInBounds_toArray, List.set_cons_succ, List.set_cons_zero]
          have HV34 := hide (HV33.out.trans' hk (fun _ _ h => h) (fun _ _ h => h))
          have IY34 := hide (ilent.more (P' := fun k => True ∧ ¬ k = gy ∧ ¬ k = gx) (fun k _ hB => by have ly := BY33.out.lt; have lx := BX33.out.lt; have hB' : V33.heap.size ≤ k := hB; exact ⟨trivial, by omega, by omega⟩))
          have BX34 := hide (BX33.out.keep hk id)
          have BY34 := hide (BY33.out.keep hk id)
          have IX34 := hide (IX33.out.keep hk)
          clear HV33 ilent hk BX33 BY33 IX33
          have IXa := hide (IX34.out.more (P' := fun k => ¬ k = gx ∧ ¬ k = gy) (fun k _ h => ⟨h.2.2, h.2.1⟩)); have IYa := hide (IY34.out.more (P' := fun k => ¬ k = gx ∧ ¬ k = gy) (fun k _ h => ⟨h.2.2, h.2.1⟩))
          have z0 : V34.cell? ⟨gx, 0, none⟩ = some (.int .u8 0) := BX34.out.cell 0; have z1 : V34.cell? ⟨gx, 1, none⟩ = some (.bool false) := BX34.out.cell 1; have z2 : V34.cell? ⟨gx, 2, none⟩ = some (.slice none 0 0) := BX34.out.cell 2; have z3 : V34.cell? ⟨gx, 3, none⟩ = some (.string { data := #[] }) := BX34.out.cell 3; have z4 : V34.cell? ⟨gx, 4, none⟩ = some (.int .i64 0) := BX34.out.cell 4; have z5 : V34.cell? ⟨gx, 5, none⟩ = some (.slice none 0 0) := BX34.out.cell 5; have z6 : V34.cell? ⟨gx, 6, none⟩ = some (.slice none 0 0) := BX34.out.cell 6
          have f0 : V34.frozen? ⟨gx, 0, none⟩ = false := BX34.out.free 0; have f1 : V34.frozen? ⟨gx, 1, none⟩ = false := BX34.out.free 1; have f2 : V34.frozen? ⟨gx, 2, none⟩ = false := BX34.out.free 2; have f3 : V34.frozen? ⟨gx, 3, none⟩ = false := BX34.out.free 3; have f4 : V34.frozen? ⟨gx, 4, none⟩ = false := BX34.out.free 4; have f5 : V34.frozen? ⟨gx, 5, none⟩ = false := BX34.out.free 5; have f6 : V34.frozen? ⟨gx, 6, none⟩ = false := BX34.out.free 6
          refine order_one (i := 6) rfl (by kernel_rfl) (fun K hK => ?_)
          go_simp
          refine hK _ _ (fun h => by cases h) ?_
          clear hK
          try simp only [Act.put, List.setIfInBounds_toArray, List.set_cons_succ, List.set_cons_zero]
          have hs := Keeps.set7' (w := V34) (g := gx) (.int .u8 kdx) (.bool ngx) (.slice lax lnx lcx) (.string txx) (.int .i64 nmx) (.slice iax imx icx) (.slice tax tmx tcx)
          have BXb := hide (BX34.out.put7 (.int .u8 kdx) (.bool ngx) (.slice lax lnx lcx) (.string txx) (.int .i64 nmx) (.slice iax imx icx) (.slice tax tmx tcx)); have BYb := hide (BY34.out.keep hs (fun e => HNE.out e.symm)); have IXb := hide (IXa.out.far hs (fun k h => h.1)); have IYb := hide (IYa.out.far hs (fun k h => h.1)); have HKb := hide (HV34.out.set7 Lx.out (.int .u8 kdx) (.bool ngx) (.slice lax lnx lcx) (.string txx) (.int .i64 nmx) (.slice iax imx icx) (.slice tax tmx tcx))
          clear hs z0 z1 z2 z3 z4 z5 z6 f0 f1 f2 f3 f4 f5 f6 IXa IYa BX34 BY34 IX34 IY34 HV34
          generalize (((((((V34.setCell ⟨gx, 0, none⟩ (.int .u8 kdx)).setCell ⟨gx, 1, none⟩ (.bool ngx)).setCell ⟨gx, 2, none⟩ (.slice lax lnx lcx)).setCell ⟨gx, 3, none⟩ (.string txx)).setCell ⟨gx, 4, none⟩ (.int .i64 nmx)).setCell ⟨gx, 5, none⟩ (.slice iax imx icx)).setCell ⟨gx, 6, none⟩ (.slice tax tmx tcx)) = Wb at *
          have z0 : Wb.cell? ⟨gy, 0, none⟩ = some (.int .u8 0) := BYb.out.cell 0; have z1 : Wb.cell? ⟨gy, 1, none⟩ = some (.bool false) := BYb.out.cell 1; have z2 : Wb.cell? ⟨gy, 2, none⟩ = some (.slice none 0 0) := BYb.out.cell 2; have z3 : Wb.cell? ⟨gy, 3, none⟩ = some (.string { data := #[] }) := BYb.out.cell 3; have z4 : Wb.cell? ⟨gy, 4, none⟩ = some (.int .i64 0) := BYb.out.cell 4; have z5 : Wb.cell? ⟨gy, 5, none⟩ = some (.slice none 0 0) := BYb.out.cell 5; have z6 : Wb.cell? ⟨gy, 6, none⟩ = some (.slice none 0 0) := BYb.out.cell 6
          have f0 : Wb.frozen? ⟨gy, 0, none⟩ = false := BYb.out.free 0; have f1 : Wb.frozen? ⟨gy, 1, none⟩ = false := BYb.out.free 1; have f2 : Wb.frozen? ⟨gy, 2, none⟩ = false := BYb.out.free 2; have f3 : Wb.frozen? ⟨gy, 3, none⟩ = false := BYb.out.free 3; have f4 : Wb.frozen? ⟨gy, 4, none⟩ = false := BYb.out.free 4; have f5 : Wb.frozen? ⟨gy, 5, none⟩ = false := BYb.out.free 5; have f6 : Wb.frozen? ⟨gy, 6, none⟩ = false := BYb.out.free 6
          refine order_one (i := 7) rfl (by kernel_rfl) (fun K hK => ?_)
          go_simp
          refine hK _ _ (fun h => by cases h) ?_
          clear hK
          try simp only [Act.put, List.setIfInBounds_toArray, List.set_cons_succ, List.set_cons_zero]
          have hs := Keeps.set7' (w := Wb) (g := gy) (.int .u8 kdy) (.bool ngy) (.slice lay lny lcy) (.string txy) (.int .i64 nmy) (.slice iay imy icy) (.slice tay tmy tcy)
          have BXc := hide (BXb.out.keep hs HNE.out); have BYc := hide (BYb.out.put7 (.int .u8 kdy) (.bool ngy) (.slice lay lny lcy) (.string txy) (.int .i64 nmy) (.slice iay imy icy) (.slice tay tmy tcy)); have IXc := hide (IXb.out.far hs (fun k h => h.2)); have IYc := hide (IYb.out.far hs (fun k h => h.2)); have HKc := hide (HKb.out.set7 Ly.out (.int .u8 kdy) (.bool ngy) (.slice lay lny lcy) (.string txy) (.int .i64 nmy) (.slice iay imy icy) (.slice tay tmy tcy))
          clear hs z0 z1 z2 z3 z4 z5 z6 f0 f1 f2 f3 f4 f5 f6 BXb BYb IXb IYb HKb
          generalize (((((((Wb.setCell ⟨gy, 0, none⟩ (.int .u8 kdy)).setCell ⟨gy, 1, none⟩ (.bool ngy)).setCell ⟨gy, 2, none⟩ (.slice lay lny lcy)).setCell ⟨gy, 3, none⟩ (.string txy)).setCell ⟨gy, 4, none⟩ (.int .i64 nmy)).setCell ⟨gy, 5, none⟩ (.slice iay imy icy)).setCell ⟨gy, 6, none⟩ (.slice tay tmy tcy)) = Wc at *
          refine order_done (by kernel_rfl) ?_
          go_wp2_with fail
          go_meet
          exact ⟨gx, gy, ngx, lax, iax, tax, kdx, nmx, lnx, lcx, imx, icx, tmx, tcx, txx, ngy, lay, iay, tay, kdy, nmy, lny, lcy, imy, icy, tmy, tcy, txy, rfl, rfl, hide ⟨HWV.out.trans' HKc.out (fun _ _ h => h) (fun _ _ h => h), BXc.out, BYc.out, IXc.out, IYc.out⟩⟩
    case rest =>
      obtain ⟨gx, gy, ngx, lax, iax, tax, kdx, nmx, lnx, lcx, imx, icx, tmx, tcx, txx, ngy, lay, iay, tay, kdy, nmy, lny, lcy, imy, icy, tmy, tcy, txy, rfl, rfl, HM⟩ := hcut
      have HK3 := hide (HK2.out.trans' HM.out.keep (fun _ _ h => h) (fun _ _ h => h))
      have HA3 := hide (HA.out.keep HK3.out); have HB3 := hide (HB.out.keep HK3.out)
      have Ba3 := hide (Ba2.out.keep HM.out.keep id); have Bb3 := hide (Bb2.out.keep HM.out.keep id)
      have Bx3 := hide HM.out.bx; have By3 := hide HM.out.by'; have LX3 := hide HM.out.lx; have LY3 := hide HM.out.ly
      have HX3 := hide (HA3.out.lent LX3.out); have HY3 := hide (HB3.out.lent LY3.out)
      obtain ⟨k1, s1, l1, o1, h1⟩ := add_alike HX3.out HY3.out HA3.out.top HB3.out.top
      obtain ⟨k2, s2, l2, o2, h2⟩ := sub_alike HX3.out HY3.out HA3.out.top HB3.out.top
      obtain ⟨n3, o3, h3⟩ := int_alike HX3.out HA3.out.top
      obtain ⟨n4, h4⟩ := compare_alike HX3.out HY3.out HA3.out.top HB3.out.top
      have F1 := hide h1; have F2 := hide h2; have F3 := hide h3; have F4 := hide h4
      clear h1 h2 h3 h4 HM HA HB Ba2 Bb2 HK2
      have KC := hide (Keeps.refl NoB wc)
      have fx0 : wc.cell? ⟨gx, 0, none⟩ = some (.int .u8 kdx) := Bx3.out.cell 0; have fx1 : wc.cell? ⟨gx, 1, none⟩ = some (.bool ngx) := Bx3.out.cell 1; have fx2 : wc.cell? ⟨gx, 2, none⟩ = some (.slice lax lnx lcx) := Bx3.out.cell 2; have fx3 : wc.cell? ⟨gx, 3, none⟩ = some (.string txx) := Bx3.out.cell 3; have fx4 : wc.cell? ⟨gx, 4, none⟩ = some (.int .i64 nmx) := Bx3.out.cell 4; have fx5 : wc.cell? ⟨gx, 5, none⟩ = some (.slice iax imx icx) := Bx3.out.cell 5; have fx6 : wc.cell? ⟨gx, 6, none⟩ = some (.slice tax tmx tcx) := Bx3.out.cell 6
      have fy0 : wc.cell? ⟨gy, 0, none⟩ = some (.int .u8 kdy) := By3.out.cell 0; have fy1 : wc.cell? ⟨gy, 1, none⟩ = some (.bool ngy) := By3.out.cell 1; have fy2 : wc.cell? ⟨gy, 2, none⟩ = some (.slice lay lny lcy) := By3.out.cell 2; have fy3 : wc.cell? ⟨gy, 3, none⟩ = some (.string txy) := By3.out.cell 3; have fy4 : wc.cell? ⟨gy, 4, none⟩ = some (.int .i64 nmy) := By3.out.cell 4; have fy5 : wc.cell? ⟨gy, 5, none⟩ = some (.slice iay imy icy) := By3.out.cell 5; have fy6 : wc.cell? ⟨gy, 6, none⟩ = some (.slice tay tmy tcy) := By3.out.cell 6
      go_wp2_with first | (go_at_call 25; refine ((F1.out _ KC.out).1).mono ?_; rintro e w4 ⟨A5, n5, c5, rfl, i5, hk⟩; have hka := hk.alloc (.cells #[.int .u8 k1, .bool s1, .slice A5 n5 c5, .string { data := #[] }, .int .i64 0, .slice none 0 0, .slice none 0 0] 26); have KC4 := hide (KC.out.trans' hka (fun _ _ h => h) (fun _ _ h => h)); have HK4 := hide (HK3.out.trans' hka (fun _ _ h => h) (fun _ _ h => h)); have Ba4 := hide (Ba3.out.keep hka id); have Bb4 := hide (Bb3.out.keep hka id); have Bx4 := hide (Bx3.out.keep hka id); have By4 := hide (By3.out.keep hka id); have Bs4 := hide (Blk.new w4 26 #[.int .u8 k1, .bool s1, .slice A5 n5 c5, .string { data := #[] }, .int .i64 0, .slice none 0 0, .slice none 0 0]); have Is4 := hide (i5.keep ((Keeps.refl NoB w4).alloc (.cells #[.int .u8 k1, .bool s1, .slice A5 n5 c5, .string { data := #[] }, .int .i64 0, .slice none 0 0, .slice none 0 0] 26))); clear hk hka KC HK3 fx0 fx1 fx2 fx3 fx4 fx5 fx6 fy0 fy1 fy2 fy3 fy4 fy5 fy6 Ba3 Bb3 Bx3 By3 i5; have fa0 : (w4.alloc (.cells #[.int .u8 k1, .bool s1, .slice A5 n5 c5, .string { data := #[] }, .int .i64 0, .slice none 0 0, .slice none 0 0] 26)).cell? ⟨w.heap.size, 0, none⟩ = some (.int .u8 kd) := Ba4.out.cell 0; have fa1 : (w4.alloc (.cells #[.int .u8 k1, .bool s1, .slice A5 n5 c5, .string { data := #[] }, .int .i64 0, .slice none 0 0, .slice none 0 0] 26)).cell? ⟨w.heap.size, 1, none⟩ = some (.bool ng) := Ba4.out.cell 1; have fa2 : (w4.alloc (.cells #[.int .u8 k1, .bool s1, .slice A5 n5 c5, .string { data := #[] }, .int .i64 0, .slice none 0 0, .slice none 0 0] 26)).cell? ⟨w.heap.size, 2, none⟩ = some (.slice la ln lc) := Ba4.out.cell 2; have fa3 : (w4.alloc (.cells #[.int .u8 k1, .bool s1, .slice A5 n5 c5, .string { data := #[] }, .int .i64 0, .slice none 0 0, .slice none 0 0] 26)).cell? ⟨w.heap.size, 3, none⟩ = some (.string tx) := Ba4.out.cell 3; have fa4 : (w4.alloc (.cells #[.int .u8 k1, .bool s1, .slice A5 n5 c5, .string { data := #[] }, .int .i64 0, .slice none 0 0, .slice none 0 0] 26)).cell? ⟨w.heap.size, 4, none⟩ = some (.int .i64 nm) := Ba4.out.cell 4; have fa5 : (w4.alloc (.cells #[.int .u8 k1, .bool s1, .slice A5 n5 c5, .string { data := #[] }, .int .i64 0, .slice none 0 0, .slice none 0 0] 26)).cell? ⟨w.heap.size, 5, none⟩ = some (.slice ia im ic) := Ba4.out.cell 5; have fa6 : (w4.alloc (.cells #[.int .u8 k1, .bool s1, .slice A5 n5 c5, .string { data := #[] }, .int .i64 0, .slice none 0 0, .slice none 0 0] 26)).cell? ⟨w.heap.size, 6, none⟩ = some (.slice ta tm tc) := Ba4.out.cell 6; have fb0 : (w4.alloc (.cells #[.int .u8 k1, .bool s1, .slice A5 n5 c5, .string { data := #[] }, .int .i64 0, .slice none 0 0, .slice none 0 0] 26)).cell? ⟨w.heap.size + 1, 0, none⟩ = some (.int .u8 kd') := Bb4.out.cell 0; have fb1 : (w4.alloc (.cells #[.int .u8 k1, .bool s1, .slice A5 n5 c5, .string { data := #[] }, .int .i64 0, .slice none 0 0, .slice none 0 0] 26)).cell? ⟨w.heap.size + 1, 1, none⟩ = some (.bool ng') := Bb4.out.cell 1; have fb2 : (w4.alloc (.cells #[.int .u8 k1, .bool s1, .slice A5 n5 c5, .string { data := #[] }, .int .i64 0, .slice none 0 0, .slice none 0 0] 26)).cell? ⟨w.heap.size + 1, 2, none⟩ = some (.slice la' ln' lc') := Bb4.out.cell 2; have fb3 : (w4.alloc (.cells #[.int .u8 k1, .bool s1, .slice A5 n5 c5, .string { data := #[] }, .int .i64 0, .slice none 0 0, .slice none 0 0] 26)).cell? ⟨w.heap.size + 1, 3, none⟩ = some (.string tx') := Bb4.out.cell 3; have fb4 : (w4.alloc (.cells #[.int .u8 k1, .bool s1, .slice A5 n5 c5, .string { data := #[] }, .int .i64 0, .slice none 0 0, .slice none 0 0] 26)).cell? ⟨w.heap.size + 1, 4, none⟩ = some (.int .i64 nm') := Bb4.out.cell 4; have fb5 : (w4.alloc (.cells #[.int .u8 k1, .bool s1, .slice A5 n5 c5, .string { data := #[] }, .int .i64 0, .slice none 0 0, .slice none 0 0] 26)).cell? ⟨w.heap.size + 1, 5, none⟩ = some (.slice ia' im' ic') := Bb4.out.cell 5; have fb6 : (w4.alloc (.cells #[.int .u8 k1, .bool s1, .slice A5 n5 c5, .string { data := #[] }, .int .i64 0, .slice none 0 0, .slice none 0 0] 26)).cell? ⟨w.heap.size + 1, 6, none⟩ = some (.slice ta' tm' tc') := Bb4.out.cell 6) | (go_at_call 29; refine ((F1.out _ KC4.out).2).mono ?_; rintro e w5 ⟨A6, n6, c6, rfl, i6, hk⟩; have hka := hk.alloc (.cells #[.int .u8 k1, .bool s1, .slice A6 n6 c6, .string { data := #[] }, .int .i64 0, .slice none 0 0, .slice none 0 0] 26); have KC5 := hide (KC4.out.trans' hka (fun _ _ h => h) (fun _ _ h => h)); have HK5 := hide (HK4.out.trans' hka (fun _ _ h => h) (fun _ _ h => h)); have Ba5 := hide (Ba4.out.keep hka id); have Bb5 := hide (Bb4.out.keep hka id); have Bx5 := hide (Bx4.out.keep hka id); have By5 := hide (By4.out.keep hka id); have Bs5 := hide (Bs4.out.keep hka id); have Is5 := hide (Is4.out.keep hka); have Bt5 := hide (Blk.new w5 26 #[.int .u8 k1, .bool s1, .slice A6 n6 c6, .string { data := #[] }, .int .i64 0, .slice none 0 0, .slice none 0 0]); have It5 := hide (i6.keep ((Keeps.refl NoB w5).alloc (.cells #[.int .u8 k1, .bool s1, .slice A6 n6 c6, .string { data := #[] }, .int .i64 0, .slice none 0 0, .slice none 0 0] 26))); clear hk hka KC4 HK4 fa0 fa1 fa2 fa3 fa4 fa5 fa6 fb0 fb1 fb2 fb3 fb4 fb5 fb6 Ba4 Bb4 Bx4 By4 Bs4 Is4 i6; have fx0 : (w5.alloc (.cells #[.int .u8 k1, .bool s1, .slice A6 n6 c6, .string { data := #[] }, .int .i64 0, .slice none 0 0, .slice none 0 0] 26)).cell? ⟨gx, 0, none⟩ = some (.int .u8 kdx) := Bx5.out.cell 0; have fx1 : (w5.alloc (.cells #[.int .u8 k1, .bool s1, .slice A6 n6 c6, .string { data := #[] }, .int .i64 0, .slice none 0 0, .slice none 0 0] 26)).cell? ⟨gx, 1, none⟩ = some (.bool ngx) := Bx5.out.cell 1; have fx2 : (w5.alloc (.cells #[.int .u8 k1, .bool s1, .slice A6 n6 c6, .string { data := #[] }, .int .i64 0, .slice none 0 0, .slice none 0 0] 26)).cell? ⟨gx, 2, none⟩ = some (.slice lax lnx lcx) := Bx5.out.cell 2; have fx3 : (w5.alloc (.cells #[.int .u8 k1, .bool s1, .slice A6 n6 c6, .string { data := #[] }, .int .i64 0, .slice none 0 0, .slice none 0 0] 26)).cell? ⟨gx, 3, none⟩ = some (.string txx) := Bx5.out.cell 3; have fx4 : (w5.alloc (.cells #[.int .u8 k1, .bool s1, .slice A6 n6 c6, .string { data := #[] }, .int .i64 0, .slice none 0 0, .slice none 0 0] 26)).cell? ⟨gx, 4, none⟩ = some (.int .i64 nmx) := Bx5.out.cell 4; have fx5 : (w5.alloc (.cells #[.int .u8 k1, .bool s1, .slice A6 n6 c6, .string { data := #[] }, .int .i64 0, .slice none 0 0, .slice none 0 0] 26)).cell? ⟨gx, 5, none⟩ = some (.slice iax imx icx) := Bx5.out.cell 5; have fx6 : (w5.alloc (.cells #[.int .u8 k1, .bool s1, .slice A6 n6 c6, .string { data := #[] }, .int .i64 0, .slice none 0 0, .slice none 0 0] 26)).cell? ⟨gx, 6, none⟩ = some (.slice tax tmx tcx) := Bx5.out.cell 6; have fy0 : (w5.alloc (.cells #[.int .u8 k1, .bool s1, .slice A6 n6 c6, .string { data := #[] }, .int .i64 0, .slice none 0 0, .slice none 0 0] 26)).cell? ⟨gy, 0, none⟩ = some (.int .u8 kdy) := By5.out.cell 0; have fy1 : (w5.alloc (.cells #[.int .u8 k1, .bool s1, .slice A6 n6 c6, .string { data := #[] }, .int .i64 0, .slice none 0 0, .slice none 0 0] 26)).cell? ⟨gy, 1, none⟩ = some (.bool ngy) := By5.out.cell 1; have fy2 : (w5.alloc (.cells #[.int .u8 k1, .bool s1, .slice A6 n6 c6, .string { data := #[] }, .int .i64 0, .slice none 0 0, .slice none 0 0] 26)).cell? ⟨gy, 2, none⟩ = some (.slice lay lny lcy) := By5.out.cell 2; have fy3 : (w5.alloc (.cells #[.int .u8 k1, .bool s1, .slice A6 n6 c6, .string { data := #[] }, .int .i64 0, .slice none 0 0, .slice none 0 0] 26)).cell? ⟨gy, 3, none⟩ = some (.string txy) := By5.out.cell 3; have fy4 : (w5.alloc (.cells #[.int .u8 k1, .bool s1, .slice A6 n6 c6, .string { data := #[] }, .int .i64 0, .slice none 0 0, .slice none 0 0] 26)).cell? ⟨gy, 4, none⟩ = some (.int .i64 nmy) := By5.out.cell 4; have fy5 : (w5.alloc (.cells #[.int .u8 k1, .bool s1, .slice A6 n6 c6, .string { data := #[] }, .int .i64 0, .slice none 0 0, .slice none 0 0] 26)).cell? ⟨gy, 5, none⟩ = some (.slice iay imy icy) := By5.out.cell 5; have fy6 : (w5.alloc (.cells #[.int .u8 k1, .bool s1, .slice A6 n6 c6, .string { data := #[] }, .int .i64 0, .slice none 0 0, .slice none 0 0] 26)).cell? ⟨gy, 6, none⟩ = some (.slice tay tmy tcy) := By5.out.cell 6) | (go_at_call 27; refine ((F2.out _ KC5.out).1).mono ?_; rintro e w6 ⟨A7, n7, c7, rfl, i7, hk⟩; have hka := hk.alloc (.cells #[.int .u8 k2, .bool s2, .slice A7 n7 c7, .string { data := #[] }, .int .i64 0, .slice none 0 0, .slice none 0 0] 26); have KC6 := hide (KC5.out.trans' hka (fun _ _ h => h) (fun _ _ h => h)); have HK6 := hide (HK5.out.trans' hka (fun _ _ h => h) (fun _ _ h => h)); have Ba6 := hide (Ba5.out.keep hka id); have Bb6 := hide (Bb5.out.keep hka id); have Bx6 := hide (Bx5.out.keep hka id); have By6 := hide (By5.out.keep hka id); have Bs6 := hide (Bs5.out.keep hka id); have Bt6 := hide (Bt5.out.keep hka id); have Is6 := hide (Is5.out.keep hka); have It6 := hide (It5.out.keep hka); have Bu6 := hide (Blk.new w6 26 #[.int .u8 k2, .bool s2, .slice A7 n7 c7, .string { data := #[] }, .int .i64 0, .slice none 0 0, .slice none 0 0]); have Iu6 := hide (i7.keep ((Keeps.refl NoB w6).alloc (.cells #[.int .u8 k2, .bool s2, .slice A7 n7 c7, .string { data := #[] }, .int .i64 0, .slice none 0 0, .slice none 0 0] 26))); clear hk hka KC5 HK5 fx0 fx1 fx2 fx3 fx4 fx5 fx6 fy0 fy1 fy2 fy3 fy4 fy5 fy6 Ba5 Bb5 Bx5 By5 Bs5 Bt5 Is5 It5 i7; have fa0 : (w6.alloc (.cells #[.int .u8 k2, .bool s2, .slice A7 n7 c7, .string { data := #[] }, .int .i64 0, .slice none 0 0, .slice none 0 0] 26)).cell? ⟨w.heap.size, 0, none⟩ = some (.int .u8 kd) := Ba6.out.cell 0; have fa1 : (w6.alloc (.cells #[.int .u8 k2, .bool s2, .slice A7 n7 c7, .string { data := #[] }, .int .i64 0, .slice none 0 0, .slice none 0 0] 26)).cell? ⟨w.heap.size, 1, none⟩ = some (.bool ng) := Ba6.out.cell 1; have fa2 : (w6.alloc (.cells #[.int .u8 k2, .bool s2, .slice A7 n7 c7, .string { data := #[] }, .int .i64 0, .slice none 0 0, .slice none 0 0] 26)).cell? ⟨w.heap.size, 2, none⟩ = some (.slice la ln lc) := Ba6.out.cell 2; have fa3 : (w6.alloc (.cells #[.int .u8 k2, .bool s2, .slice A7 n7 c7, .string { data := #[] }, .int .i64 0, .slice none 0 0, .slice none 0 0] 26)).cell? ⟨w.heap.size, 3, none⟩ = some (.string tx) := Ba6.out.cell 3; have fa4 : (w6.alloc (.cells #[.int .u8 k2, .bool s2, .slice A7 n7 c7, .string { data := #[] }, .int .i64 0, .slice none 0 0, .slice none 0 0] 26)).cell? ⟨w.heap.size, 4, none⟩ = some (.int .i64 nm) := Ba6.out.cell 4; have fa5 : (w6.alloc (.cells #[.int .u8 k2, .bool s2, .slice A7 n7 c7, .string { data := #[] }, .int .i64 0, .slice none 0 0, .slice none 0 0] 26)).cell? ⟨w.heap.size, 5, none⟩ = some (.slice ia im ic) := Ba6.out.cell 5; have fa6 : (w6.alloc (.cells #[.int .u8 k2, .bool s2, .slice A7 n7 c7, .string { data := #[] }, .int .i64 0, .slice none 0 0, .slice none 0 0] 26)).cell? ⟨w.heap.size, 6, none⟩ = some (.slice ta tm tc) := Ba6.out.cell 6; have fb0 : (w6.alloc (.cells #[.int .u8 k2, .bool s2, .slice A7 n7 c7, .string { data := #[] }, .int .i64 0, .slice none 0 0, .slice none 0 0] 26)).cell? ⟨w.heap.size + 1, 0, none⟩ = some (.int .u8 kd') := Bb6.out.cell 0; have fb1 : (w6.alloc (.cells #[.int .u8 k2, .bool s2, .slice A7 n7 c7, .string { data := #[] }, .int .i64 0, .slice none 0 0, .slice none 0 0] 26)).cell? ⟨w.heap.size + 1, 1, none⟩ = some (.bool ng') := Bb6.out.cell 1; have fb2 : (w6.alloc (.cells #[.int .u8 k2, .bool s2, .slice A7 n7 c7, .string { data := #[] }, .int .i64 0, .slice none 0 0, .slice none 0 0] 26)).cell? ⟨w.heap.size + 1, 2, none⟩ = some (.slice la' ln' lc') := Bb6.out.cell 2; have fb3 : (w6.alloc (.cells #[.int .u8 k2, .bool s2, .slice A7 n7 c7, .string { data := #[] }, .int .i64 0, .slice none 0 0, .slice none 0 0] 26)).cell? ⟨w.heap.size + 1, 3, none⟩ = some (.string tx') := Bb6.out.cell 3; have fb4 : (w6.alloc (.cells #[.int .u8 k2, .bool s2, .slice A7 n7 c7, .string { data := #[] }, .int .i64 0, .slice none 0 0, .slice none 0 0] 26)).cell? ⟨w.heap.size + 1, 4, none⟩ = some (.int .i64 nm') := Bb6.out.cell 4; have fb5 : (w6.alloc (.cells #[.int .u8 k2, .bool s2, .slice A7 n7 c7, .string { data := #[] }, .int .i64 0, .slice none 0 0, .slice none 0 0] 26)).cell? ⟨w.heap.size + 1, 5, none⟩ = some (.slice ia' im' ic') := Bb6.out.cell 5; have fb6 : (w6.alloc (.cells #[.int .u8 k2, .bool s2, .slice A7 n7 c7, .string { data := #[] }, .int .i64 0, .slice none 0 0, .slice none 0 0] 26)).cell? ⟨w.heap.size + 1, 6, none⟩ = some (.slice ta' tm' tc') := Bb6.out.cell 6) | (go_at_call 30; refine ((F2.out _ KC6.out).2).mono ?_; rintro e w7 ⟨A8, n8, c8, rfl, i8, hk⟩; have hka := hk.alloc (.cells #[.int .u8 k2, .bool s2, .slice A8 n8 c8, .string { data := #[] }, .int .i64 0, .slice none 0 0, .slice none 0 0] 26); have KC7 := hide (KC6.out.trans' hka (fun _ _ h => h) (fun _ _ h => h)); have HK7 := hide (HK6.out.trans' hka (fun _ _ h => h) (fun _ _ h => h)); have Ba7 := hide (Ba6.out.keep hka id); have Bb7 := hide (Bb6.out.keep hka id); have Bx7 := hide (Bx6.out.keep hka id); have By7 := hide (By6.out.keep hka id); have Bs7 := hide (Bs6.out.keep hka id); have Bt7 := hide (Bt6.out.keep hka id); have Bu7 := hide (Bu6.out.keep hka id); have Is7 := hide (Is6.out.keep hka); have It7 := hide (It6.out.keep hka); have Iu7 := hide (Iu6.out.keep hka); have Bv7 := hide (Blk.new w7 26 #[.int .u8 k2, .bool s2, .slice A8 n8 c8, .string { data := #[] }, .int .i64 0, .slice none 0 0, .slice none 0 0]); have Iv7 := hide (i8.keep ((Keeps.refl NoB w7).alloc (.cells #[.int .u8 k2, .bool s2, .slice A8 n8 c8, .string { data := #[] }, .int .i64 0, .slice none 0 0, .slice none 0 0] 26))); clear hk hka KC6 HK6 fa0 fa1 fa2 fa3 fa4 fa5 fa6 fb0 fb1 fb2 fb3 fb4 fb5 fb6 Ba6 Bb6 Bx6 By6 Bs6 Bt6 Bu6 Is6 It6 Iu6 i8; have fx0 : (w7.alloc (.cells #[.int .u8 k2, .bool s2, .slice A8 n8 c8, .string { data := #[] }, .int .i64 0, .slice none 0 0, .slice none 0 0] 26)).cell? ⟨gx, 0, none⟩ = some (.int .u8 kdx) := Bx7.out.cell 0; have fx1 : (w7.alloc (.cells #[.int .u8 k2, .bool s2, .slice A8 n8 c8, .string { data := #[] }, .int .i64 0, .slice none 0 0, .slice none 0 0] 26)).cell? ⟨gx, 1, none⟩ = some (.bool ngx) := Bx7.out.cell 1; have fx2 : (w7.alloc (.cells #[.int .u8 k2, .bool s2, .slice A8 n8 c8, .string { data := #[] }, .int .i64 0, .slice none 0 0, .slice none 0 0] 26)).cell? ⟨gx, 2, none⟩ = some (.slice lax lnx lcx) := Bx7.out.cell 2; have fx3 : (w7.alloc (.cells #[.int .u8 k2, .bool s2, .slice A8 n8 c8, .string { data := #[] }, .int .i64 0, .slice none 0 0, .slice none 0 0] 26)).cell? ⟨gx, 3, none⟩ = some (.string txx) := Bx7.out.cell 3; have fx4 : (w7.alloc (.cells #[.int .u8 k2, .bool s2, .slice A8 n8 c8, .string { data := #[] }, .int .i64 0, .slice none 0 0, .slice none 0 0] 26)).cell? ⟨gx, 4, none⟩ = some (.int .i64 nmx) := Bx7.out.cell 4; have fx5 : (w7.alloc (.cells #[.int .u8 k2, .bool s2, .slice A8 n8 c8, .string { data := #[] }, .int .i64 0, .slice none 0 0, .slice none 0 0] 26)).cell? ⟨gx, 5, none⟩ = some (.slice iax imx icx) := Bx7.out.cell 5; have fx6 : (w7.alloc (.cells #[.int .u8 k2, .bool s2, .slice A8 n8 c8, .string { data := #[] }, .int .i64 0, .slice none 0 0, .slice none 0 0] 26)).cell? ⟨gx, 6, none⟩ = some (.slice tax tmx tcx) := Bx7.out.cell 6) | (go_at_call 22; refine ((F3.out _ KC7.out).1).mono ?_; rintro e w8 ⟨rfl, hk⟩; have hka := hk; have KC8 := hide (KC7.out.trans' hka (fun _ _ h => h) (fun _ _ h => h)); have HK8 := hide (HK7.out.trans' hka (fun _ _ h => h) (fun _ _ h => h)); have Ba8 := hide (Ba7.out.keep hka id); have Bb8 := hide (Bb7.out.keep hka id); have Bx8 := hide (Bx7.out.keep hka id); have By8 := hide (By7.out.keep hka id); have Bs8 := hide (Bs7.out.keep hka id); have Bt8 := hide (Bt7.out.keep hka id); have Bu8 := hide (Bu7.out.keep hka id); have Bv8 := hide (Bv7.out.keep hka id); have Is8 := hide (Is7.out.keep hka); have It8 := hide (It7.out.keep hka); have Iu8 := hide (Iu7.out.keep hka); have Iv8 := hide (Iv7.out.keep hka); clear hk hka KC7 HK7 fx0 fx1 fx2 fx3 fx4 fx5 fx6 Ba7 Bb7 Bx7 By7 Bs7 Bt7 Bu7 Bv7 Is7 It7 Iu7 Iv7; have fa0 : w8.cell? ⟨w.heap.size, 0, none⟩ = some (.int .u8 kd) := Ba8.out.cell 0; have fa1 : w8.cell? ⟨w.heap.size, 1, none⟩ = some (.bool ng) := Ba8.out.cell 1; have fa2 : w8.cell? ⟨w.heap.size, 2, none⟩ = some (.slice la ln lc) := Ba8.out.cell 2; have fa3 : w8.cell? ⟨w.heap.size, 3, none⟩ = some (.string tx) := Ba8.out.cell 3; have fa4 : w8.cell? ⟨w.heap.size, 4, none⟩ = some (.int .i64 nm) := Ba8.out.cell 4; have fa5 : w8.cell? ⟨w.heap.size, 5, none⟩ = some (.slice ia im ic) := Ba8.out.cell 5; have fa6 : w8.cell? ⟨w.heap.size, 6, none⟩ = some (.slice ta tm tc) := Ba8.out.cell 6) | (go_at_call 31; refine ((F3.out _ KC8.out).2).mono ?_; rintro e w9 ⟨rfl, hk⟩; have hka := hk; have KC9 := hide (KC8.out.trans' hka (fun _ _ h => h) (fun _ _ h => h)); have HK9 := hide (HK8.out.trans' hka (fun _ _ h => h) (fun _ _ h => h)); have Ba9 := hide (Ba8.out.keep hka id); have Bb9 := hide (Bb8.out.keep hka id); have Bx9 := hide (Bx8.out.keep hka id); have By9 := hide (By8.out.keep hka id); have Bs9 := hide (Bs8.out.keep hka id); have Bt9 := hide (Bt8.out.keep hka id); have Bu9 := hide (Bu8.out.keep hka id); have Bv9 := hide (Bv8.out.keep hka id); have Is9 := hide (Is8.out.keep hka); have It9 := hide (It8.out.keep hka); have Iu9 := hide (Iu8.out.keep hka); have Iv9 := hide (Iv8.out.keep hka); clear hk hka KC8 HK8 fa0 fa1 fa2 fa3 fa4 fa5 fa6 Ba8 Bb8 Bx8 By8 Bs8 Bt8 Bu8 Bv8 Is8 It8 Iu8 Iv8) | fail
      refine order_begin (fun W => Keeps NoB w9.drew W) (fun _ => true) (by kernel_rfl) 55 rfl ?_
      have Da := hide Ba9.out.drew
      have Db := hide Bb9.out.drew
      have Dx := hide Bx9.out.drew
      have Dy := hide By9.out.drew
      have Ds := hide Bs9.out.drew
      have Dt := hide Bt9.out.drew
      have Du := hide Bu9.out.drew
      have Dv := hide Bv9.out.drew
      have Js := hide (Is9.out.keep (Keeps.refl NoB w9).drew)
      have Jt := hide (It9.out.keep (Keeps.refl NoB w9).drew)
      have Ju := hide (Iu9.out.keep (Keeps.refl NoB w9).drew)
      have Jv := hide (Iv9.out.keep (Keeps.refl NoB w9).drew)
      have KCd := hide KC9.out.drew; have HKd := hide HK9.out.drew
      clear Ba9 Bb9 Bx9 By9 Bs9 Bt9 Bu9 Bv9 Is9 It9 Iu9 Iv9 KC9 HK9
      generalize w9.drew = W0 at *
      have HV0 := hide (Keeps.refl NoB W0)
      refine order_pure (i := 0) rfl (by kernel_rfl) (fun _ _ _ h => h) (.inl ⟨rfl, fun _ => by go_simp; rfl⟩) ?_
      try simp only [Act.put, List.setIfInBounds_toArray, List.set_cons_succ, List.set_cons_zero]
      refine order_pure (i := 1) rfl (by kernel_rfl) (fun _ _ _ h => h) (.inl ⟨rfl, fun _ => by go_simp; rfl⟩) ?_
      try simp only [Act.put, List.setIfInBounds_toArray, List.set_cons_succ, List.set_cons_zero]
      refine order_pure (i := 2) rfl (by kernel_rfl) (fun _ _ _ h => h) (.inl ⟨rfl, fun _ => by go_simp; rfl⟩) ?_
      try simp only [Act.put, List.setIfInBounds_toArray, List.set_cons_succ, List.set_cons_zero]
      refine order_pure (i := 3) rfl (by kernel_rfl) (fun _ _ _ h => h) (.inl ⟨rfl, fun _ => by go_simp; rfl⟩) ?_
      try simp only [Act.put, List.setIfInBounds_toArray, List.set_cons_succ, List.set_cons_zero]
      refine order_pure (i := 4) rfl (by kernel_rfl) (fun _ _ _ h => h) (.inl ⟨rfl, fun _ => by go_simp; rfl⟩) ?_
      try simp only [Act.put, List.setIfInBounds_toArray, List.set_cons_succ, List.set_cons_zero]
      refine order_pure (i := 5) rfl (by kernel_rfl) (fun _ _ _ h => h) (.inl ⟨rfl, fun _ => by go_simp; rfl⟩) ?_
      try simp only [Act.put, List.setIfInBounds_toArray, List.set_cons_succ, List.set_cons_zero]
      refine order_pure (i := 6) rfl (by kernel_rfl) (fun _ _ _ h => h) (.inl ⟨rfl, fun _ => by go_simp; rfl⟩) ?_
      try simp only [Act.put, List.setIfInBounds_toArray, List.set_cons_succ, List.set_cons_zero]
      refine order_pure (i := 7) rfl (by kernel_rfl) (fun _ _ _ h => h) (.inl ⟨rfl, fun _ => by go_simp; rfl⟩) ?_
      try simp only [Act.put, List.setIfInBounds_toArray, List.set_cons_succ, List.set_cons_zero]
      refine order_pure (i := 8) rfl (by kernel_rfl) (fun _ _ _ h => h) (.inl ⟨rfl, fun _ => by go_simp; rfl⟩) ?_
      try simp only [Act.put, List.setIfInBounds_toArray, List.set_cons_succ, List.set_cons_zero]
      refine order_pure (i := 9) rfl (by kernel_rfl) (fun _ _ _ h => h) (.inl ⟨rfl, fun _ => by go_simp; rfl⟩) ?_
      try simp only [Act.put, List.setIfInBounds_toArray, List.set_cons_succ, List.set_cons_zero]
      refine order_pure (i := 10) rfl (by kernel_rfl) (fun _ _ _ h => h) (.inl ⟨rfl, fun _ => by go_simp; rfl⟩) ?_
      try simp only [Act.put, List.setIfInBounds_toArray, List.set_cons_succ, List.set_cons_zero]
      refine order_pure (i := 11) rfl (by kernel_rfl) (fun _ _ _ h => h) (.inl ⟨rfl, fun _ => by go_simp; rfl⟩) ?_
      try simp only [Act.put, List.setIfInBounds_toArray, List.set_cons_succ, List.set_cons_zero]
      refine order_pure (i := 12) rfl (by kernel_rfl) (fun _ _ _ h => h) (.inl ⟨rfl, fun _ => by go_simp; rfl⟩) ?_
      try simp only [Act.put, List.setIfInBounds_toArray, List.set_cons_succ, List.set_cons_zero]
      refine order_pure (i := 13) rfl (by kernel_rfl) (fun _ _ _ h => h) (.inl ⟨rfl, fun _ => by go_simp; rfl⟩) ?_
      try simp only [Act.put, List.setIfInBounds_toArray, List.set_cons_succ, List.set_cons_zero]
      refine order_pure (i := 14) rfl (by kernel_rfl) (fun _ _ _ h => h) (.inl ⟨rfl, fun _ => by go_simp; rfl⟩) ?_
      try simp only [Act.put, List.setIfInBounds_toArray, List.set_cons_succ, List.set_cons_zero]
      refine order_pure (i := 15) rfl (by kernel_rfl) (fun _ _ _ h => h) (.inl ⟨rfl, fun _ => by go_simp; rfl⟩) ?_
      try simp only [Act.put, List.setIfInBounds_toArray, List.set_cons_succ, List.set_cons_zero]
      refine order_pure (i := 16) rfl (by kernel_rfl) (fun _ _ _ h => h) (.inl ⟨rfl, fun _ => by go_simp; rfl⟩) ?_
      try simp only [Act.put, List.setIfInBounds_toArray, List.set_cons_succ, List.set_cons_zero]
      refine order_pure (i := 17) rfl (by kernel_rfl) (fun _ _ _ h => h) (.inl ⟨rfl, fun _ => by go_simp; rfl⟩) ?_
      try simp only [Act.put, List.setIfInBounds_toArray, List.set_cons_succ, List.set_cons_zero]
      refine order_pure (i := 18) rfl (by kernel_rfl) (fun _ _ _ h => h) (.inl ⟨rfl, fun _ => by go_simp; rfl⟩) ?_
      try simp only [Act.put, List.setIfInBounds_toArray, List.set_cons_succ, List.set_cons_zero]
      have HS : Keeps NoB W0 W0 := HV0.out
      refine order_held (i := 19) rfl (by kernel_rfl) (fun _ _ _ h => h) (.inl ⟨rfl, fun W hW => by
        have q0 : W.cell? ⟨w4.heap.size, 0, none⟩ = some (.int .u8 k1) := hW.cell id (Ds.out.cell 0)
        have q1 : W.cell? ⟨w4.heap.size, 1, none⟩ = some (.bool s1) := hW.cell id (Ds.out.cell 1)
        have q2 : W.cell? ⟨w4.heap.size, 2, none⟩ = some (.slice A5 n5 c5) := hW.cell id (Ds.out.cell 2)
        have q3 : W.cell? ⟨w4.heap.size, 3, none⟩ = some (.string { data := #[] }) := hW.cell id (Ds.out.cell 3)
        have q4 : W.cell? ⟨w4.heap.size, 4, none⟩ = some (.int .i64 0) := hW.cell id (Ds.out.cell 4)
        have q5 : W.cell? ⟨w4.heap.size, 5, none⟩ = some (.slice none 0 0) := hW.cell id (Ds.out.cell 5)
        have q6 : W.cell? ⟨w4.heap.size, 6, none⟩ = some (.slice none 0 0) := hW.cell id (Ds.out.cell 6)
        go_simp; rfl⟩) HS ?_
      try simp only [Act.put, List.setIfInBounds_toArray, List.set_cons_succ, List.set_cons_zero]
      refine order_held (i := 20) rfl (by kernel_rfl) (fun _ _ _ h => h) (.inl ⟨rfl, fun W hW => by
        have q0 : W.cell? ⟨w5.heap.size, 0, none⟩ = some (.int .u8 k1) := hW.cell id (Dt.out.cell 0)
        have q1 : W.cell? ⟨w5.heap.size, 1, none⟩ = some (.bool s1) := hW.cell id (Dt.out.cell 1)
        have q2 : W.cell? ⟨w5.heap.size, 2, none⟩ = some (.slice A6 n6 c6) := hW.cell id (Dt.out.cell 2)
        have q3 : W.cell? ⟨w5.heap.size, 3, none⟩ = some (.string { data := #[] }) := hW.cell id (Dt.out.cell 3)
        have q4 : W.cell? ⟨w5.heap.size, 4, none⟩ = some (.int .i64 0) := hW.cell id (Dt.out.cell 4)
        have q5 : W.cell? ⟨w5.heap.size, 5, none⟩ = some (.slice none 0 0) := hW.cell id (Dt.out.cell 5)
        have q6 : W.cell? ⟨w5.heap.size, 6, none⟩ = some (.slice none 0 0) := hW.cell id (Dt.out.cell 6)
        go_simp; rfl⟩) HS ?_
      try simp only [Act.put, List.setIfInBounds_toArray, List.set_cons_succ, List.set_cons_zero]
      clear HS
      refine order_one (i := 21) rfl (by kernel_rfl) (fun K hK => ?_)
      go_simp
      refine (same_like k1 0 s1 A5 A6 none none none none n5 c5 n6 c6 0 0 0 0 _ l1 W0 _ _ (Js.out.keep HV0.out) (Jt.out.keep HV0.out)).mono ?_
      rintro e V1 ⟨rfl, hk⟩
      have HV1 := hide (HV0.out.trans' hk (fun _ _ h => h) (fun _ _ h => h) : Keeps NoB W0 V1)
      refine hK _ _ (fun _ hS => hS.trans' hk (fun _ _ => id) (fun _ _ => id)) ?_
      clear hK hk
      try simp only [Act.put, List.setIfInBounds_toArray, List.set_cons_succ, List.set_cons_zero]
      refine order_pure (i := 22) rfl (by kernel_rfl) (fun _ _ _ h => h) (.inl ⟨rfl, fun _ => by go_simp; rfl⟩) ?_
      try simp only [Act.put, List.setIfInBounds_toArray, List.set_cons_succ, List.set_cons_zero]
      refine order_pure (i := 23) rfl (by kernel_rfl) (fun _ _ _ h => h) (.inl ⟨rfl, fun _ => by go_simp; rfl⟩) ?_
      try simp only [Act.put, List.setIfInBounds_toArray, List.set_cons_succ, List.set_cons_zero]
      have HS : Keeps NoB W0 V1 := HV1.out
      refine order_held (i := 24) rfl (by kernel_rfl) (fun _ _ _ h => h) (.inl ⟨rfl, fun W hW => by
        have q0 : W.cell? ⟨w6.heap.size, 0, none⟩ = some (.int .u8 k2) := hW.cell id (Du.out.cell 0)
        have q1 : W.cell? ⟨w6.heap.size, 1, none⟩ = some (.bool s2) := hW.cell id (Du.out.cell 1)
        have q2 : W.cell? ⟨w6.heap.size, 2, none⟩ = some (.slice A7 n7 c7) := hW.cell id (Du.out.cell 2)
        have q3 : W.cell? ⟨w6.heap.size, 3, none⟩ = some (.string { data := #[] }) := hW.cell id (Du.out.cell 3)
        have q4 : W.cell? ⟨w6.heap.size, 4, none⟩ = some (.int .i64 0) := hW.cell id (Du.out.cell 4)
        have q5 : W.cell? ⟨w6.heap.size, 5, none⟩ = some (.slice none 0 0) := hW.cell id (Du.out.cell 5)
        have q6 : W.cell? ⟨w6.heap.size, 6, none⟩ = some (.slice none 0 0) := hW.cell id (Du.out.cell 6)
        go_simp; rfl⟩) HS ?_
      try simp only [Act.put, List.setIfInBounds_toArray, List.set_cons_succ, List.set_cons_zero]
      refine order_held (i := 25) rfl (by kernel_rfl) (fun _ _ _ h => h) (.inl ⟨rfl, fun W hW => by
        have q0 : W.cell? ⟨w7.heap.size, 0, none⟩ = some (.int .u8 k2) := hW.cell id (Dv.out.cell 0)
        have q1 : W.cell? ⟨w7.heap.size, 1, none⟩ = some (.bool s2) := hW.cell id (Dv.out.cell 1)
        have q2 : W.cell? ⟨w7.heap.size, 2, none⟩ = some (.slice A8 n8 c8) := hW.cell id (Dv.out.cell 2)
        have q3 : W.cell? ⟨w7.heap.size, 3, none⟩ = some (.string { data := #[] }) := hW.cell id (Dv.out.cell 3)
        have q4 : W.cell? ⟨w7.heap.size, 4, none⟩ = some (.int .i64 0) := hW.cell id (Dv.out.cell 4)
        have q5 : W.cell? ⟨w7.heap.size, 5, none⟩ = some (.slice none 0 0) := hW.cell id (Dv.out.cell 5)
        have q6 : W.cell? ⟨w7.heap.size, 6, none⟩ = some (.slice none 0 0) := hW.cell id (Dv.out.cell 6)
        go_simp; rfl⟩) HS ?_
      try simp only [Act.put, List.setIfInBounds_toArray, List.set_cons_succ, List.set_cons_zero]
      clear HS
      refine order_one (i := 26) rfl (by kernel_rfl) (fun K hK => ?_)
      go_simp
      refine (same_like k2 0 s2 A7 A8 none none none none n7 c7 n8 c8 0 0 0 0 _ l2 V1 _ _ (Ju.out.keep HV1.out) (Jv.out.keep HV1.out)).mono ?_
      rintro e V2 ⟨rfl, hk⟩
      have HV2 := hide (HV1.out.trans' hk (fun _ _ h => h) (fun _ _ h => h) : Keeps NoB W0 V2)
      refine hK _ _ (fun _ hS => hS.trans' hk (fun _ _ => id) (fun _ _ => id)) ?_
      clear hK hk
      try simp only [Act.put, List.setIfInBounds_toArray, List.set_cons_succ, List.set_cons_zero]
      refine order_pure (i := 27) rfl (by kernel_rfl) (fun _ _ _ h => h) (.inl ⟨rfl, fun _ => by go_simp; rfl⟩) ?_
      try simp only [Act.put, List.setIfInBounds_toArray, List.set_cons_succ, List.set_cons_zero]
      refine order_pure (i := 28) rfl (by kernel_rfl) (fun _ _ _ h => h) (.inl ⟨rfl, fun _ => by go_simp; rfl⟩) ?_
      try simp only [Act.put, List.setIfInBounds_toArray, List.set_cons_succ, List.set_cons_zero]
      have HS : Keeps NoB W0 V2 := HV2.out
      refine order_held (i := 29) rfl (by kernel_rfl) (fun _ _ _ h => h) (.inl ⟨rfl, fun W hW => by
        have q0 : W.cell? ⟨gx, 0, none⟩ = some (.int .u8 kdx) := hW.cell id (Dx.out.cell 0)
        have q1 : W.cell? ⟨gx, 1, none⟩ = some (.bool ngx) := hW.cell id (Dx.out.cell 1)
        have q2 : W.cell? ⟨gx, 2, none⟩ = some (.slice lax lnx lcx) := hW.cell id (Dx.out.cell 2)
        have q3 : W.cell? ⟨gx, 3, none⟩ = some (.string txx) := hW.cell id (Dx.out.cell 3)
        have q4 : W.cell? ⟨gx, 4, none⟩ = some (.int .i64 nmx) := hW.cell id (Dx.out.cell 4)
        have q5 : W.cell? ⟨gx, 5, none⟩ = some (.slice iax imx icx) := hW.cell id (Dx.out.cell 5)
        have q6 : W.cell? ⟨gx, 6, none⟩ = some (.slice tax tmx tcx) := hW.cell id (Dx.out.cell 6)
        go_simp; rfl⟩) HS ?_
      try simp only [Act.put, List.setIfInBounds_toArray, List.set_cons_succ, List.set_cons_zero]
      refine order_held (i := 30) rfl (by kernel_rfl) (fun _ _ _ h => h) (.inl ⟨rfl, fun W hW => by
        have q0 : W.cell? ⟨gy, 0, none⟩ = some (.int .u8 kdy) := hW.cell id (Dy.out.cell 0)
        have q1 : W.cell? ⟨gy, 1, none⟩ = some (.bool ngy) := hW.cell id (Dy.out.cell 1)
        have q2 : W.cell? ⟨gy, 2, none⟩ = some (.slice lay lny lcy) := hW.cell id (Dy.out.cell 2)
        have q3 : W.cell? ⟨gy, 3, none⟩ = some (.string txy) := hW.cell id (Dy.out.cell 3)
        have q4 : W.cell? ⟨gy, 4, none⟩ = some (.int .i64 nmy) := hW.cell id (Dy.out.cell 4)
        have q5 : W.cell? ⟨gy, 5, none⟩ = some (.slice iay imy icy) := hW.cell id (Dy.out.cell 5)
        have q6 : W.cell? ⟨gy, 6, none⟩ = some (.slice tay tmy tcy) := hW.cell id (Dy.out.cell 6)
        go_simp; rfl⟩) HS ?_
      try simp only [Act.put, List.setIfInBounds_toArray, List.set_cons_succ, List.set_cons_zero]
      refine order_held (i := 32) rfl (by kernel_rfl) (fun _ _ _ h => h) (.inl ⟨rfl, fun W hW => by
        have q0 : W.cell? ⟨w.heap.size, 0, none⟩ = some (.int .u8 kd) := hW.cell id (Da.out.cell 0)
        have q1 : W.cell? ⟨w.heap.size, 1, none⟩ = some (.bool ng) := hW.cell id (Da.out.cell 1)
        have q2 : W.cell? ⟨w.heap.size, 2, none⟩ = some (.slice la ln lc) := hW.cell id (Da.out.cell 2)
        have q3 : W.cell? ⟨w.heap.size, 3, none⟩ = some (.string tx) := hW.cell id (Da.out.cell 3)
        have q4 : W.cell? ⟨w.heap.size, 4, none⟩ = some (.int .i64 nm) := hW.cell id (Da.out.cell 4)
        have q5 : W.cell? ⟨w.heap.size, 5, none⟩ = some (.slice ia im ic) := hW.cell id (Da.out.cell 5)
        have q6 : W.cell? ⟨w.heap.size, 6, none⟩ = some (.slice ta tm tc) := hW.cell id (Da.out.cell 6)
        go_simp; rfl⟩) HS ?_
      try simp only [Act.put, List.setIfInBounds_toArray, List.set_cons_succ, List.set_cons_zero]
      refine order_held (i := 33) rfl (by kernel_rfl) (fun _ _ _ h => h) (.inl ⟨rfl, fun W hW => by
        have q0 : W.cell? ⟨w.heap.size + 1, 0, none⟩ = some (.int .u8 kd') := hW.cell id (Db.out.cell 0)
        have q1 : W.cell? ⟨w.heap.size + 1, 1, none⟩ = some (.bool ng') := hW.cell id (Db.out.cell 1)
        have q2 : W.cell? ⟨w.heap.size + 1, 2, none⟩ = some (.slice la' ln' lc') := hW.cell id (Db.out.cell 2)
        have q3 : W.cell? ⟨w.heap.size + 1, 3, none⟩ = some (.string tx') := hW.cell id (Db.out.cell 3)
        have q4 : W.cell? ⟨w.heap.size + 1, 4, none⟩ = some (.int .i64 nm') := hW.cell id (Db.out.cell 4)
        have q5 : W.cell? ⟨w.heap.size + 1, 5, none⟩ = some (.slice ia' im' ic') := hW.cell id (Db.out.cell 5)
        have q6 : W.cell? ⟨w.heap.size + 1, 6, none⟩ = some (.slice ta' tm' tc') := hW.cell id (Db.out.cell 6)
        go_simp; rfl⟩) HS ?_
      try simp only [Act.put, List.setIfInBounds_toArray, List.set_cons_succ, List.set_cons_zero]
      clear HS
      refine order_one (i := 31) rfl (by kernel_rfl) (fun K hK => ?_)
      go_simp
      refine ((F4.out V2 (KCd.out.trans' HV2.out (fun _ _ h => h) (fun _ _ h => h))).1).mono ?_
      rintro e V3 ⟨rfl, hk⟩
      have HV3 := hide (HV2.out.trans' hk (fun _ _ h => h) (fun _ _ h => h) : Keeps NoB W0 V3)
      refine hK _ _ (fun _ hS => hS.trans' hk (fun _ _ => id) (fun _ _ => id)) ?_
      clear hK hk
      try simp only [Act.put, List.setIfInBounds_toArray, List.set_cons_succ, List.set_cons_zero]
      refine order_one (i := 34) rfl (by kernel_rfl) (fun K hK => ?_)
      go_simp
      refine ((F4.out V3 (KCd.out.trans' HV3.out (fun _ _ h => h) (fun _ _ h => h))).2).mono ?_
      rintro e V4 ⟨rfl, hk⟩
      have HV4 := hide (HV3.out.trans' hk (fun _ _ h => h) (fun _ _ h => h) : Keeps NoB W0 V4)
      refine hK _ _ (fun _ hS => hS.trans' hk (fun _ _ => id) (fun _ _ => id)) ?_
      clear hK hk
      try simp only [Act.put, List.setIfInBounds_toArray, List.set_cons_succ, List.set_cons_zero]
      refine order_pure (i := 35) rfl (by kernel_rfl) (fun _ _ _ h => h) (.inl ⟨rfl, fun _ => by go_simp; rfl⟩) ?_
      try simp only [Act.put, List.setIfInBounds_toArray, List.set_cons_succ, List.set_cons_zero]
      refine order_pure (i := 36) rfl (by kernel_rfl) (fun _ _ _ h => h) (.inl ⟨rfl, fun _ => by go_simp; rfl⟩) ?_
      try simp only [Act.put, List.setIfInBounds_toArray, List.set_cons_succ, List.set_cons_zero]
      refine order_pure (i := 37) rfl (by kernel_rfl) (fun _ _ _ h => h) (.inl ⟨rfl, fun _ => by go_simp; rfl⟩) ?_
      try simp only [Act.put, List.setIfInBounds_toArray, List.set_cons_succ, List.set_cons_zero]
      have HS : Keeps NoB W0 V4 := HV4.out
      refine order_held (i := 38) rfl (by kernel_rfl) (fun _ _ _ h => h) (.inl ⟨rfl, fun W hW => by
        have q0 : W.cell? ⟨gx, 0, none⟩ = some (.int .u8 kdx) := hW.cell id (Dx.out.cell 0)
        have q1 : W.cell? ⟨gx, 1, none⟩ = some (.bool ngx) := hW.cell id (Dx.out.cell 1)
        have q2 : W.cell? ⟨gx, 2, none⟩ = some (.slice lax lnx lcx) := hW.cell id (Dx.out.cell 2)
        have q3 : W.cell? ⟨gx, 3, none⟩ = some (.string txx) := hW.cell id (Dx.out.cell 3)
        have q4 : W.cell? ⟨gx, 4, none⟩ = some (.int .i64 nmx) := hW.cell id (Dx.out.cell 4)
        have q5 : W.cell? ⟨gx, 5, none⟩ = some (.slice iax imx icx) := hW.cell id (Dx.out.cell 5)
        have q6 : W.cell? ⟨gx, 6, none⟩ = some (.slice tax tmx tcx) := hW.cell id (Dx.out.cell 6)
        go_simp; rfl⟩) HS ?_
      try simp only [Act.put, List.setIfInBounds_toArray, List.set_cons_succ, List.set_cons_zero]
      refine order_held (i := 40) rfl (by kernel_rfl) (fun _ _ _ h => h) (.inl ⟨rfl, fun W hW => by
        have q0 : W.cell? ⟨w.heap.size, 0, none⟩ = some (.int .u8 kd) := hW.cell id (Da.out.cell 0)
        have q1 : W.cell? ⟨w.heap.size, 1, none⟩ = some (.bool ng) := hW.cell id (Da.out.cell 1)
        have q2 : W.cell? ⟨w.heap.size, 2, none⟩ = some (.slice la ln lc) := hW.cell id (Da.out.cell 2)
        have q3 : W.cell? ⟨w.heap.size, 3, none⟩ = some (.string tx) := hW.cell id (Da.out.cell 3)
        have q4 : W.cell? ⟨w.heap.size, 4, none⟩ = some (.int .i64 nm) := hW.cell id (Da.out.cell 4)
        have q5 : W.cell? ⟨w.heap.size, 5, none⟩ = some (.slice ia im ic) := hW.cell id (Da.out.cell 5)
        have q6 : W.cell? ⟨w.heap.size, 6, none⟩ = some (.slice ta tm tc) := hW.cell id (Da.out.cell 6)
        go_simp; rfl⟩) HS ?_
      try simp only [Act.put, List.setIfInBounds_toArray, List.set_cons_succ, List.set_cons_zero]
      clear HS
      refine order_one (i := 39) rfl (by kernel_rfl) (fun K hK => ?_)
      go_simp
      refine (((HX3.out.keep (KCd.out.trans' HV4.out (fun _ _ h => h) (fun _ _ h => h))).term).right).mono ?_
      rintro e V5 ⟨rfl, hk⟩
      have HV5 := hide (HV4.out.trans' hk (fun _ _ h => h) (fun _ _ h => h) : Keeps NoB W0 V5)
      refine hK _ _ (fun _ hS => hS.trans' hk (fun _ _ => id) (fun _ _ => id)) ?_
      clear hK hk
      try simp only [Act.put, List.setIfInBounds_toArray, List.set_cons_succ, List.set_cons_zero]
      refine order_one (i := 41) rfl (by kernel_rfl) (fun K hK => ?_)
      go_simp
      refine (((HA3.out.keep (KCd.out.trans' HV5.out (fun _ _ h => h) (fun _ _ h => h))).top.term).rright).mono ?_
      rintro e V6 ⟨rfl, hk⟩
      have HV6 := hide (HV5.out.trans' hk (fun _ _ h => h) (fun _ _ h => h) : Keeps NoB W0 V6)
      refine hK _ _ (fun _ hS => hS.trans' hk (fun _ _ => id) (fun _ _ => id)) ?_
      clear hK hk
      try simp only [Act.put, List.setIfInBounds_toArray, List.set_cons_succ, List.set_cons_zero]
      refine order_pure (i := 42) rfl (by kernel_rfl) (fun _ _ _ h => h) (.inl ⟨rfl, fun _ => by go_simp; rfl⟩) ?_
      try simp only [Act.put, List.setIfInBounds_toArray, List.set_cons_succ, List.set_cons_zero]
      refine order_pure (i := 43) rfl (by kernel_rfl) (fun _ _ _ h => h) (.inl ⟨rfl, fun _ => by go_simp; rfl⟩) ?_
      try simp only [Act.put, List.setIfInBounds_toArray, List.set_cons_succ, List.set_cons_zero]
      refine order_pure (i := 44) rfl (by kernel_rfl) (fun _ _ _ h => h) (.inl ⟨rfl, fun _ => by go_simp; rfl⟩) ?_
      try simp only [Act.put, List.setIfInBounds_toArray, List.set_cons_succ, List.set_cons_zero]
      have HS : Keeps NoB W0 V6 := HV6.out
      refine order_held (i := 45) rfl (by kernel_rfl) (fun _ _ _ h => h) (.inl ⟨rfl, fun W hW => by
        have q0 : W.cell? ⟨gx, 0, none⟩ = some (.int .u8 kdx) := hW.cell id (Dx.out.cell 0)
        have q1 : W.cell? ⟨gx, 1, none⟩ = some (.bool ngx) := hW.cell id (Dx.out.cell 1)
        have q2 : W.cell? ⟨gx, 2, none⟩ = some (.slice lax lnx lcx) := hW.cell id (Dx.out.cell 2)
        have q3 : W.cell? ⟨gx, 3, none⟩ = some (.string txx) := hW.cell id (Dx.out.cell 3)
        have q4 : W.cell? ⟨gx, 4, none⟩ = some (.int .i64 nmx) := hW.cell id (Dx.out.cell 4)
        have q5 : W.cell? ⟨gx, 5, none⟩ = some (.slice iax imx icx) := hW.cell id (Dx.out.cell 5)
        have q6 : W.cell? ⟨gx, 6, none⟩ = some (.slice tax tmx tcx) := hW.cell id (Dx.out.cell 6)
        go_simp; rfl⟩) HS ?_
      try simp only [Act.put, List.setIfInBounds_toArray, List.set_cons_succ, List.set_cons_zero]
      refine order_held (i := 46) rfl (by kernel_rfl) (fun _ _ _ h => h) (.inl ⟨rfl, fun W hW => by
        have q0 : W.cell? ⟨w.heap.size, 0, none⟩ = some (.int .u8 kd) := hW.cell id (Da.out.cell 0)
        have q1 : W.cell? ⟨w.heap.size, 1, none⟩ = some (.bool ng) := hW.cell id (Da.out.cell 1)
        have q2 : W.cell? ⟨w.heap.size, 2, none⟩ = some (.slice la ln lc) := hW.cell id (Da.out.cell 2)
        have q3 : W.cell? ⟨w.heap.size, 3, none⟩ = some (.string tx) := hW.cell id (Da.out.cell 3)
        have q4 : W.cell? ⟨w.heap.size, 4, none⟩ = some (.int .i64 nm) := hW.cell id (Da.out.cell 4)
        have q5 : W.cell? ⟨w.heap.size, 5, none⟩ = some (.slice ia im ic) := hW.cell id (Da.out.cell 5)
        have q6 : W.cell? ⟨w.heap.size, 6, none⟩ = some (.slice ta tm tc) := hW.cell id (Da.out.cell 6)
        go_simp; rfl⟩) HS ?_
      try simp only [Act.put, List.setIfInBounds_toArray, List.set_cons_succ, List.set_cons_zero]
      clear HS
      refine order_one (i := 47) rfl (by kernel_rfl) (fun K hK => ?_)
      go_simp
      refine (kept_any (HA3.out.keep (KCd.out.trans' HV6.out (fun _ _ h => h) (fun _ _ h => h))) (LX3.out.keep (KCd.out.trans' HV6.out (fun _ _ h => h) (fun _ _ h => h)))).mono ?_
      rintro e V7 ⟨rfl, hk⟩
      have HV7 := hide (HV6.out.trans' hk (fun _ _ h => h) (fun _ _ h => h) : Keeps NoB W0 V7)
      refine hK _ _ (fun _ hS => hS.trans' hk (fun _ _ => id) (fun _ _ => id)) ?_
      clear hK hk
      try simp only [Act.put, List.setIfInBounds_toArray, List.set_cons_succ, List.set_cons_zero]
      refine order_pure (i := 48) rfl (by kernel_rfl) (fun _ _ _ h => h) (.inl ⟨rfl, fun _ => by go_simp; rfl⟩) ?_
      try simp only [Act.put, List.setIfInBounds_toArray, List.set_cons_succ, List.set_cons_zero]
      refine order_pure (i := 49) rfl (by kernel_rfl) (fun _ _ _ h => h) (.inl ⟨rfl, fun _ => by go_simp; rfl⟩) ?_
      try simp only [Act.put, List.setIfInBounds_toArray, List.set_cons_succ, List.set_cons_zero]
      have HS : Keeps NoB W0 V7 := HV7.out
      refine order_held (i := 50) rfl (by kernel_rfl) (fun _ _ _ h => h) (.inl ⟨rfl, fun W hW => by
        have q0 : W.cell? ⟨gy, 0, none⟩ = some (.int .u8 kdy) := hW.cell id (Dy.out.cell 0)
        have q1 : W.cell? ⟨gy, 1, none⟩ = some (.bool ngy) := hW.cell id (Dy.out.cell 1)
        have q2 : W.cell? ⟨gy, 2, none⟩ = some (.slice lay lny lcy) := hW.cell id (Dy.out.cell 2)
        have q3 : W.cell? ⟨gy, 3, none⟩ = some (.string txy) := hW.cell id (Dy.out.cell 3)
        have q4 : W.cell? ⟨gy, 4, none⟩ = some (.int .i64 nmy) := hW.cell id (Dy.out.cell 4)
        have q5 : W.cell? ⟨gy, 5, none⟩ = some (.slice iay imy icy) := hW.cell id (Dy.out.cell 5)
        have q6 : W.cell? ⟨gy, 6, none⟩ = some (.slice tay tmy tcy) := hW.cell id (Dy.out.cell 6)
        go_simp; rfl⟩) HS ?_
      try simp only [Act.put, List.setIfInBounds_toArray, List.set_cons_succ, List.set_cons_zero]
      refine order_held (i := 51) rfl (by kernel_rfl) (fun _ _ _ h => h) (.inl ⟨rfl, fun W hW => by
        have q0 : W.cell? ⟨w.heap.size + 1, 0, none⟩ = some (.int .u8 kd') := hW.cell id (Db.out.cell 0)
        have q1 : W.cell? ⟨w.heap.size + 1, 1, none⟩ = some (.bool ng') := hW.cell id (Db.out.cell 1)
        have q2 : W.cell? ⟨w.heap.size + 1, 2, none⟩ = some (.slice la' ln' lc') := hW.cell id (Db.out.cell 2)
        have q3 : W.cell? ⟨w.heap.size + 1, 3, none⟩ = some (.string tx') := hW.cell id (Db.out.cell 3)
        have q4 : W.cell? ⟨w.heap.size + 1, 4, none⟩ = some (.int .i64 nm') := hW.cell id (Db.out.cell 4)
        have q5 : W.cell? ⟨w.heap.size + 1, 5, none⟩ = some (.slice ia' im' ic') := hW.cell id (Db.out.cell 5)
        have q6 : W.cell? ⟨w.heap.size + 1, 6, none⟩ = some (.slice ta' tm' tc') := hW.cell id (Db.out.cell 6)
        go_simp; rfl⟩) HS ?_
      try simp only [Act.put, List.setIfInBounds_toArray, List.set_cons_succ, List.set_cons_zero]
      clear HS
      refine order_one (i := 52) rfl (by kernel_rfl) (fun K hK => ?_)
      go_simp
      refine (kept_any (HB3.out.keep (KCd.out.trans' HV7.out (fun _ _ h => h) (fun _ _ h => h))) (LY3.out.keep (KCd.out.trans' HV7.out (fun _ _ h => h) (fun _ _ h => h)))).mono ?_
      rintro e V8 ⟨rfl, hk⟩
      have HV8 := hide (HV7.out.trans' hk (fun _ _ h => h) (fun _ _ h => h) : Keeps NoB W0 V8)
      refine hK _ _ (fun _ hS => hS.trans' hk (fun _ _ => id) (fun _ _ => id)) ?_
      clear hK hk
      try simp only [Act.put, List.setIfInBounds_toArray, List.set_cons_succ, List.set_cons_zero]
      refine order_pure (i := 53) rfl (by kernel_rfl) (fun _ _ _ h => h) (.inl ⟨rfl, fun _ => by go_simp; rfl⟩) ?_
      try simp only [Act.put, List.setIfInBounds_toArray, List.set_cons_succ, List.set_cons_zero]
      refine order_pure (i := 54) rfl (by kernel_rfl) (fun _ _ _ h => h) (.inl ⟨rfl, fun _ => by go_simp; rfl⟩) ?_
      try simp only [Act.put, List.setIfInBounds_toArray, List.set_cons_succ, List.set_cons_zero]
      refine order_done (by kernel_rfl) ?_
      go_wp2
      go_ret
      exact ⟨rfl, HKd.out.trans' HV8.out (fun _ _ h => h) (fun _ _ h => h)⟩
end Go.Proofs.Ytfehciiidmgopaa
