/- maker.at: of a pattern that has to match twice. -/
import Derived.Test.YtdmldipnalklgaaHand
namespace Go.Proofs.Ytdmldipnalklgaa
open Go.RowKit

set_option maxRecDepth 100000 in
set_option maxHeartbeats 2000000 in
theorem at_both_arm (M : Nat) (IH : Hid (AtSaid M)) (p q : Co) (hM : Co.size.sizes [p, q] ≤ M) (css : List (List Value)) (w : World) (P : Nat → Prop) (F : Bool) (tx : ByteArray) (nm tk : Int) (ng : Bool) (la : Option Addr) (ln lc : Nat) (tt : ByteArray) (tn : Int) (ia : Option Addr) (im ic : Nat) (ta : Option Addr) (tm tc : Nat) (ka : Option Addr) (kc : Nat)
    (s next free : Int) (cs : List Tm) (mb : Nat) (hr : Reads w P F 11 ka 2 css.flatten) (hc : CoresIn w P F css [p, q]) (hmay : mays free [p, q] = true) (hm : MakerAt P w mb next cs) (hb : BoundM next cs (p.count + q.count)) :
    Calls Try.prog 15 #[.pointer (some ⟨mb, 0, none⟩), .agg #[.int .u8 26, .string tx, .int .i64 nm, .int .u8 tk, .bool ng, .slice la ln lc, .string tt, .int .i64 tn, .slice ia im ic, .slice ta tm tc, .slice ka 2 kc], .int .i64 s] w (AtPost P w mb cs (bothC s next cs.length [p, q])) := by
  obtain ⟨b, o, kd1, tx1, nm1, tk1, ng1, la1, ln1, lc1, tt1, tn1, ia1, im1, ic1, ta1, tm1, tc1, ka1, kn1, kc1, t1, hA, hPb, e1, z1, hc1, f0, f1, f2, f3, f4, f5, f6, f7, f8, f9, f10⟩ := kid_at hr hc 0 (by omega)
  obtain ⟨b2, o2, kd2, tx2, nm2, tk2, ng2, la2, ln2, lc2, tt2, tn2, ia2, im2, ic2, ta2, tm2, tc2, ka2, kn2, kc2, t2, hA2, hPb2, e2, z2, hc2, g0, g1, g2, g3, g4, g5, g6, g7, g8, g9, g10⟩ := kid_at hr hc 1 (by omega)
  obtain rfl : p = t1 := by simpa using e1
  obtain rfl : q = t2 := by simpa using e2
  subst hA
  injection hA2 with hA2
  injection hA2 with hA2 hA3
  subst hA2 hA3
  rw [mays, mays, mays, Bool.and_true, Bool.and_eq_true] at hmay
  have HC1 := hide hc1; have HC2 := hide hc2; have HMAY := hide hmay; have HPB := hide hPb
  have HF := hide (And.intro f0 (And.intro f1 (And.intro f2 (And.intro f3 (And.intro f4 (And.intro f5 (And.intro f6 (And.intro f7 (And.intro f8 (And.intro f9 f10))))))))))
  have HG := hide (And.intro g0 (And.intro g1 (And.intro g2 (And.intro g3 (And.intro g4 (And.intro g5 (And.intro g6 (And.intro g7 (And.intro g8 (And.intro g9 g10))))))))))
  have HZ : Hid (p.size ≤ M ∧ q.size ≤ M) := hide ⟨by omega, by omega⟩
  obtain ⟨hb1, hb2, hb3⟩ := hb
  have B0 := boxes_new w mb #[.int .u8 26, .string tx, .int .i64 nm, .int .u8 tk, .bool ng, .slice la ln lc, .string tt, .int .i64 tn, .slice ia im ic, .slice ta tm tc, .slice (some ⟨b, o, none⟩) 2 kc] s
  have HS0 : Hid (BoxS P w mb w.heap.size (w.heap.size + 1) (w.heap.size + 1 + 1) #[.int .u8 26, .string tx, .int .i64 nm, .int .u8 tk, .bool ng, .slice la ln lc, .string tt, .int .i64 tn, .slice ia im ic, .slice ta tm tc, .slice (some ⟨b, o, none⟩) 2 kc] s (((w.alloc (.cells #[.pointer (some ⟨mb, 0, none⟩)] 49)).alloc (.cells #[.int .u8 26, .string tx, .int .i64 nm, .int .u8 tk, .bool ng, .slice la ln lc, .string tt, .int .i64 tn, .slice ia im ic, .slice ta tm tc, .slice (some ⟨b, o, none⟩) 2 kc] 30)).alloc (.cells #[.int .i64 s] 3)).drew) := hide (BoxS.drew ⟨B0.m, B0.p, B0.s, B0.keep.mono (fun _ _ h => h.elim)⟩)
  have HM0 : Hid (MakerAt (Hand P w.heap.size (w.heap.size + 1) (w.heap.size + 1 + 1)) (((w.alloc (.cells #[.pointer (some ⟨mb, 0, none⟩)] 49)).alloc (.cells #[.int .u8 26, .string tx, .int .i64 nm, .int .u8 tk, .bool ng, .slice la ln lc, .string tt, .int .i64 tn, .slice ia im ic, .slice ta tm tc, .slice (some ⟨b, o, none⟩) 2 kc] 30)).alloc (.cells #[.int .i64 s] 3)).drew mb next cs) := hide (hm.grow B0.keep.drew (fun k hk => by
    rcases hk with rfl | rfl | rfl
    · exact ⟨Nat.le_refl _, B0.m.lt⟩
    · exact ⟨Nat.le_succ _, B0.p.lt⟩
    · exact ⟨by omega, B0.s.lt⟩))
  have HFP := hide (at_few s next cs.length p)
  have HFQ := hide (at_few s (atC s next cs.length p).next (cs.length + (atC s next cs.length p).cs.length) q)
  have HE : Hid (bothC s next cs.length [p, q] = joinM (atC s next cs.length p) (atC s (atC s next cs.length p).next (cs.length + (atC s next cs.length p).cs.length) q)) := hide (by simp [bothC])
  clear hr hc hc1 hc2 hmay hm B0 f0 f1 f2 f3 f4 f5 f6 f7 f8 f9 f10 g0 g1 g2 g3 g4 g5 g6 g7 g8 g9 g10 hM z1 z2 e1 e2 hPb hPb2
  go_enter Try.func15, Try.ntmps15
  go_wp2_with fail
  obtain ⟨r, hrr⟩ : ∃ r, atC s next cs.length p = r := ⟨_, rfl⟩
  rw [hrr] at HE HFP HFQ
  have HRR := hide hrr
  clear hrr
  obtain ⟨hp1, hp2, hp3, hp4⟩ := HFP.out
  obtain ⟨r2, hrr⟩ : ∃ r2, atC s r.next (cs.length + r.cs.length) q = r2 := ⟨_, rfl⟩
  rw [hrr] at HE HFQ
  have HRR2 := hide hrr
  clear hrr
  obtain ⟨hq1, hq2, hq3, hq4⟩ := HFQ.out
  generalize hbs : w.heap.size + 1 + 1 = bs at HS0 HM0 ⊢
  generalize hbp : w.heap.size + 1 = bp at HS0 HM0 ⊢
  generalize hbm : w.heap.size = bm at HS0 HM0 ⊢
  clear hbs hbp hbm
  refine order_begin (BoxS P w mb bm bp bs #[.int .u8 26, .string tx, .int .i64 nm, .int .u8 tk, .bool ng, .slice la ln lc, .string tt, .int .i64 tn, .slice ia im ic, .slice ta tm tc, .slice (some ⟨b, o, none⟩) 2 kc] s) (fun _ => true) (by kernel_rfl) 8 rfl ?_
  generalize (((w.alloc (.cells #[.pointer (some ⟨mb, 0, none⟩)] 49)).alloc (.cells #[.int .u8 26, .string tx, .int .i64 nm, .int .u8 tk, .bool ng, .slice la ln lc, .string tt, .int .i64 tn, .slice ia im ic, .slice ta tm tc, .slice (some ⟨b, o, none⟩) 2 kc] 30)).alloc (.cells #[.int .i64 s] 3)).drew = W0 at *
  have HS := HS0.out
  refine order_held (i := 0) rfl (by kernel_rfl) (fun _ _ _ h => h) (.inl ⟨rfl, fun W hW => by
    have q0 : W.cell? ⟨bm, 0, none⟩ = some (.pointer (some ⟨mb, 0, none⟩)) := hW.1.cell 0
    go_simp; rfl⟩) HS ?_
  try simp only [Act.put, List.setIfInBounds_toArray, List.set_cons_succ, List.set_cons_zero]
  refine order_pure (i := 1) rfl (by kernel_rfl) (fun _ _ _ h => h) (.inl ⟨rfl, fun _ => by go_simp; rfl⟩) ?_
  try simp only [Act.put, List.setIfInBounds_toArray, List.set_cons_succ, List.set_cons_zero]
  refine order_held (i := 2) rfl (by kernel_rfl) (fun _ _ _ h => h) (.inl ⟨rfl, fun W hW => by
    have q0 : W.cell? ⟨bp, 10, none⟩ = some (.slice (some ⟨b, o, none⟩) 2 kc) := hW.2.1.cell 10
    go_simp; rfl⟩) HS ?_
  try simp only [Act.put, List.setIfInBounds_toArray, List.set_cons_succ, List.set_cons_zero]
  refine order_pure (i := 3) rfl (by kernel_rfl) (fun _ _ _ h => h) (.inl ⟨rfl, fun _ => by go_simp; rfl⟩) ?_
  try simp only [Act.put, List.setIfInBounds_toArray, List.set_cons_succ, List.set_cons_zero]
  refine order_held (i := 4) rfl (by kernel_rfl) (fun _ _ _ h => h) (.inl ⟨rfl, fun W hW => by
    have q0 : W.cell? ⟨b, o, none⟩ = some (.int .u8 kd1) := by have h := hW.2.2.2.cell (fun h => h HPB.out) HF.out.1; simpa using h
    have q1 : W.cell? ⟨b, o + 1, none⟩ = some (.string tx1) := by have h := hW.2.2.2.cell (fun h => h HPB.out) HF.out.2.1; simpa using h
    have q2 : W.cell? ⟨b, o + 2, none⟩ = some (.int .i64 nm1) := by have h := hW.2.2.2.cell (fun h => h HPB.out) HF.out.2.2.1; simpa using h
    have q3 : W.cell? ⟨b, o + 3, none⟩ = some (.int .u8 tk1) := by have h := hW.2.2.2.cell (fun h => h HPB.out) HF.out.2.2.2.1; simpa using h
    have q4 : W.cell? ⟨b, o + 4, none⟩ = some (.bool ng1) := by have h := hW.2.2.2.cell (fun h => h HPB.out) HF.out.2.2.2.2.1; simpa using h
    have q5 : W.cell? ⟨b, o + 5, none⟩ = some (.slice la1 ln1 lc1) := by have h := hW.2.2.2.cell (fun h => h HPB.out) HF.out.2.2.2.2.2.1; simpa using h
    have q6 : W.cell? ⟨b, o + 6, none⟩ = some (.string tt1) := by have h := hW.2.2.2.cell (fun h => h HPB.out) HF.out.2.2.2.2.2.2.1; simpa using h
    have q7 : W.cell? ⟨b, o + 7, none⟩ = some (.int .i64 tn1) := by have h := hW.2.2.2.cell (fun h => h HPB.out) HF.out.2.2.2.2.2.2.2.1; simpa using h
    have q8 : W.cell? ⟨b, o + 8, none⟩ = some (.slice ia1 im1 ic1) := by have h := hW.2.2.2.cell (fun h => h HPB.out) HF.out.2.2.2.2.2.2.2.2.1; simpa using h
    have q9 : W.cell? ⟨b, o + 9, none⟩ = some (.slice ta1 tm1 tc1) := by have h := hW.2.2.2.cell (fun h => h HPB.out) HF.out.2.2.2.2.2.2.2.2.2.1; simpa using h
    have q10 : W.cell? ⟨b, o + 10, none⟩ = some (.slice ka1 kn1 kc1) := by have h := hW.2.2.2.cell (fun h => h HPB.out) HF.out.2.2.2.2.2.2.2.2.2.2; simpa using h
    go_simp; rfl⟩) HS ?_
  try simp only [Act.put, List.setIfInBounds_toArray, List.set_cons_succ, List.set_cons_zero]
  refine order_held (i := 5) rfl (by kernel_rfl) (fun _ _ _ h => h) (.inl ⟨rfl, fun W hW => by
    have q0 : W.cell? ⟨bs, 0, none⟩ = some (.int .i64 s) := hW.2.2.1.cell 0
    go_simp; rfl⟩) HS ?_
  try simp only [Act.put, List.setIfInBounds_toArray, List.set_cons_succ, List.set_cons_zero]
  refine order_one (i := 6) rfl (by kernel_rfl) (fun K hK => ?_)
  go_simp
  refine (IH.out p HZ.out.1 W0 (Hand P bm bp bs) F kd1 tx1 nm1 tk1 ng1 la1 ln1 lc1 tt1 tn1 ia1 im1 ic1 ta1 tm1 tc1 ka1 kn1 kc1 s next free cs mb (CoreIn.more (fun k _ h => .inl h) _ _ (CoreIn.keep HS.2.2.2 (fun k h hn => hn h) _ _ HC1.out)) HMAY.out.1 HM0.out ⟨hb1, by omega, by omega⟩).mono ?_
  rintro e W1 ⟨A1, c1, rfl, hs1, hf1, hm1, hk1⟩
  rw [HRR.out] at hs1 hm1 ⊢
  refine hK _ _ (fun _ hS => hS.go hk1) ?_
  clear hK
  have HS1 := hide (HS.go hk1)
  have HR1 := hide hs1
  have HF1 : Hid (∀ k, rowB A1 k → w.heap.size ≤ k) := hide (fun k hk => Nat.le_trans HS.2.2.2.size (hf1 k hk))
  have HM1 := hide hm1
  clear hs1 hf1 hm1 hk1 HS
  try simp only [Act.put, List.setIfInBounds_toArray, List.set_cons_succ, List.set_cons_zero]
  refine order_pure (i := 7) rfl (by kernel_rfl) (fun _ _ _ h => h) (.inl ⟨rfl, fun _ => by go_simp; rfl⟩) ?_
  try simp only [Act.put, List.setIfInBounds_toArray, List.set_cons_succ, List.set_cons_zero]
  refine order_done (by kernel_rfl) ?_
  go_wp2_with fail
  refine order_begin (BoxS P w mb bm bp bs #[.int .u8 26, .string tx, .int .i64 nm, .int .u8 tk, .bool ng, .slice la ln lc, .string tt, .int .i64 tn, .slice ia im ic, .slice ta tm tc, .slice (some ⟨b, o, none⟩) 2 kc] s) (fun _ => true) (by kernel_rfl) 11 rfl ?_
  have HS2 : Hid (BoxS P w mb bm bp bs #[.int .u8 26, .string tx, .int .i64 nm, .int .u8 tk, .bool ng, .slice la ln lc, .string tt, .int .i64 tn, .slice ia im ic, .slice ta tm tc, .slice (some ⟨b, o, none⟩) 2 kc] s W1.drew) := hide HS1.out.drew
  have HR2 := hide HR1.out.drew
  have HM2 : Hid (MakerAt (fun k => Hand P bm bp bs k ∨ rowB A1 k) W1.drew mb r.next (cs ++ r.cs)) := hide (HM1.out.keep (Keeps.refl _ _).drew)
  clear HS1 HR1 HM1
  generalize W1.drew = W2 at *
  have HS := HS2.out
  refine order_pure (i := 0) rfl (by kernel_rfl) (fun _ _ _ h => h) (.inl ⟨rfl, fun _ => by go_simp; rfl⟩) ?_
  try simp only [Act.put, List.setIfInBounds_toArray, List.set_cons_succ, List.set_cons_zero]
  refine order_held (i := 1) rfl (by kernel_rfl) (fun _ _ _ h => h) (.inl ⟨rfl, fun W hW => by
    have q0 : W.cell? ⟨bm, 0, none⟩ = some (.pointer (some ⟨mb, 0, none⟩)) := hW.1.cell 0
    go_simp; rfl⟩) HS ?_
  try simp only [Act.put, List.setIfInBounds_toArray, List.set_cons_succ, List.set_cons_zero]
  refine order_pure (i := 2) rfl (by kernel_rfl) (fun _ _ _ h => h) (.inl ⟨rfl, fun _ => by go_simp; rfl⟩) ?_
  try simp only [Act.put, List.setIfInBounds_toArray, List.set_cons_succ, List.set_cons_zero]
  refine order_held (i := 3) rfl (by kernel_rfl) (fun _ _ _ h => h) (.inl ⟨rfl, fun W hW => by
    have q0 : W.cell? ⟨bp, 10, none⟩ = some (.slice (some ⟨b, o, none⟩) 2 kc) := hW.2.1.cell 10
    go_simp; rfl⟩) HS ?_
  try simp only [Act.put, List.setIfInBounds_toArray, List.set_cons_succ, List.set_cons_zero]
  refine order_pure (i := 4) rfl (by kernel_rfl) (fun _ _ _ h => h) (.inl ⟨rfl, fun _ => by go_simp; rfl⟩) ?_
  try simp only [Act.put, List.setIfInBounds_toArray, List.set_cons_succ, List.set_cons_zero]
  refine order_held (i := 5) rfl (by kernel_rfl) (fun _ _ _ h => h) (.inl ⟨rfl, fun W hW => by
    have q0 : W.cell? ⟨b, o + 11, none⟩ = some (.int .u8 kd2) := by have h := hW.2.2.2.cell (fun h => h HPB.out) HG.out.1; simpa using h
    have q1 : W.cell? ⟨b, o + 11 + 1, none⟩ = some (.string tx2) := by have h := hW.2.2.2.cell (fun h => h HPB.out) HG.out.2.1; simpa using h
    have q2 : W.cell? ⟨b, o + 11 + 2, none⟩ = some (.int .i64 nm2) := by have h := hW.2.2.2.cell (fun h => h HPB.out) HG.out.2.2.1; simpa using h
    have q3 : W.cell? ⟨b, o + 11 + 3, none⟩ = some (.int .u8 tk2) := by have h := hW.2.2.2.cell (fun h => h HPB.out) HG.out.2.2.2.1; simpa using h
    have q4 : W.cell? ⟨b, o + 11 + 4, none⟩ = some (.bool ng2) := by have h := hW.2.2.2.cell (fun h => h HPB.out) HG.out.2.2.2.2.1; simpa using h
    have q5 : W.cell? ⟨b, o + 11 + 5, none⟩ = some (.slice la2 ln2 lc2) := by have h := hW.2.2.2.cell (fun h => h HPB.out) HG.out.2.2.2.2.2.1; simpa using h
    have q6 : W.cell? ⟨b, o + 11 + 6, none⟩ = some (.string tt2) := by have h := hW.2.2.2.cell (fun h => h HPB.out) HG.out.2.2.2.2.2.2.1; simpa using h
    have q7 : W.cell? ⟨b, o + 11 + 7, none⟩ = some (.int .i64 tn2) := by have h := hW.2.2.2.cell (fun h => h HPB.out) HG.out.2.2.2.2.2.2.2.1; simpa using h
    have q8 : W.cell? ⟨b, o + 11 + 8, none⟩ = some (.slice ia2 im2 ic2) := by have h := hW.2.2.2.cell (fun h => h HPB.out) HG.out.2.2.2.2.2.2.2.2.1; simpa using h
    have q9 : W.cell? ⟨b, o + 11 + 9, none⟩ = some (.slice ta2 tm2 tc2) := by have h := hW.2.2.2.cell (fun h => h HPB.out) HG.out.2.2.2.2.2.2.2.2.2.1; simpa using h
    have q10 : W.cell? ⟨b, o + 11 + 10, none⟩ = some (.slice ka2 kn2 kc2) := by have h := hW.2.2.2.cell (fun h => h HPB.out) HG.out.2.2.2.2.2.2.2.2.2.2; simpa using h
    go_simp; rfl⟩) HS ?_
  try simp only [Act.put, List.setIfInBounds_toArray, List.set_cons_succ, List.set_cons_zero]
  refine order_held (i := 6) rfl (by kernel_rfl) (fun _ _ _ h => h) (.inl ⟨rfl, fun W hW => by
    have q0 : W.cell? ⟨bs, 0, none⟩ = some (.int .i64 s) := hW.2.2.1.cell 0
    go_simp; rfl⟩) HS ?_
  try simp only [Act.put, List.setIfInBounds_toArray, List.set_cons_succ, List.set_cons_zero]
  refine order_one (i := 7) rfl (by kernel_rfl) (fun K hK => ?_)
  go_simp
  refine (IH.out q HZ.out.2 W2 (fun k => Hand P bm bp bs k ∨ rowB A1 k) F kd2 tx2 nm2 tk2 ng2 la2 ln2 lc2 tt2 tn2 ia2 im2 ic2 ta2 tm2 tc2 ka2 kn2 kc2 s r.next free (cs ++ r.cs) mb (CoreIn.more (fun k _ h => .inl (.inl h)) _ _ (CoreIn.keep HS.2.2.2 (fun k h hn => hn h) _ _ HC2.out)) HMAY.out.2 HM2.out ⟨by omega, by omega, by rw [List.length_append]; omega⟩).mono ?_
  rintro e W5 ⟨A5, c5, rfl, hs5, hf5, hm5, hk5⟩
  rw [List.length_append, HRR2.out] at hs5 hm5 ⊢
  have hk6 : Keeps (fun k => ¬ Hand P bm bp bs k) W2 W5 := hk5.mono (fun _ _ h h2 => h (.inl h2))
  refine hK _ _ (fun _ hS => hS.go hk6) ?_
  clear hK
  have HS5 := hide (HS.go hk6)
  have HR5 := hide (HR2.out.keep hk5 (fun k h hn => hn (.inr h)))
  have HQ5 := hide hs5
  have HM5 := hide ((hm5.less (P' := Hand P bm bp bs) (fun k h => .inl (.inl h))).drop)
  clear hs5 hf5 hm5 hk5 hk6 HS
  try simp only [Act.put, List.setIfInBounds_toArray, List.set_cons_succ, List.set_cons_zero]
  refine order_one (i := 8) rfl (by kernel_rfl) (fun K hK => ?_)
  go_simp
  refine hK _ _ (fun _ hS => hS.fresh ((Keeps.refl NoB W5).alloc _)) ?_
  clear hK
  have H8 := hide (Blk.new W5 34 #[.slice A1 r.ins.length c1, .slice A5 r2.ins.length c5])
  have HR8 := hide (HR5.out.fresh ((Keeps.refl NoB W5).alloc (.cells #[.slice A1 r.ins.length c1, .slice A5 r2.ins.length c5] 34)))
  have HQ8 := hide (HQ5.out.fresh ((Keeps.refl NoB W5).alloc (.cells #[.slice A1 r.ins.length c1, .slice A5 r2.ins.length c5] 34)))
  have HM8 := hide (HM5.out.keep ((Keeps.refl NoB W5).alloc (.cells #[.slice A1 r.ins.length c1, .slice A5 r2.ins.length c5] 34)))
  have HK8 := hide (HS5.out.2.2.2.alloc (.cells #[.slice A1 r.ins.length c1, .slice A5 r2.ins.length c5] 34))
  try simp only [Act.put, List.setIfInBounds_toArray, List.set_cons_succ, List.set_cons_zero]
  refine order_one (i := 9) rfl (by kernel_rfl) (fun K hK => ?_)
  go_simp
  refine (rows_join r.ins r2.ins _ A1 A5 _ c1 _ c5 _ H8.out HR8.out HQ8.out (by omega)).mono ?_
  rintro e W9 ⟨A9, c9, rfl, g1, g2, g3⟩
  refine hK _ _ (fun _ hS => hS.fresh g3) ?_
  clear hK
  have HP1 := hide g1
  have HP2 : Hid (∀ k, rowB A9 k → w.heap.size ≤ k) := hide (fun k hk => Nat.le_trans HK8.out.size (g2 k hk))
  have HP3 := hide (HM8.out.grow (Q := rowB A9) g3 (fun k hr => ⟨g2 k hr, g1.lt hr⟩))
  have HP4 : Hid (Keeps (fun k => ¬ P k) w W9) := hide (HK8.out.trans' g3 (fun _ _ h => h) (fun _ _ h => h.elim))
  clear g1 g2 g3
  try simp only [Act.put, List.setIfInBounds_toArray, List.set_cons_succ, List.set_cons_zero]
  refine order_pure (i := 10) rfl (by kernel_rfl) (fun _ _ _ h => h) (.inl ⟨rfl, fun _ => by go_simp; rfl⟩) ?_
  try simp only [Act.put, List.setIfInBounds_toArray, List.set_cons_succ, List.set_cons_zero]
  refine order_done (by kernel_rfl) ?_
  go_wp2_with fail
  go_ret
  unfold AtPost
  have hl : (joinM r r2).ins.length = r.ins.length + r2.ins.length := by simp [joinM]
  rw [HE.out, hl]
  exact ⟨A9, c9, rfl, HP1.out, HP2.out, by have h := HP3.out; rw [List.append_assoc] at h; exact h, HP4.out⟩
end Go.Proofs.Ytdmldipnalklgaa
