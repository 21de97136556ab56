/- maker.at: of a list pattern. -/
import Derived.Test.YtdmldipnalklgaaAtTuple
namespace Go.Proofs.Ytdmldipnalklgaa
open Go.RowKit

theorem three_heads {w : World} {g : Nat} {t : TypeId} {v v' v'' : Value} (h : Blk w g t #[v, v', v'']) : Reads w (fun _ => True) true 1 (some ⟨g, 0, none⟩) 3 [v, v', v''] := by
  refine ⟨rfl, fun _ => ⟨_, rfl, rfl, trivial, h.lt, fun j u hu => ⟨?_, fun _ => h.free _⟩⟩⟩
  rw [h.cell, ← hu]; simp
/-- rows of one test, and of two lists. -/
theorem rows_three (i : Ins) (l l' : List Ins) (g gi : Nat) (A A' : Option Addr) (m c m' c' : Nat) (w : World) (h : Blk w g 34 #[.slice (some ⟨gi, 0, none⟩) 1 1, .slice A m c, .slice A' m' c']) (hi : Blk w gi 44 #[.int .u8 i.op, .int .i64 i.a, .int .i64 i.b, .int .i64 i.c, .int .i64 i.n, .int .i64 i.l, .string { data := #[] }, .slice none 0 0])
    (hl : Slab w 44 8 A m c (insL l)) (hl' : Slab w 44 8 A' m' c' (insL l')) (hm : m + m' ≤ 10000000) :
    Calls Try.prog 22 #[.slice (some ⟨g, 0, none⟩) 3 3] w fun e w' => ∃ A2 c2, e = .returned (.slice A2 (m + m' + 1) c2) ∧ Slab w' 44 8 A2 (m + m' + 1) c2 (insL (i :: (l ++ l'))) ∧ (∀ k, rowB A2 k → w.heap.size ≤ k) ∧ Keeps NoB w w' := by
  have hf : ([insC i, insL l, insL l'] : List (List Value)).flatten = insL (i :: (l ++ l')) := by rw [show i :: (l ++ l') = [i] ++ (l ++ l') from rfl, insL_append, insL_append]; simp [insL]
  have h1 : l.length = m := by have h := hl.1; rw [insL_len] at h; omega
  have h2 : l'.length = m' := by have h := hl'.1; rw [insL_len] at h; omega
  have hh : HeadsAt w (fun _ => True) true 8 [.slice (some ⟨gi, 0, none⟩) 1 1, .slice A m c, .slice A' m' c'] [insC i, insL l, insL l'] := by
    unfold HeadsAt
    exact ⟨⟨_, _, _, rfl, one_reads8 hi⟩, heads_two8 c c' (hl.reads.more (fun _ _ _ => trivial)) (hl'.reads.more (fun _ _ _ => trivial))⟩
  have h := rows_any [insC i, insL l, insL l'] [.slice (some ⟨gi, 0, none⟩) 1 1, .slice A m c, .slice A' m' c'] (some ⟨g, 0, none⟩) 3 3 (m + m' + 1) w (fun _ => True) (fun _ => True) true true (three_heads h) hh (by rw [hf, insL_len, List.length_cons, List.length_append, h1, h2]) (by rw [hf]; exact insL_ones _) (by unfold Roomy; omega) (by omega)
  rw [hf] at h
  exact h

set_option maxRecDepth 100000 in
set_option maxHeartbeats 2000000 in
theorem at_cons_arm (M : Nat) (IH : Hid (AtSaid M)) (p q : Co) (hM : Co.size.sizes [p, q] ≤ M) (css : List (List Value)) (w : World) (P : Nat → Prop) (F : Bool) (tx : ByteArray) (nm tk : Int) (ng : Bool) (la : Option Addr) (ln lc : Nat) (tt : ByteArray) (tn : Int) (ia : Option Addr) (im ic : Nat) (ta : Option Addr) (tm tc : Nat) (ka : Option Addr) (kc : Nat)
    (s next free : Int) (cs : List Tm) (mb : Nat) (hr : Reads w P F 11 ka 2 css.flatten) (hc : CoresIn w P F css [p, q]) (hmay : mays free [p, q] = true) (hm : MakerAt P w mb next cs) (hb : BoundM next cs (p.count + q.count)) :
    Calls Try.prog 15 #[.pointer (some ⟨mb, 0, none⟩), .agg #[.int .u8 25, .string tx, .int .i64 nm, .int .u8 tk, .bool ng, .slice la ln lc, .string tt, .int .i64 tn, .slice ia im ic, .slice ta tm tc, .slice ka 2 kc], .int .i64 s] w (AtPost P w mb cs (joinM ⟨[testI 14 s 0 0], next, []⟩ (consC s next cs.length [p, q]))) := by
  obtain ⟨b, o, kd1, tx1, nm1, tk1, ng1, la1, ln1, lc1, tt1, tn1, ia1, im1, ic1, ta1, tm1, tc1, ka1, kn1, kc1, t1, hA, hPb, e1, z1, hc1, f0, f1, f2, f3, f4, f5, f6, f7, f8, f9, f10⟩ := kid_at hr hc 0 (by omega)
  obtain ⟨b2, o2, kd2, tx2, nm2, tk2, ng2, la2, ln2, lc2, tt2, tn2, ia2, im2, ic2, ta2, tm2, tc2, ka2, kn2, kc2, t2, hA2, hPb2, e2, z2, hc2, g0, g1, g2, g3, g4, g5, g6, g7, g8, g9, g10⟩ := kid_at hr hc 1 (by omega)
  obtain rfl : p = t1 := by simpa using e1
  obtain rfl : q = t2 := by simpa using e2
  subst hA
  injection hA2 with hA2
  injection hA2 with hA2 hA3
  subst hA2 hA3
  rw [mays, mays, mays, Bool.and_true, Bool.and_eq_true] at hmay
  have HC1 := hide hc1; have HC2 := hide hc2; have HMAY := hide hmay; have HPB := hide hPb
  have HG := hide (And.intro g0 (And.intro g1 (And.intro g2 (And.intro g3 (And.intro g4 (And.intro g5 (And.intro g6 (And.intro g7 (And.intro g8 (And.intro g9 g10))))))))))
  have HZ : Hid (p.size ≤ M ∧ q.size ≤ M) := hide ⟨by omega, by omega⟩
  obtain ⟨hb1, hb2, hb3⟩ := hb
  have B0 := boxes_new w mb #[.int .u8 25, .string tx, .int .i64 nm, .int .u8 tk, .bool ng, .slice la ln lc, .string tt, .int .i64 tn, .slice ia im ic, .slice ta tm tc, .slice (some ⟨b, o, none⟩) 2 kc] s
  have p0 : (((w.alloc (.cells #[.pointer (some ⟨mb, 0, none⟩)] 49)).alloc (.cells #[.int .u8 25, .string tx, .int .i64 nm, .int .u8 tk, .bool ng, .slice la ln lc, .string tt, .int .i64 tn, .slice ia im ic, .slice ta tm tc, .slice (some ⟨b, o, none⟩) 2 kc] 30)).alloc (.cells #[.int .i64 s] 3)).cell? ⟨b, o, none⟩ = some (.int .u8 kd1) := by have h := B0.keep.cell id f0; simpa using h
  have p1 : (((w.alloc (.cells #[.pointer (some ⟨mb, 0, none⟩)] 49)).alloc (.cells #[.int .u8 25, .string tx, .int .i64 nm, .int .u8 tk, .bool ng, .slice la ln lc, .string tt, .int .i64 tn, .slice ia im ic, .slice ta tm tc, .slice (some ⟨b, o, none⟩) 2 kc] 30)).alloc (.cells #[.int .i64 s] 3)).cell? ⟨b, o + 1, none⟩ = some (.string tx1) := by have h := B0.keep.cell id f1; simpa using h
  have p2 : (((w.alloc (.cells #[.pointer (some ⟨mb, 0, none⟩)] 49)).alloc (.cells #[.int .u8 25, .string tx, .int .i64 nm, .int .u8 tk, .bool ng, .slice la ln lc, .string tt, .int .i64 tn, .slice ia im ic, .slice ta tm tc, .slice (some ⟨b, o, none⟩) 2 kc] 30)).alloc (.cells #[.int .i64 s] 3)).cell? ⟨b, o + 2, none⟩ = some (.int .i64 nm1) := by have h := B0.keep.cell id f2; simpa using h
  have p3 : (((w.alloc (.cells #[.pointer (some ⟨mb, 0, none⟩)] 49)).alloc (.cells #[.int .u8 25, .string tx, .int .i64 nm, .int .u8 tk, .bool ng, .slice la ln lc, .string tt, .int .i64 tn, .slice ia im ic, .slice ta tm tc, .slice (some ⟨b, o, none⟩) 2 kc] 30)).alloc (.cells #[.int .i64 s] 3)).cell? ⟨b, o + 3, none⟩ = some (.int .u8 tk1) := by have h := B0.keep.cell id f3; simpa using h
  have p4 : (((w.alloc (.cells #[.pointer (some ⟨mb, 0, none⟩)] 49)).alloc (.cells #[.int .u8 25, .string tx, .int .i64 nm, .int .u8 tk, .bool ng, .slice la ln lc, .string tt, .int .i64 tn, .slice ia im ic, .slice ta tm tc, .slice (some ⟨b, o, none⟩) 2 kc] 30)).alloc (.cells #[.int .i64 s] 3)).cell? ⟨b, o + 4, none⟩ = some (.bool ng1) := by have h := B0.keep.cell id f4; simpa using h
  have p5 : (((w.alloc (.cells #[.pointer (some ⟨mb, 0, none⟩)] 49)).alloc (.cells #[.int .u8 25, .string tx, .int .i64 nm, .int .u8 tk, .bool ng, .slice la ln lc, .string tt, .int .i64 tn, .slice ia im ic, .slice ta tm tc, .slice (some ⟨b, o, none⟩) 2 kc] 30)).alloc (.cells #[.int .i64 s] 3)).cell? ⟨b, o + 5, none⟩ = some (.slice la1 ln1 lc1) := by have h := B0.keep.cell id f5; simpa using h
  have p6 : (((w.alloc (.cells #[.pointer (some ⟨mb, 0, none⟩)] 49)).alloc (.cells #[.int .u8 25, .string tx, .int .i64 nm, .int .u8 tk, .bool ng, .slice la ln lc, .string tt, .int .i64 tn, .slice ia im ic, .slice ta tm tc, .slice (some ⟨b, o, none⟩) 2 kc] 30)).alloc (.cells #[.int .i64 s] 3)).cell? ⟨b, o + 6, none⟩ = some (.string tt1) := by have h := B0.keep.cell id f6; simpa using h
  have p7 : (((w.alloc (.cells #[.pointer (some ⟨mb, 0, none⟩)] 49)).alloc (.cells #[.int .u8 25, .string tx, .int .i64 nm, .int .u8 tk, .bool ng, .slice la ln lc, .string tt, .int .i64 tn, .slice ia im ic, .slice ta tm tc, .slice (some ⟨b, o, none⟩) 2 kc] 30)).alloc (.cells #[.int .i64 s] 3)).cell? ⟨b, o + 7, none⟩ = some (.int .i64 tn1) := by have h := B0.keep.cell id f7; simpa using h
  have p8 : (((w.alloc (.cells #[.pointer (some ⟨mb, 0, none⟩)] 49)).alloc (.cells #[.int .u8 25, .string tx, .int .i64 nm, .int .u8 tk, .bool ng, .slice la ln lc, .string tt, .int .i64 tn, .slice ia im ic, .slice ta tm tc, .slice (some ⟨b, o, none⟩) 2 kc] 30)).alloc (.cells #[.int .i64 s] 3)).cell? ⟨b, o + 8, none⟩ = some (.slice ia1 im1 ic1) := by have h := B0.keep.cell id f8; simpa using h
  have p9 : (((w.alloc (.cells #[.pointer (some ⟨mb, 0, none⟩)] 49)).alloc (.cells #[.int .u8 25, .string tx, .int .i64 nm, .int .u8 tk, .bool ng, .slice la ln lc, .string tt, .int .i64 tn, .slice ia im ic, .slice ta tm tc, .slice (some ⟨b, o, none⟩) 2 kc] 30)).alloc (.cells #[.int .i64 s] 3)).cell? ⟨b, o + 9, none⟩ = some (.slice ta1 tm1 tc1) := by have h := B0.keep.cell id f9; simpa using h
  have p10 : (((w.alloc (.cells #[.pointer (some ⟨mb, 0, none⟩)] 49)).alloc (.cells #[.int .u8 25, .string tx, .int .i64 nm, .int .u8 tk, .bool ng, .slice la ln lc, .string tt, .int .i64 tn, .slice ia im ic, .slice ta tm tc, .slice (some ⟨b, o, none⟩) 2 kc] 30)).alloc (.cells #[.int .i64 s] 3)).cell? ⟨b, o + 10, none⟩ = some (.slice ka1 kn1 kc1) := by have h := B0.keep.cell id f10; simpa using h
  have HS0 : Hid (BoxS P w mb w.heap.size (w.heap.size + 1) (w.heap.size + 1 + 1) #[.int .u8 25, .string tx, .int .i64 nm, .int .u8 tk, .bool ng, .slice la ln lc, .string tt, .int .i64 tn, .slice ia im ic, .slice ta tm tc, .slice (some ⟨b, o, none⟩) 2 kc] s (((w.alloc (.cells #[.pointer (some ⟨mb, 0, none⟩)] 49)).alloc (.cells #[.int .u8 25, .string tx, .int .i64 nm, .int .u8 tk, .bool ng, .slice la ln lc, .string tt, .int .i64 tn, .slice ia im ic, .slice ta tm tc, .slice (some ⟨b, o, none⟩) 2 kc] 30)).alloc (.cells #[.int .i64 s] 3))) := hide ⟨B0.m, B0.p, B0.s, B0.keep.mono (fun _ _ h => h.elim)⟩
  have HM0 : Hid (MakerAt (Hand P w.heap.size (w.heap.size + 1) (w.heap.size + 1 + 1)) (((w.alloc (.cells #[.pointer (some ⟨mb, 0, none⟩)] 49)).alloc (.cells #[.int .u8 25, .string tx, .int .i64 nm, .int .u8 tk, .bool ng, .slice la ln lc, .string tt, .int .i64 tn, .slice ia im ic, .slice ta tm tc, .slice (some ⟨b, o, none⟩) 2 kc] 30)).alloc (.cells #[.int .i64 s] 3)) mb next cs) := hide (hm.grow B0.keep (fun k hk => by
    rcases hk with rfl | rfl | rfl
    · exact ⟨Nat.le_refl _, B0.m.lt⟩
    · exact ⟨Nat.le_succ _, B0.p.lt⟩
    · exact ⟨by omega, B0.s.lt⟩))
  have hcnt1 : 1 ≤ p.count := by cases p; simp only [Co.count]; omega
  have hcnt2 : 1 ≤ q.count := by cases q; simp only [Co.count]; omega
  obtain ⟨r, hrr⟩ : ∃ r, childM 18 0 s next p (atC next (next + 1) cs.length p) = r := ⟨_, rfl⟩
  have hfp : FewM next p.count r := hrr ▸ FewM.child (fun _ _ => by
    obtain ⟨a1, a2, a3, a4⟩ := at_few next (next + 1) cs.length p
    exact ⟨a1, a2, by omega, by omega⟩) hcnt1
  obtain ⟨r2, hrr2⟩ : ∃ r2, childM 19 0 s r.next q (atC r.next (r.next + 1) (cs.length + r.cs.length) q) = r2 := ⟨_, rfl⟩
  have hfq : FewM r.next q.count r2 := hrr2 ▸ FewM.child (fun _ _ => by
    obtain ⟨a1, a2, a3, a4⟩ := at_few r.next (r.next + 1) (cs.length + r.cs.length) q
    exact ⟨a1, a2, by omega, by omega⟩) hcnt2
  have HE : Hid (joinM ⟨[testI 14 s 0 0], next, []⟩ (consC s next cs.length [p, q]) = ⟨testI 14 s 0 0 :: (r.ins ++ r2.ins), r2.next, r.cs ++ r2.cs⟩) := hide (by simp [consC, joinM, hrr, hrr2])
  have HRR := hide hrr; have HRR2 := hide hrr2
  obtain ⟨hp1, hp2, hp3, hp4⟩ := hfp
  obtain ⟨hq1, hq2, hq3, hq4⟩ := hfq
  clear hr hc hc1 hc2 hmay hm B0 f0 f1 f2 f3 f4 f5 f6 f7 f8 f9 f10 g0 g1 g2 g3 g4 g5 g6 g7 g8 g9 g10 hM z1 z2 e1 e2 hPb hPb2 hrr hrr2
  go_enter Try.func15, Try.ntmps15
  go_wp2_with
    first
    | (go_at_call 21
       refine (at1_of M IH p HZ.out.1 _ (Hand P w.heap.size (w.heap.size + 1) (w.heap.size + 1 + 1)) F kd1 tx1 nm1 tk1 ng1 la1 ln1 lc1 tt1 tn1 ia1 im1 ic1 ta1 tm1 tc1 ka1 kn1 kc1 18 0 s _ free _ mb (w.heap.size + 1 + 1) w.heap.size (CoreIn.more (fun k _ h => .inl h) _ _ (CoreIn.keep HS0.out.2.2.2 (fun k h hn => hn h) _ _ HC1.out)) HMAY.out.1 HM0.out ⟨by omega, by omega, by omega⟩ HS0.out.2.2.1 (.inr (.inr (.inr rfl))) HS0.out.1 (.inr (.inl rfl))).mono ?_
       rintro e w1 ⟨A1, c1, rfl, hs1, hf1, hm1, hk1⟩
       rw [HRR.out] at hs1 hm1 ⊢
       have HS1 := hide (HS0.out.go hk1)
       have HR1 := hide hs1
       have HM1 := hide hm1
       clear hs1 hf1 hm1 hk1 p0 p1 p2 p3 p4 p5 p6 p7 p8 p9 p10)
    | fail
  clear HS0 HM0
  generalize hbs : w.heap.size + 1 + 1 = bs at HS1 HM1 ⊢
  generalize hbp : w.heap.size + 1 = bp at HS1 HM1 ⊢
  generalize hbm : w.heap.size = bm at HS1 HM1 ⊢
  clear hbs hbp hbm
  refine order_begin (BoxS P w mb bm bp bs #[.int .u8 25, .string tx, .int .i64 nm, .int .u8 tk, .bool ng, .slice la ln lc, .string tt, .int .i64 tn, .slice ia im ic, .slice ta tm tc, .slice (some ⟨b, o, none⟩) 2 kc] s) (fun _ => true) (by kernel_rfl) 13 rfl ?_
  have HS2 : Hid (BoxS P w mb bm bp bs #[.int .u8 25, .string tx, .int .i64 nm, .int .u8 tk, .bool ng, .slice la ln lc, .string tt, .int .i64 tn, .slice ia im ic, .slice ta tm tc, .slice (some ⟨b, o, none⟩) 2 kc] s w1.drew) := hide HS1.out.drew
  have HR2 := hide HR1.out.drew
  have HM2 : Hid (MakerAt (fun k => Hand P bm bp bs k ∨ rowB A1 k) w1.drew mb r.next (cs ++ r.cs)) := hide (HM1.out.keep (Keeps.refl _ _).drew)
  clear HS1 HR1 HM1
  generalize w1.drew = W0 at *
  have HS := HS2.out
  refine order_held (i := 0) rfl (by kernel_rfl) (fun _ _ _ h => h) (.inl ⟨rfl, fun W hW => by
    have q0 : W.cell? ⟨bs, 0, none⟩ = some (.int .i64 s) := hW.2.2.1.cell 0
    go_simp; rfl⟩) HS ?_
  try simp only [Act.put, List.setIfInBounds_toArray, List.set_cons_succ, List.set_cons_zero]
  refine order_pure (i := 3) rfl (by kernel_rfl) (fun _ _ _ h => h) (.inl ⟨rfl, fun _ => by go_simp; rfl⟩) ?_
  try simp only [Act.put, List.setIfInBounds_toArray, List.set_cons_succ, List.set_cons_zero]
  refine order_pure (i := 4) rfl (by kernel_rfl) (fun _ _ _ h => h) (.inl ⟨rfl, fun _ => by go_simp; rfl⟩) ?_
  try simp only [Act.put, List.setIfInBounds_toArray, List.set_cons_succ, List.set_cons_zero]
  refine order_pure (i := 5) rfl (by kernel_rfl) (fun _ _ _ h => h) (.inl ⟨rfl, fun _ => by go_simp; rfl⟩) ?_
  try simp only [Act.put, List.setIfInBounds_toArray, List.set_cons_succ, List.set_cons_zero]
  refine order_held (i := 6) rfl (by kernel_rfl) (fun _ _ _ h => h) (.inl ⟨rfl, fun W hW => by
    have q0 : W.cell? ⟨bp, 10, none⟩ = some (.slice (some ⟨b, o, none⟩) 2 kc) := hW.2.1.cell 10
    go_simp; rfl⟩) HS ?_
  try simp only [Act.put, List.setIfInBounds_toArray, List.set_cons_succ, List.set_cons_zero]
  refine order_pure (i := 7) rfl (by kernel_rfl) (fun _ _ _ h => h) (.inl ⟨rfl, fun _ => by go_simp; rfl⟩) ?_
  try simp only [Act.put, List.setIfInBounds_toArray, List.set_cons_succ, List.set_cons_zero]
  refine order_held (i := 8) rfl (by kernel_rfl) (fun _ _ _ h => h) (.inl ⟨rfl, fun W hW => by
    have q0 : W.cell? ⟨b, o + 11, none⟩ = some (.int .u8 kd2) := by have h := hW.2.2.2.cell (fun h => h HPB.out) HG.out.1; simpa using h
    have q1 : W.cell? ⟨b, o + 11 + 1, none⟩ = some (.string tx2) := by have h := hW.2.2.2.cell (fun h => h HPB.out) HG.out.2.1; simpa using h
    have q2 : W.cell? ⟨b, o + 11 + 2, none⟩ = some (.int .i64 nm2) := by have h := hW.2.2.2.cell (fun h => h HPB.out) HG.out.2.2.1; simpa using h
    have q3 : W.cell? ⟨b, o + 11 + 3, none⟩ = some (.int .u8 tk2) := by have h := hW.2.2.2.cell (fun h => h HPB.out) HG.out.2.2.2.1; simpa using h
    have q4 : W.cell? ⟨b, o + 11 + 4, none⟩ = some (.bool ng2) := by have h := hW.2.2.2.cell (fun h => h HPB.out) HG.out.2.2.2.2.1; simpa using h
    have q5 : W.cell? ⟨b, o + 11 + 5, none⟩ = some (.slice la2 ln2 lc2) := by have h := hW.2.2.2.cell (fun h => h HPB.out) HG.out.2.2.2.2.2.1; simpa using h
    have q6 : W.cell? ⟨b, o + 11 + 6, none⟩ = some (.string tt2) := by have h := hW.2.2.2.cell (fun h => h HPB.out) HG.out.2.2.2.2.2.2.1; simpa using h
    have q7 : W.cell? ⟨b, o + 11 + 7, none⟩ = some (.int .i64 tn2) := by have h := hW.2.2.2.cell (fun h => h HPB.out) HG.out.2.2.2.2.2.2.2.1; simpa using h
    have q8 : W.cell? ⟨b, o + 11 + 8, none⟩ = some (.slice ia2 im2 ic2) := by have h := hW.2.2.2.cell (fun h => h HPB.out) HG.out.2.2.2.2.2.2.2.2.1; simpa using h
    have q9 : W.cell? ⟨b, o + 11 + 9, none⟩ = some (.slice ta2 tm2 tc2) := by have h := hW.2.2.2.cell (fun h => h HPB.out) HG.out.2.2.2.2.2.2.2.2.2.1; simpa using h
    have q10 : W.cell? ⟨b, o + 11 + 10, none⟩ = some (.slice ka2 kn2 kc2) := by have h := hW.2.2.2.cell (fun h => h HPB.out) HG.out.2.2.2.2.2.2.2.2.2.2; simpa using h
    go_simp; rfl⟩) HS ?_
  try simp only [Act.put, List.setIfInBounds_toArray, List.set_cons_succ, List.set_cons_zero]
  refine order_one (i := 1) rfl (by kernel_rfl) (fun K hK => ?_)
  go_simp
  refine (test_any 14 s 0 0 W0).mono ?_
  rintro e W1 ⟨rfl, hk⟩
  refine hK _ _ (fun _ hS => hS.fresh hk) ?_
  clear hK
  have HS1 := hide (HS2.out.fresh hk)
  have HR1 := hide (HR2.out.fresh hk)
  have HM1 := hide (HM2.out.keep hk)
  clear HS HS2 HR2 HM2 hk
  try simp only [Act.put, List.setIfInBounds_toArray, List.set_cons_succ, List.set_cons_zero]
  refine order_two (i := 2) (j := 9) rfl rfl (by kernel_rfl) (fun K hK => ?_) (fun K hK => ?_)
  · go_simp
    refine hK _ _ (fun _ hS => hS.fresh ((Keeps.refl NoB W1).alloc _)) ?_
    clear hK
    try simp only [Act.put, List.setIfInBounds_toArray, List.set_cons_succ, List.set_cons_zero]
    have HS3 := hide (HS1.out.fresh ((Keeps.refl NoB W1).alloc (.cells #[.int .u8 14, .int .i64 0, .int .i64 s, .int .i64 0, .int .i64 0, .int .i64 (-1), .string { data := #[] }, .slice none 0 0] 44)))
    have HG3 := hide (Blk.new W1 44 #[.int .u8 14, .int .i64 0, .int .i64 s, .int .i64 0, .int .i64 0, .int .i64 (-1), .string { data := #[] }, .slice none 0 0])
    have HR3 := hide (HR1.out.fresh ((Keeps.refl NoB W1).alloc (.cells #[.int .u8 14, .int .i64 0, .int .i64 s, .int .i64 0, .int .i64 0, .int .i64 (-1), .string { data := #[] }, .slice none 0 0] 44)))
    have HM3 : Hid (MakerAt (fun k => (Hand P bm bp bs k ∨ rowB A1 k) ∨ k = W1.heap.size) (W1.alloc (.cells #[.int .u8 14, .int .i64 0, .int .i64 s, .int .i64 0, .int .i64 0, .int .i64 (-1), .string { data := #[] }, .slice none 0 0] 44)) mb r.next (cs ++ r.cs)) := hide (HM1.out.grow ((Keeps.refl NoB W1).alloc (.cells #[.int .u8 14, .int .i64 0, .int .i64 s, .int .i64 0, .int .i64 0, .int .i64 (-1), .string { data := #[] }, .slice none 0 0] 44)) (fun k hk => by subst hk; exact ⟨Nat.le_refl _, by simp⟩))
    clear HS1 HR1 HM1
    generalize W1.alloc (.cells #[.int .u8 14, .int .i64 0, .int .i64 s, .int .i64 0, .int .i64 0, .int .i64 (-1), .string { data := #[] }, .slice none 0 0] 44) = V1 at *
    generalize W1.heap.size = g1 at *
    refine order_one (i := 9) rfl (by kernel_rfl) (fun K hK => ?_)
    go_simp
    refine (at1_of M IH q HZ.out.2 V1 (fun k => (Hand P bm bp bs k ∨ rowB A1 k) ∨ k = g1) F kd2 tx2 nm2 tk2 ng2 la2 ln2 lc2 tt2 tn2 ia2 im2 ic2 ta2 tm2 tc2 ka2 kn2 kc2 19 0 s r.next free (cs ++ r.cs) mb bs bm (CoreIn.more (fun k _ h => .inl (.inl (.inl h))) _ _ (CoreIn.keep HS3.out.2.2.2 (fun k h hn => hn h) _ _ HC2.out)) HMAY.out.2 HM3.out ⟨by omega, by omega, by rw [List.length_append]; omega⟩ HS3.out.2.2.1 (.inl (.inl (.inr (.inr (.inr rfl))))) HS3.out.1 (.inl (.inl (.inr (.inl rfl))))).mono ?_
    rintro e V9 ⟨A2, c2, rfl, hs, hf, hm, hk⟩
    rw [List.length_append, HRR2.out] at hs hm ⊢
    have hk' : Keeps (fun k => ¬ Hand P bm bp bs k) V1 V9 := hk.mono (fun _ _ h h2 => h (.inl (.inl h2)))
    refine hK _ _ (fun _ hS => hS.go hk') ?_
    clear hK
    have HGI := hide (HG3.out.keep hk (fun h => h (.inr rfl)))
    have HSL := hide hs
    have HHL := hide (HR3.out.keep hk (fun k h hn => hn (.inl (.inr h))))
    have HMK := hide (hm.less (P' := P) (fun k h => .inl (.inl (.inl (.inl h)))))
    have HKW : Hid (Keeps (fun k => ¬ P k) w V9) := hide ((HS3.out.go hk').2.2.2)
    clear hs hf hm hk hk' HS3 HG3 HR3 HM3
    try simp only [Act.put, List.setIfInBounds_toArray, List.set_cons_succ, List.set_cons_zero]
    refine order_one (i := 10) rfl (by kernel_rfl) (fun K hK => ?_)
    go_simp
    refine hK _ _ (fun _ hS => hS.fresh ((Keeps.refl NoB V9).alloc _)) ?_
    clear hK
    try simp only [Act.put, List.setIfInBounds_toArray, List.set_cons_succ, List.set_cons_zero]
    have H7 := hide (Blk.new V9 34 #[.slice (some ⟨g1, 0, none⟩) 1 1, .slice A1 r.ins.length c1, .slice A2 r2.ins.length c2])
    have HG7 := hide (HGI.out.alloc (.cells #[.slice (some ⟨g1, 0, none⟩) 1 1, .slice A1 r.ins.length c1, .slice A2 r2.ins.length c2] 34))
    have HSL7 := hide (HSL.out.fresh ((Keeps.refl NoB V9).alloc (.cells #[.slice (some ⟨g1, 0, none⟩) 1 1, .slice A1 r.ins.length c1, .slice A2 r2.ins.length c2] 34)))
    have HHL7 := hide (HHL.out.fresh ((Keeps.refl NoB V9).alloc (.cells #[.slice (some ⟨g1, 0, none⟩) 1 1, .slice A1 r.ins.length c1, .slice A2 r2.ins.length c2] 34)))
    have HMK7 := hide (HMK.out.keep ((Keeps.refl NoB V9).alloc (.cells #[.slice (some ⟨g1, 0, none⟩) 1 1, .slice A1 r.ins.length c1, .slice A2 r2.ins.length c2] 34)))
    have HKW7 := hide (HKW.out.alloc (.cells #[.slice (some ⟨g1, 0, none⟩) 1 1, .slice A1 r.ins.length c1, .slice A2 r2.ins.length c2] 34))
    clear HGI HSL HHL HMK HKW
    refine order_one (i := 11) rfl (by kernel_rfl) (fun K hK => ?_)
    go_simp
    refine (rows_three (testI 14 s 0 0) r.ins r2.ins _ g1 A1 A2 r.ins.length c1 r2.ins.length c2 _ H7.out HG7.out HHL7.out HSL7.out (by omega)).mono ?_
    rintro e V8 ⟨A3, c3, rfl, g1', g2', g3'⟩
    refine hK _ _ (fun _ hS => hS.fresh g3') ?_
    clear hK
    have HF1 := hide g1'
    have HF2 : Hid (∀ k, rowB A3 k → w.heap.size ≤ k) := hide (fun k hk => Nat.le_trans HKW7.out.size (g2' k hk))
    have HF3 := hide (HMK7.out.grow (Q := rowB A3) g3' (fun k hr => ⟨g2' k hr, g1'.lt hr⟩))
    have HF4 : Hid (Keeps (fun k => ¬ P k) w V8) := hide (HKW7.out.trans' g3' (fun _ _ h => h) (fun _ _ h => h.elim))
    clear g1' g2' g3'
    try simp only [Act.put, List.setIfInBounds_toArray, List.set_cons_succ, List.set_cons_zero]
    refine order_pure (i := 12) rfl (by kernel_rfl) (fun _ _ _ h => h) (.inl ⟨rfl, fun _ => by go_simp; rfl⟩) ?_
    try simp only [Act.put, List.setIfInBounds_toArray, List.set_cons_succ, List.set_cons_zero]
    refine order_done (by kernel_rfl) ?_
    go_wp2_with fail
    go_ret
    unfold AtPost
    rw [HE.out]
    have hlen : (testI 14 s 0 0 :: (r.ins ++ r2.ins)).length = r.ins.length + r2.ins.length + 1 := by simp
    rw [hlen]
    exact ⟨A3, c3, rfl, HF1.out, HF2.out, by have h := HF3.out; rw [List.append_assoc] at h; exact h, HF4.out⟩
  · go_simp
    refine (at1_of M IH q HZ.out.2 W1 (fun k => Hand P bm bp bs k ∨ rowB A1 k) F kd2 tx2 nm2 tk2 ng2 la2 ln2 lc2 tt2 tn2 ia2 im2 ic2 ta2 tm2 tc2 ka2 kn2 kc2 19 0 s r.next free (cs ++ r.cs) mb bs bm (CoreIn.more (fun k _ h => .inl (.inl h)) _ _ (CoreIn.keep HS1.out.2.2.2 (fun k h hn => hn h) _ _ HC2.out)) HMAY.out.2 HM1.out ⟨by omega, by omega, by rw [List.length_append]; omega⟩ HS1.out.2.2.1 (.inl (.inr (.inr (.inr rfl)))) HS1.out.1 (.inl (.inr (.inl rfl)))).mono ?_
    rintro e V1 ⟨A2, c2, rfl, hs, hf, hm, hk⟩
    rw [List.length_append, HRR2.out] at hs hm ⊢
    have hk' : Keeps (fun k => ¬ Hand P bm bp bs k) W1 V1 := hk.mono (fun _ _ h h2 => h (.inl h2))
    refine hK _ _ (fun _ hS => hS.go hk') ?_
    clear hK
    have HS3 := hide (HS1.out.go hk')
    have HR3 := hide (HR1.out.keep hk (fun k h hn => hn (.inr h)))
    have HQ3 := hide hs
    have HM3 := hide (hm.less (P' := P) (fun k h => .inl (.inl (.inl h))))
    clear hs hf hm hk hk' HS1 HR1 HM1
    try simp only [Act.put, List.setIfInBounds_toArray, List.set_cons_succ, List.set_cons_zero]
    refine order_one (i := 2) rfl (by kernel_rfl) (fun K hK => ?_)
    go_simp
    refine hK _ _ (fun _ hS => hS.fresh ((Keeps.refl NoB V1).alloc _)) ?_
    clear hK
    have HGI := hide (Blk.new V1 44 #[.int .u8 14, .int .i64 0, .int .i64 s, .int .i64 0, .int .i64 0, .int .i64 (-1), .string { data := #[] }, .slice none 0 0])
    have HSL := hide (HQ3.out.fresh ((Keeps.refl NoB V1).alloc (.cells #[.int .u8 14, .int .i64 0, .int .i64 s, .int .i64 0, .int .i64 0, .int .i64 (-1), .string { data := #[] }, .slice none 0 0] 44)))
    have HHL := hide (HR3.out.fresh ((Keeps.refl NoB V1).alloc (.cells #[.int .u8 14, .int .i64 0, .int .i64 s, .int .i64 0, .int .i64 0, .int .i64 (-1), .string { data := #[] }, .slice none 0 0] 44)))
    have HMK := hide (HM3.out.keep ((Keeps.refl NoB V1).alloc (.cells #[.int .u8 14, .int .i64 0, .int .i64 s, .int .i64 0, .int .i64 0, .int .i64 (-1), .string { data := #[] }, .slice none 0 0] 44)))
    have HKW : Hid (Keeps (fun k => ¬ P k) w (V1.alloc (.cells #[.int .u8 14, .int .i64 0, .int .i64 s, .int .i64 0, .int .i64 0, .int .i64 (-1), .string { data := #[] }, .slice none 0 0] 44))) := hide (HS3.out.2.2.2.alloc (.cells #[.int .u8 14, .int .i64 0, .int .i64 s, .int .i64 0, .int .i64 0, .int .i64 (-1), .string { data := #[] }, .slice none 0 0] 44))
    clear HS3 HR3 HQ3 HM3
    try simp only [Act.put, List.setIfInBounds_toArray, List.set_cons_succ, List.set_cons_zero]
    generalize V1.alloc (.cells #[.int .u8 14, .int .i64 0, .int .i64 s, .int .i64 0, .int .i64 0, .int .i64 (-1), .string { data := #[] }, .slice none 0 0] 44) = V9 at *
    generalize V1.heap.size = g1 at *
    refine order_one (i := 10) rfl (by kernel_rfl) (fun K hK => ?_)
    go_simp
    refine hK _ _ (fun _ hS => hS.fresh ((Keeps.refl NoB V9).alloc _)) ?_
    clear hK
    try simp only [Act.put, List.setIfInBounds_toArray, List.set_cons_succ, List.set_cons_zero]
    have H7 := hide (Blk.new V9 34 #[.slice (some ⟨g1, 0, none⟩) 1 1, .slice A1 r.ins.length c1, .slice A2 r2.ins.length c2])
    have HG7 := hide (HGI.out.alloc (.cells #[.slice (some ⟨g1, 0, none⟩) 1 1, .slice A1 r.ins.length c1, .slice A2 r2.ins.length c2] 34))
    have HSL7 := hide (HSL.out.fresh ((Keeps.refl NoB V9).alloc (.cells #[.slice (some ⟨g1, 0, none⟩) 1 1, .slice A1 r.ins.length c1, .slice A2 r2.ins.length c2] 34)))
    have HHL7 := hide (HHL.out.fresh ((Keeps.refl NoB V9).alloc (.cells #[.slice (some ⟨g1, 0, none⟩) 1 1, .slice A1 r.ins.length c1, .slice A2 r2.ins.length c2] 34)))
    have HMK7 := hide (HMK.out.keep ((Keeps.refl NoB V9).alloc (.cells #[.slice (some ⟨g1, 0, none⟩) 1 1, .slice A1 r.ins.length c1, .slice A2 r2.ins.length c2] 34)))
    have HKW7 := hide (HKW.out.alloc (.cells #[.slice (some ⟨g1, 0, none⟩) 1 1, .slice A1 r.ins.length c1, .slice A2 r2.ins.length c2] 34))
    clear HGI HSL HHL HMK HKW
    refine order_one (i := 11) rfl (by kernel_rfl) (fun K hK => ?_)
    go_simp
    refine (rows_three (testI 14 s 0 0) r.ins r2.ins _ g1 A1 A2 r.ins.length c1 r2.ins.length c2 _ H7.out HG7.out HHL7.out HSL7.out (by omega)).mono ?_
    rintro e V8 ⟨A3, c3, rfl, g1', g2', g3'⟩
    refine hK _ _ (fun _ hS => hS.fresh g3') ?_
    clear hK
    have HF1 := hide g1'
    have HF2 : Hid (∀ k, rowB A3 k → w.heap.size ≤ k) := hide (fun k hk => Nat.le_trans HKW7.out.size (g2' k hk))
    have HF3 := hide (HMK7.out.grow (Q := rowB A3) g3' (fun k hr => ⟨g2' k hr, g1'.lt hr⟩))
    have HF4 : Hid (Keeps (fun k => ¬ P k) w V8) := hide (HKW7.out.trans' g3' (fun _ _ h => h) (fun _ _ h => h.elim))
    clear g1' g2' g3'
    try simp only [Act.put, List.setIfInBounds_toArray, List.set_cons_succ, List.set_cons_zero]
    refine order_pure (i := 12) rfl (by kernel_rfl) (fun _ _ _ h => h) (.inl ⟨rfl, fun _ => by go_simp; rfl⟩) ?_
    try simp only [Act.put, List.setIfInBounds_toArray, List.set_cons_succ, List.set_cons_zero]
    refine order_done (by kernel_rfl) ?_
    go_wp2_with fail
    go_ret
    unfold AtPost
    rw [HE.out]
    have hlen : (testI 14 s 0 0 :: (r.ins ++ r2.ins)).length = r.ins.length + r2.ins.length + 1 := by simp
    rw [hlen]
    exact ⟨A3, c3, rfl, HF1.out, HF2.out, by have h := HF3.out; rw [List.append_assoc] at h; exact h, HF4.out⟩
end Go.Proofs.Ytdmldipnalklgaa
