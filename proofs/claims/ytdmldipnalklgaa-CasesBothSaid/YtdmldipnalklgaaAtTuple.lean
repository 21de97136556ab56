/- maker.at: of a tuple pattern. -/
import Derived.Test.YtdmldipnalklgaaHand
import Derived.Test.YtdmldipnalklgaaAt1
namespace Go.Proofs.Ytdmldipnalklgaa
open Go.RowKit

theorem join_assoc (a b c : Made) : joinM (joinM a b) c = joinM a (joinM b c) := by unfold joinM; simp
theorem each_snoc (s next : Int) (nc : Nat) : ∀ (ts : List Co) (i : Int) (t : Co), eachC s next nc i (ts ++ [t]) = joinM (eachC s next nc i ts) (childM 17 (i + ts.length) s (eachC s next nc i ts).next t (atC (eachC s next nc i ts).next ((eachC s next nc i ts).next + 1) (nc + (eachC s next nc i ts).cs.length) t))
  | [], i, t => by simp [eachC, joinM]
  | a :: ts, i, t => by
    rw [List.cons_append]
    unfold eachC
    simp only
    rw [each_snoc s _ _ ts (i + 1) t, ← join_assoc]
    have e1 : i + 1 + (ts.length : Int) = i + ((a :: ts).length : Int) := by simp; omega
    rw [e1]
    congr 2
    simp [joinM, Nat.add_assoc]

/-- A row that is not the maker's own has been appended to. -/
theorem MakerAt.push {Q : Nat → Prop} {w w' : World} {mb : Nat} {next : Int} {cs : List Tm} {A A' : Option Addr} (h : MakerAt (fun k => Q k ∨ rowB A k) w mb next cs) (hk : Keeps (rowB A) w w') (hm : Moved w A A') (hl : ∀ k, rowB A' k → k < w'.heap.size) : MakerAt (fun k => Q k ∨ rowB A' k) w' mb next cs := by
  obtain ⟨A0, c, css, h1, h2, h3, h4, h5, h6⟩ := h
  have h7 : TermsIn w (fun k => (k ≠ mb ∧ ¬ rowB A0 k ∧ ¬ (Q k ∨ rowB A k)) ∧ k < w.heap.size) true css cs := TermsIn.more (fun k hl hb => ⟨hb, hl⟩) _ _ h3
  have h8 : TermsIn w' (fun k => k ≠ mb ∧ ¬ rowB A0 k ∧ ¬ (Q k ∨ rowB A' k)) true css cs := TermsIn.more (fun k _ hb => ⟨hb.1.1, hb.1.2.1, fun e => e.elim (fun e => hb.1.2.2 (.inl e)) (fun e => (hm k e).elim (fun e => hb.1.2.2 (.inr e)) (fun e => by have := hb.2; omega))⟩) _ _ (TermsIn.keep hk (fun k hb hr => hb.1.2.2 (.inr hr)) _ _ h7)
  refine ⟨A0, c, css, h1.keep hk (fun hr => h4 (.inr hr)), h2.keep hk (fun k hr ha => h5 k (.inr ha) hr), h8, ?_, ?_, ?_⟩
  · rintro (e | e)
    · exact h4 (.inl e)
    · rcases hm mb e with e | e
      · exact h4 (.inr e)
      · have := h1.lt; omega
  · rintro k (e | e) hr
    · exact h5 k (.inl e) hr
    · rcases hm k e with e | e
      · exact h5 k (.inr e) hr
      · have := h2.lt hr; omega
  · rintro k (e | e)
    · exact Nat.lt_of_lt_of_le (h6 k (.inl e)) hk.size
    · exact hl k e

theorem counts_take_le (ts : List Co) (k : Nat) : Co.count.counts (ts.take k) ≤ Co.count.counts ts := by
  have h : ts = ts.take k ++ ts.drop k := (List.take_append_drop k ts).symm
  have h2 := counts_append (ts.take k) (ts.drop k)
  rw [← h] at h2; omega
/-- Behind some parts of a tuple. -/
structure TupAt (P : Nat → Prop) (w : World) (mb bm bp bs : Nat) (C : Array Value) (s : Int) (cs : List Tm) (l : List Ins) (next : Int) (A : Option Addr) (m c : Nat) (wr : World) : Prop where
  box : BoxS P w mb bm bp bs C s wr
  maker : MakerAt (fun k => Hand P bm bp bs k ∨ rowB A k) wr mb next cs
  row : Slab wr 44 8 A m c (insL l)
  new : ∀ k, rowB A k → w.heap.size ≤ k
  far : ∀ k, rowB A k → ¬ Hand P bm bp bs k

set_option maxRecDepth 100000 in
set_option maxHeartbeats 2000000 in
theorem at_tuple_arm (M : Nat) (IH : Hid (AtSaid M)) (kids : List Co) (hM : Co.size.sizes kids ≤ M) (css : List (List Value)) (w : World) (P : Nat → Prop) (F : Bool) (tx : ByteArray) (nm tk : Int) (ng : Bool) (la : Option Addr) (ln lc : Nat) (tt : ByteArray) (tn : Int) (ia : Option Addr) (im ic : Nat) (ta : Option Addr) (tm tc : Nat) (ka : Option Addr) (kn kc : Nat)
    (s next free : Int) (cs : List Tm) (mb : Nat) (hr : Reads w P F 11 ka kn css.flatten) (hc : CoresIn w P F css kids) (hmay : mays free kids = true) (hm : MakerAt P w mb next cs) (hb : BoundM next cs (Co.count.counts kids)) (hkn : kn ≤ 4096) :
    Calls Try.prog 15 #[.pointer (some ⟨mb, 0, none⟩), .agg #[.int .u8 24, .string tx, .int .i64 nm, .int .u8 tk, .bool ng, .slice la ln lc, .string tt, .int .i64 tn, .slice ia im ic, .slice ta tm tc, .slice ka kn kc], .int .i64 s] w (AtPost P w mb cs (joinM ⟨[testI 13 s 0 kids.length], next, []⟩ (eachC s next cs.length 0 kids))) := by
  have hkl : kids.length = kn := by have h5 := hr.1; rw [flat_len hc.lens.2, hc.lens.1] at h5; omega
  have B0 := boxes_new w mb #[.int .u8 24, .string tx, .int .i64 nm, .int .u8 tk, .bool ng, .slice la ln lc, .string tt, .int .i64 tn, .slice ia im ic, .slice ta tm tc, .slice ka kn kc] s
  have HS0 : Hid (BoxS P w mb w.heap.size (w.heap.size + 1) (w.heap.size + 1 + 1) #[.int .u8 24, .string tx, .int .i64 nm, .int .u8 tk, .bool ng, .slice la ln lc, .string tt, .int .i64 tn, .slice ia im ic, .slice ta tm tc, .slice ka kn kc] s (((w.alloc (.cells #[.pointer (some ⟨mb, 0, none⟩)] 49)).alloc (.cells #[.int .u8 24, .string tx, .int .i64 nm, .int .u8 tk, .bool ng, .slice la ln lc, .string tt, .int .i64 tn, .slice ia im ic, .slice ta tm tc, .slice ka kn kc] 30)).alloc (.cells #[.int .i64 s] 3))) := hide ⟨B0.m, B0.p, B0.s, B0.keep.mono (fun _ _ h => h.elim)⟩
  have HM0 : Hid (MakerAt (Hand P w.heap.size (w.heap.size + 1) (w.heap.size + 1 + 1)) (((w.alloc (.cells #[.pointer (some ⟨mb, 0, none⟩)] 49)).alloc (.cells #[.int .u8 24, .string tx, .int .i64 nm, .int .u8 tk, .bool ng, .slice la ln lc, .string tt, .int .i64 tn, .slice ia im ic, .slice ta tm tc, .slice ka kn kc] 30)).alloc (.cells #[.int .i64 s] 3)) mb next cs) := hide (hm.grow B0.keep (fun k hk => by
    rcases hk with rfl | rfl | rfl
    · exact ⟨Nat.le_refl _, B0.m.lt⟩
    · exact ⟨Nat.le_succ _, B0.p.lt⟩
    · exact ⟨by omega, B0.s.lt⟩))
  have HR := hide hr; have HC := hide hc; have HMAY := hide hmay; have HB := hide hb; have HKL := hide hkl; have HMM := hide hM
  clear hr hc hmay hm hb hkl hM B0
  go_enter Try.func15, Try.ntmps15
  go_wp2_with
    first
    | (go_at_call 23
       refine (test_any 13 s 0 kn _).mono ?_
       rintro e w4 ⟨rfl, hk4⟩
       have HS4 := hide (HS0.out.fresh hk4)
       have HM4 := hide (HM0.out.keep hk4)
       clear hk4)
    | (go_at_call 22
       refine (rows_new (testI 13 s 0 kn) w4 w4.heap.size rfl).mono ?_
       rintro e w5 ⟨A5, c5, rfl, h1, h2, h3⟩
       have HS5 := hide (HS4.out.fresh h3)
       have HM5 := hide (HM4.out.grow (Q := rowB A5) h3 (fun k hk => ⟨h2 k hk, h1.lt hk⟩))
       have HR5 := hide h1
       have HN5 := hide h2
       have p10 : w5.cell? ⟨w.heap.size + 1, 10, none⟩ = some (.slice ka kn kc) := HS5.out.2.1.cell 10
       clear h1 h2 h3)
    | fail
  have HT0 : Hid (TupAt P w mb w.heap.size (w.heap.size + 1) (w.heap.size + 1 + 1) #[.int .u8 24, .string tx, .int .i64 nm, .int .u8 tk, .bool ng, .slice la ln lc, .string tt, .int .i64 tn, .slice ia im ic, .slice ta tm tc, .slice ka kn kc] s (cs ++ []) [testI 13 s 0 kn] next A5 1 c5 w5) := hide ⟨HS5.out, by rw [List.append_nil]; exact HM5.out, HR5.out, fun k hk => Nat.le_trans HS4.out.2.2.2.size (HN5.out k hk), fun k hk hh => by
    obtain ⟨_, _, _, _, _, _, _, _, h6⟩ := HM4.out
    have := h6 k hh; have := HN5.out k hk; omega⟩
  generalize hbs : w.heap.size + 1 + 1 = bs at HT0 ⊢
  generalize hbp : w.heap.size + 1 = bp at HT0 ⊢
  generalize hbm : w.heap.size = bm at HT0 ⊢
  clear hbs hbp hbm p10 HS4 HM4 HS5 HM5 HR5 HN5 HS0 HM0
  go_loopw [87, 8] (fun i s8 wr => ∃ (k : Nat) (A : Option Addr) (m c : Nat), k ≤ kn ∧ i = .int .i64 k ∧ s8 = .slice A m c ∧ TupAt P w mb bm bp bs #[.int .u8 24, .string tx, .int .i64 nm, .int .u8 tk, .bool ng, .slice la ln lc, .string tt, .int .i64 tn, .slice ia im ic, .slice ta tm tc, .slice ka kn kc] s (cs ++ (eachC s next cs.length 0 (kids.take k)).cs) (testI 13 s 0 kn :: (eachC s next cs.length 0 (kids.take k)).ins) (eachC s next cs.length 0 (kids.take k)).next A m c wr) (fun i _ _ => kn - (intOf i).toNat)
  case atStart => exact ⟨0, A5, 1, c5, Nat.zero_le _, rfl, rfl, by rw [List.take_zero]; unfold eachC; exact HT0.out⟩
  case round =>
    obtain ⟨k, A, m, c, hk, rfl, rfl, hat⟩ := hrel
    have HAT := hide hat; clear hat
    by_cases hlt : k < kn
    · obtain ⟨b, o, kd1, tx1, nm1, tk1, ng1, la1, ln1, lc1, tt1, tn1, ia1, im1, ic1, ta1, tm1, tc1, ka1, kn1, kc1, t1, hA, hPb, e1, z1, hc1, g0, g1, g2, g3, g4, g5, g6, g7, g8, g9, g10⟩ := kid_at HR.out HC.out k hlt
      subst hA
      have f0 : wr.cell? ⟨b, o + k * 11, none⟩ = some (.int .u8 kd1) := HAT.out.box.2.2.2.cell (fun h => h hPb) g0
      have f1 : wr.cell? ⟨b, o + k * 11 + 1, none⟩ = some (.string tx1) := HAT.out.box.2.2.2.cell (fun h => h hPb) g1
      have f2 : wr.cell? ⟨b, o + k * 11 + 2, none⟩ = some (.int .i64 nm1) := HAT.out.box.2.2.2.cell (fun h => h hPb) g2
      have f3 : wr.cell? ⟨b, o + k * 11 + 3, none⟩ = some (.int .u8 tk1) := HAT.out.box.2.2.2.cell (fun h => h hPb) g3
      have f4 : wr.cell? ⟨b, o + k * 11 + 4, none⟩ = some (.bool ng1) := HAT.out.box.2.2.2.cell (fun h => h hPb) g4
      have f5 : wr.cell? ⟨b, o + k * 11 + 5, none⟩ = some (.slice la1 ln1 lc1) := HAT.out.box.2.2.2.cell (fun h => h hPb) g5
      have f6 : wr.cell? ⟨b, o + k * 11 + 6, none⟩ = some (.string tt1) := HAT.out.box.2.2.2.cell (fun h => h hPb) g6
      have f7 : wr.cell? ⟨b, o + k * 11 + 7, none⟩ = some (.int .i64 tn1) := HAT.out.box.2.2.2.cell (fun h => h hPb) g7
      have f8 : wr.cell? ⟨b, o + k * 11 + 8, none⟩ = some (.slice ia1 im1 ic1) := HAT.out.box.2.2.2.cell (fun h => h hPb) g8
      have f9 : wr.cell? ⟨b, o + k * 11 + 9, none⟩ = some (.slice ta1 tm1 tc1) := HAT.out.box.2.2.2.cell (fun h => h hPb) g9
      have f10 : wr.cell? ⟨b, o + k * 11 + 10, none⟩ = some (.slice ka1 kn1 kc1) := HAT.out.box.2.2.2.cell (fun h => h hPb) g10
      have HE1 := hide e1; have HC1 := hide hc1; have HZ1 := hide z1
      clear g0 g1 g2 g3 g4 g5 g6 g7 g8 g9 g10 e1 hc1 z1 hPb
      have hk1 : (k : Int) < (kn : Int) := by omega
      have hk0 : (0 : Int) ≤ (k : Int) := by omega
      have HKA : Hid (Keeps NoB wr (wr.alloc (.cells #[.int .u8 kd1, .string tx1, .int .i64 nm1, .int .u8 tk1, .bool ng1, .slice la1 ln1 lc1, .string tt1, .int .i64 tn1, .slice ia1 im1 ic1, .slice ta1 tm1 tc1, .slice ka1 kn1 kc1] 30))) := hide ((Keeps.refl _ _).alloc _)
      have hsn : eachC s next cs.length 0 (kids.take (k + 1)) = joinM (eachC s next cs.length 0 (kids.take k)) (childM 17 k s (eachC s next cs.length 0 (kids.take k)).next t1 (atC (eachC s next cs.length 0 (kids.take k)).next ((eachC s next cs.length 0 (kids.take k)).next + 1) (cs.length + (eachC s next cs.length 0 (kids.take k)).cs.length) t1)) := by
        have h := each_snoc s next cs.length (kids.take k) 0 t1
        rw [List.length_take, Nat.min_eq_left (by have := HKL.out; omega), Int.zero_add] at h
        rw [← h, List.take_add_one, HE1.out]; rfl
      have hef := each_few s next cs.length 0 (kids.take k)
      obtain ⟨r, hr⟩ : ∃ r, eachC s next cs.length 0 (kids.take k) = r := ⟨_, rfl⟩
      rw [hr] at HAT hsn hef
      clear hr
      have hch : FewM r.next t1.count (childM 17 k s r.next t1 (atC r.next (r.next + 1) (cs.length + r.cs.length) t1)) := FewM.child (fun _ _ => by
        obtain ⟨a1, a2, a3, a4⟩ := at_few r.next (r.next + 1) (cs.length + r.cs.length) t1
        exact ⟨a1, a2, by omega, by omega⟩) (by cases t1; simp only [Co.count]; omega)
      obtain ⟨r1, hr1⟩ : ∃ r1, childM 17 k s r.next t1 (atC r.next (r.next + 1) (cs.length + r.cs.length) t1) = r1 := ⟨_, rfl⟩
      rw [hr1] at hsn hch
      have HR1 := hide hr1; have HSN := hide hsn
      have q5 := counts_take_le kids (k + 1)
      rw [counts_take HE1.out] at q5
      have HBD : Hid (m + r1.ins.length ≤ 10000000 ∧ 0 ≤ r.next ∧ r.next + t1.count ≤ 1000000 ∧ cs.length + r.cs.length + t1.count ≤ 1000000) := hide (by
        obtain ⟨q6, q7, q8⟩ := HB.out
        obtain ⟨e1, e2, e3, e4⟩ := hef
        obtain ⟨e5, e6, e7, e8⟩ := hch
        have h1 := HAT.out.row.1
        rw [insL_len, List.length_cons] at h1
        omega)
      clear hr1 hsn hch q5 hef
      go_wp2_with
        first
        | (go_at_call 21
           obtain ⟨q1, q2, q3, q4⟩ := HBD.out
           refine (at1_of M IH t1 (by have := HZ1.out; have := HMM.out; omega) _ (fun j => Hand P bm bp bs j ∨ rowB A j) F kd1 tx1 nm1 tk1 ng1 la1 ln1 lc1 tt1 tn1 ia1 im1 ic1 ta1 tm1 tc1 ka1 kn1 kc1 17 k s _ free _ mb bs bm (CoreIn.keep HKA.out (fun _ _ => id) _ _ (CoreIn.more (fun j _ h => .inl (.inl h)) _ _ (CoreIn.keep HAT.out.box.2.2.2 (fun j h hn => hn h) _ _ HC1.out))) (mays_at HE1.out HMAY.out) (HAT.out.maker.keep HKA.out) ⟨by omega, by omega, by rw [List.length_append]; omega⟩ (HAT.out.box.2.2.1.keep HKA.out id) (.inl (.inr (.inr (.inr rfl)))) (HAT.out.box.1.keep HKA.out id) (.inl (.inr (.inl rfl)))).mono ?_
           rintro e w6 ⟨A6, c6, rfl, hs6, hf6, hm6, hk6⟩
           rw [List.length_append, HR1.out] at hs6 hm6 ⊢
           have HX6 := hide ((HAT.out.box.fresh HKA.out).go (hk6.mono (fun _ _ h h2 => h (.inl h2))))
           have HR6 := hide ((HAT.out.row.fresh HKA.out).keep hk6 (fun j hj hn => hn (.inr hj)))
           have HQ6 := hide hs6
           have HM6 := hide (hm6.less (P' := fun j => Hand P bm bp bs j ∨ rowB A j) (fun j h => .inl h))
           clear hs6 hf6 hm6 hk6 f0 f1 f2 f3 f4 f5 f6 f7 f8 f9 f10 q1 q2 q3 q4)
        | (obtain ⟨i0, hi0, hz0, hz1, hz2⟩ := info_parts Try.inCInfo
           at_builtin
           refine wpList_append_any _ rfl (.tmp 92) (.tmp 96) 34 rfl 44 i0 _ 8 88 Try.underlying34 hi0 hz0 hz1 hz2 rfl (by omega) A m c _ rfl HR6.out (rowB A6) true A6 _ c6 _ rfl HQ6.out.reads (insL_ones _) (by have := HBD.out; unfold maxLen; omega) (by have := HBD.out; omega) ?_
           intro A7 c7 w7 h1 h2 h3
           have HA7 := hide (And.intro h1 (And.intro h2 h3))
           clear h1 h2 h3)
        | fail
      have HTN : Hid (TupAt P w mb bm bp bs #[.int .u8 24, .string tx, .int .i64 nm, .int .u8 tk, .bool ng, .slice la ln lc, .string tt, .int .i64 tn, .slice ia im ic, .slice ta tm tc, .slice (some ⟨b, o, none⟩) kn kc] s (cs ++ (eachC s next cs.length 0 (kids.take (k + 1))).cs) (testI 13 s 0 kn :: (eachC s next cs.length 0 (kids.take (k + 1))).ins) (eachC s next cs.length 0 (kids.take (k + 1))).next A7 (m + r1.ins.length) c7 w7) := hide (by
        obtain ⟨h1, h2, h3⟩ := HA7.out
        have hsz : w.heap.size ≤ w6.heap.size := HX6.out.2.2.2.size
        have hfar := HAT.out.far
        have hlt6 : ∀ j, Hand P bm bp bs j → j < w6.heap.size := by
          obtain ⟨_, _, _, _, _, _, _, _, h6⟩ := HM6.out
          exact fun j hj => h6 j (.inl hj)
        rw [HSN.out]
        refine ⟨HX6.out.go (h2.mono (fun j _ hr => hfar j hr)), ?_, ?_, ?_, ?_⟩
        · have h := HM6.out.push h2 h3 (fun j hj => h1.lt hj)
          rw [List.append_assoc] at h
          exact h
        · rw [← insL_append] at h1
          exact h1
        · intro j hj
          rcases h3 j hj with h | h
          · exact HAT.out.new j h
          · omega
        · intro j hj hh
          rcases h3 j hj with h | h
          · exact hfar j h hh
          · have := hlt6 j hh; omega)
      go_roundw
      case rel => exact ⟨k + 1, A7, _, c7, by omega, by go_num, rfl, HTN.out⟩
      case measure => simp [intOf]; omega
    · obtain rfl : k = kn := by omega
      go_wp2
      go_ret
      have hE : joinM ⟨[testI 13 s 0 kids.length], next, []⟩ (eachC s next cs.length 0 kids) = ⟨testI 13 s 0 k :: (eachC s next cs.length 0 kids).ins, (eachC s next cs.length 0 kids).next, (eachC s next cs.length 0 kids).cs⟩ := by rw [HKL.out]; simp [joinM]
      have h := HAT.out
      rw [List.take_of_length_le (by have := HKL.out; omega)] at h
      have hlen : m = (testI 13 s 0 k :: (eachC s next cs.length 0 kids).ins).length := by have h1 := h.row.1; rw [insL_len] at h1; omega
      unfold AtPost
      rw [hE]
      subst hlen
      exact ⟨A, c, rfl, h.row, h.new, h.maker.less (fun j e => e.elim (fun e => .inl (.inl e)) .inr), h.box.2.2.2⟩
end Go.Proofs.Ytdmldipnalklgaa
