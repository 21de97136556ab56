/- A term that is stored over another one: as one step. pigeonholekit: the bag: a list of terms put in, with all lists within them. -/
import Derived.Test.YtmkidkfofbnjgaaMarkLJn
import Derived.Test.YtmkidkfofbnjgaaOTermJn
namespace Go.Proofs.Ytmkidkfofbnjgaa
open Go.RowKit

theorem run_if {c : Bool} {A B : Prop} (h : c = true) (hA : A) : if c = true then A else B := by rw [if_pos h]; exact hA
set_option maxRecDepth 100000 in
set_option maxHeartbeats 2000000 in
theorem wp_store7 {K : Act → World → Prop} {Q : Exit → Act → World → Prop} (o : Oper) (a : Act) (w : World) (x y : Operand) (g q : Nat) (m : Int) (u0 u1 u2 u3 u4 u5 u6 : Value) (ho : o.op = .store 33 x y) (hd : o.dst = none) (hx : a.eval x = .pointer (some ⟨g, q, none⟩)) (hy : a.eval y = .agg #[.int .u8 0, .bool false, .slice none 0 0, .string { data := #[] }, .int .i64 m, .slice none 0 0, .slice none 0 0])
    (c0 : w.cell? ⟨g, q, none⟩ = some u0) (c1 : w.cell? ⟨g, q + 1, none⟩ = some u1) (c2 : w.cell? ⟨g, q + 2, none⟩ = some u2) (c3 : w.cell? ⟨g, q + 3, none⟩ = some u3) (c4 : w.cell? ⟨g, q + 4, none⟩ = some u4) (c5 : w.cell? ⟨g, q + 5, none⟩ = some u5) (c6 : w.cell? ⟨g, q + 6, none⟩ = some u6)
    (f0 : w.frozen? ⟨g, q, none⟩ = false) (f1 : w.frozen? ⟨g, q + 1, none⟩ = false) (f2 : w.frozen? ⟨g, q + 2, none⟩ = false) (f3 : w.frozen? ⟨g, q + 3, none⟩ = false) (f4 : w.frozen? ⟨g, q + 4, none⟩ = false) (f5 : w.frozen? ⟨g, q + 5, none⟩ = false) (f6 : w.frozen? ⟨g, q + 6, none⟩ = false)
    (hK : K a (((((((w.setCell ⟨g, q, none⟩ (.int .u8 0)).setCell ⟨g, q + 1, none⟩ (.bool false)).setCell ⟨g, q + 2, none⟩ (.slice none 0 0)).setCell ⟨g, q + 3, none⟩ (.string { data := #[] })).setCell ⟨g, q + 4, none⟩ (.int .i64 m)).setCell ⟨g, q + 5, none⟩ (.slice none 0 0)).setCell ⟨g, q + 6, none⟩ (.slice none 0 0))) : o.wp Try.prog a w K Q := by
  obtain ⟨dst, op, type, pos, after, guard⟩ := o
  have ho' : op = .store 33 x y := ho
  have hd' : dst = none := hd
  subst ho' hd'
  unfold Oper.wp execOp
  simp only [hx, hy]
  clear hx hy ho hd
  go_simp
  exact hK
theorem wpList_store7 {ops : Array Oper} {rest : List Oper} {Q : Exit → Act → World → Prop} {o : Oper} {a : Act} {w : World} (hgd : o.guard = none) (x y : Operand) (g q : Nat) (m : Int) (u0 u1 u2 u3 u4 u5 u6 : Value) (ho : o.op = .store 33 x y) (hd : o.dst = none) (hx : a.eval x = .pointer (some ⟨g, q, none⟩)) (hy : a.eval y = .agg #[.int .u8 0, .bool false, .slice none 0 0, .string { data := #[] }, .int .i64 m, .slice none 0 0, .slice none 0 0])
    (c0 : w.cell? ⟨g, q, none⟩ = some u0) (c1 : w.cell? ⟨g, q + 1, none⟩ = some u1) (c2 : w.cell? ⟨g, q + 2, none⟩ = some u2) (c3 : w.cell? ⟨g, q + 3, none⟩ = some u3) (c4 : w.cell? ⟨g, q + 4, none⟩ = some u4) (c5 : w.cell? ⟨g, q + 5, none⟩ = some u5) (c6 : w.cell? ⟨g, q + 6, none⟩ = some u6)
    (f0 : w.frozen? ⟨g, q, none⟩ = false) (f1 : w.frozen? ⟨g, q + 1, none⟩ = false) (f2 : w.frozen? ⟨g, q + 2, none⟩ = false) (f3 : w.frozen? ⟨g, q + 3, none⟩ = false) (f4 : w.frozen? ⟨g, q + 4, none⟩ = false) (f5 : w.frozen? ⟨g, q + 5, none⟩ = false) (f6 : w.frozen? ⟨g, q + 6, none⟩ = false)
    (h : wpList Try.prog ops Q rest a (((((((w.setCell ⟨g, q, none⟩ (.int .u8 0)).setCell ⟨g, q + 1, none⟩ (.bool false)).setCell ⟨g, q + 2, none⟩ (.slice none 0 0)).setCell ⟨g, q + 3, none⟩ (.string { data := #[] })).setCell ⟨g, q + 4, none⟩ (.int .i64 m)).setCell ⟨g, q + 5, none⟩ (.slice none 0 0)).setCell ⟨g, q + 6, none⟩ (.slice none 0 0))) : wpList Try.prog ops Q (o :: rest) a w := by
  refine wpList_plain hgd fun _ hK => ?_
  exact wp_store7 o a w x y g q m u0 u1 u2 u3 u4 u5 u6 ho hd hx hy c0 c1 c2 c3 c4 c5 c6 f0 f1 f2 f3 f4 f5 f6 (hK _ _ h)
theorem Try.infoSE33 : (Try.prog.info? 33).map (fun i => (i.zero, i.size, i.bytes)) = some (some (.agg #[.int .u8 0, .bool false, .slice none 0 0, .string { data := #[] }, .int .i64 0, .slice none 0 0, .slice none 0 0]), 7, 104) := by kernel_rfl
/-- An append to a list of terms. -/
theorem append_terms {ops : Array Oper} {rest : List Oper} {o : Oper} {a : Act} {Q : Exit → Act → World → Prop} {w : World} (hgd : o.guard = none) (s x : Operand)
    (ho : o.op = .call { callee := .builtin .append, args := #[s, x], argTypes := #[25, 25] })
    (A : Option Addr) (n c : Nat) (xs : List Value) (he : a.eval s = .slice A n c) (hs : Slab w 33 7 A n c xs)
    (B : Nat → Prop) (F : Bool) (A2 : Option Addr) (m c2 : Nat) (news : List Value) (hx : a.eval x = .slice A2 m c2) (hr : Reads w B F 7 A2 m news) (hm0 : 0 < m) (h1 : ∀ u ∈ news, u.oneCell' = true)
    (h63 : n + m ≤ maxLen) (hbytes : (n + m) * 104 ≤ 140737488355328)
    (h : ∀ A' c' w', Slab w' 33 7 A' (n + m) c' (xs ++ news) → Grew w w' A c A' c' → wpList Try.prog ops Q rest (a.put o.dst (.slice A' (n + m) c')) w') : wpList Try.prog ops Q (o :: rest) a w := by
  obtain ⟨j0, hj0, hy0, hy1, hy2⟩ := info_parts Try.infoSE33
  exact wpList_append_grew w hgd s x 25 ho 33 j0 _ 7 104 Try.underlying25 hj0 hy0 hy1 hy2 rfl (by omega) A n c xs he hs B F A2 m c2 news hx hr hm0 h1 h63 hbytes h
theorem mark_ones (m : Int) : ∀ u ∈ [Value.int .u8 0, .bool false, .slice none 0 0, .string { data := #[] }, .int .i64 m, .slice none 0 0, .slice none 0 0], u.oneCell' = true := by
  intro u hu
  simp only [List.mem_cons, List.not_mem_nil, or_false] at hu
  rcases hu with rfl | rfl | rfl | rfl | rfl | rfl | rfl <;> rfl
theorem mark_reads {w : World} (m : Int) : Reads (w.alloc (.cells #[.int .u8 0, .bool false, .slice none 0 0, .string { data := #[] }, .int .i64 m, .slice none 0 0, .slice none 0 0] 33)) (fun _ => True) true 7 (some ⟨w.heap.size, 0, none⟩) 1 [.int .u8 0, .bool false, .slice none 0 0, .string { data := #[] }, .int .i64 m, .slice none 0 0, .slice none 0 0] :=
  seven_reads (Blk.new w 33 [.int .u8 0, .bool false, .slice none 0 0, .string { data := #[] }, .int .i64 m, .slice none 0 0, .slice none 0 0].toArray) rfl
end Go.Proofs.Ytmkidkfofbnjgaa
namespace Go.Proofs.Ytmkidkfofbnjgaa
open Go.RowKit

theorem thinTs_drop : ∀ (ts : List Tm) (k : Nat), thinTs ts → thinTs (ts.drop k)
  | [], k, _ => by simp only [List.drop_nil]; unfold thinTs; trivial
  | t :: ts, 0, h => h
  | t :: ts, k + 1, h => by unfold thinTs at h; exact thinTs_drop ts k h.2
theorem sizes_len : ∀ (ts : List Tm), ts.length ≤ Tm.size.sizes ts
  | [] => Nat.zero_le _
  | t :: ts => by have := sizes_len ts; rw [Tm.size.sizes]; simp only [List.length_cons]; omega
theorem sizes_drop_cons {ts : List Tm} {k : Nat} {t : Tm} (h : ts[k]? = some t) : Tm.size.sizes (ts.drop k) = t.size + Tm.size.sizes (ts.drop (k + 1)) + 1 := by
  obtain ⟨hk, e⟩ := List.getElem?_eq_some_iff.1 h
  rw [List.drop_eq_getElem_cons hk, e, Tm.size.sizes]
theorem Try.infoBT25 : (Try.prog.info? 25).map (fun i => (i.zero, i.size, i.bytes)) = some (some (.slice none 0 0), 1, 24) := by kernel_rfl
theorem OIn.cells {w : World} {lo hi : Nat} {cs : List Value} {t : Tm} (h : OIn w lo hi cs t) : ∃ kd ng la ln lc tx nm ia im ic ta tn tc, cs = [.int .u8 kd, .bool ng, .slice la ln lc, .string tx, .int .i64 nm, .slice ia im ic, .slice ta tn tc] := by
  obtain ⟨k, neg, limbs, text, num, items, tail⟩ := t
  unfold OIn at h
  obtain ⟨la, ln, lc, ia, im, ic, ta, tn, tc, css, dss, m1, m2, m3, m4, rfl, _⟩ := h
  exact ⟨_, _, _, _, _, _, _, _, _, _, _, _, _, rfl⟩
/-- How far the bag is: the first k terms, and their list, are in. -/
structure BagInv (w0 wx : World) (B0 g n m hi : Nat) (AL0 AT0 : Option Addr) (LL TL : List Ld) (x0 : Ld) (css : List (List Value)) (ts : List Tm) (k : Nat) : Prop where
  ex : ∃ mk AL cL AT cT LLk TLk, BagAt wx B0 g AL cL AT cT (LL ++ LLk) (TL ++ ([x0] ++ TLk)) ∧ (m ≤ mk ∧ OsIn wx mk hi (css.drop k) (ts.drop k)) ∧ Lot wx 92 1 m mk LLk ∧ Lot wx 33 7 m mk TLk ∧ ((∀ x ∈ LLk, x.n ≤ 35184372087808) ∧ (∀ x ∈ TLk, x.n ≤ 100000) ∧ LLk.length + Tm.size.sizes (ts.drop k) ≤ Tm.size.sizes ts ∧ TLk.length + 2 * Tm.size.sizes (ts.drop k) ≤ 2 * Tm.size.sizes ts) ∧ BagMoved w0 AL0 AT0 AL AT ∧ Keeps (bagF g AL0 AT0) w0 wx
set_option maxRecDepth 100000 in
set_option maxHeartbeats 2000000 in
theorem put_terms (M : Nat) : PutSaid M := by
  induction M using Nat.strongRecOn with
  | ind M IH =>
  intro ts hM css A n c w lo m hi B0 g AL cL AT cT LL TL hr hts hth hB hb h1 h2
  obtain ⟨j0, hj0, hy0, hy1, hy2⟩ := info_parts Try.infoBT25
  have H := hide hb
  have b7 : w.cell? ⟨g, 7, none⟩ = some (.slice AT TL.length cT) := hb.blk.cell 7
  have HBD := hide (show TL.length + 1 ≤ maxLen ∧ (TL.length + 1) * 24 ≤ 140737488355328 from by unfold maxLen; omega)
  have HS := hide (hb.terms.fresh ((Keeps.refl NoB w).alloc (.cells #[.slice A n c] 25)))
  have HR := hide hr; have HTS := hide hts; have HTH := hide hth; have HBB := hide hB; have H1 := hide h1; have H2 := hide h2; have HM := hide hM; have HIH := hide IH
  have HNL := hide (show ts.length = n from by have h3 := hts.lens; have h4 := hr.1.1; rw [flat_len h3.2] at h4; omega)
  clear hb hr hts hth hB h1 h2 hM IH
  go_enter Try.func40, Try.ntmps40
  go_wp2_with (at_builtin; refine wpList_append_grew _ rfl (.tmp 9) (.tmp 11) 58 rfl 25 j0 _ 1 24 Try.underlying58 hj0 hy0 hy1 hy2 rfl (by omega) AT TL.length cT (heads TL) rfl HS.out (fun _ => True) true (some ⟨_, 0, none⟩) 1 1 [.slice A n c] rfl (one_reads1 (Blk.new _ 25 #[.slice A n c])) (by omega) slice_ones HBD.out.1 HBD.out.2 ?_)
  intro A2 c2 w2 h1 h2
  have hk0 : Keeps NoB w (w.alloc (.cells #[.slice A n c] 25)) := (Keeps.refl NoB w).alloc _
  have hk2 : Keeps (rowB AT) w w2 := hk0.trans' h2.keeps (fun _ _ h => h.elim) (fun _ _ h => h)
  have hblk := hide (H.out.blk.keep hk2 (H.out.terms.ne H.out.blk (by decide)))
  have hl := hide (H.out.limbs.keep hk2 (fun k hk => slab_apart H.out.limbs H.out.terms (by decide) k hk))
  have hlo := hide (h2.lo H.out.loT (by have := H.out.blk.lt; have := H.out.lo; have := hk0.size; omega))
  have hng2 := hide (h1.ne hblk.out (by decide) : ¬ rowB A2 g)
  have hk2' := hide (hk2.mono (fun k _ hk => .inr (.inr hk)) : Keeps (bagF g AL AT) w w2)
  have hmv := hide (show Moved w AT A2 from fun k hk => by
    rcases h2.moved k hk with h | h
    · exact .inl h
    · exact .inr (Nat.le_trans hk0.size h))
  have HS1 := hide h1
  have b7 : w2.cell? ⟨g, 7, none⟩ = some (.slice AT TL.length cT) := hblk.out.cell 7
  have f7 : w2.frozen? ⟨g, 7, none⟩ = false := hblk.out.free 7
  clear h1 h2 hk0 hk2
  go_wp2
  have hks : Keeps (fun k => k = g) w2 (w2.setCell ⟨g, 7, none⟩ (.slice A2 (TL.length + 1) c2)) := (Keeps.refl (fun k => k = g) w2).setCell (p := ⟨g, 7, none⟩) (.inl rfl) _
  have hb2 := hblk.out.put 7 (.slice A2 (TL.length + 1) c2)
  have hk3 : Keeps (bagF g AL AT) w (w2.setCell ⟨g, 7, none⟩ (.slice A2 (TL.length + 1) c2)) := hk2'.out.trans' hks (fun _ _ h => h) (fun k _ e => .inl e)
  have hlow := H.out.low
  have hi0 : BagInv w (w2.setCell ⟨g, 7, none⟩ (.slice A2 (TL.length + 1) c2)) B0 g n m hi AL AT LL TL ⟨A, n, c⟩ css ts 0 := by
    have hmh := HTS.out.le
    refine ⟨m, AL, cL, A2, c2, [], [], ⟨?_, ?_, ?_, H.out.lo, H.out.loL, hlo.out⟩, ⟨Nat.le_refl _, ?_⟩, Lot.nil, Lot.nil, ⟨(fun _ h => by cases h), (fun _ h => by cases h), by simp, by simp⟩, ⟨Moved.same _ _, hmv.out⟩, hk3⟩
    · rw [List.append_nil, List.append_nil, List.length_append]; exact hb2
    · rw [List.append_nil]; exact hl.out.keep hks (fun k hk e => by subst e; exact hl.out.ne hblk.out (by decide) hk)
    · rw [List.append_nil, List.length_append, heads_snoc]
      exact HS1.out.keep hks (fun k hk e => by subst e; exact hng2.out hk)
    · rw [List.drop_zero, List.drop_zero]
      exact OsIn.keep hk3 HTS.out (fun k h1 h2 => hlow k (by have := HBB.out; omega))
  have HI0 := hide hi0; have HLOW := hide hlow
  clear hi0 hks hb2 hk3 b7 f7 hlow HS1 hblk hl hlo hng2 hk2' hmv HS
  generalize w2.setCell ⟨g, 7, none⟩ (.slice A2 (TL.length + 1) c2) = w3 at *
  go_loopg [4] n (fun q s4 wx => ∃ k : Nat, k ≤ n ∧ q = n - k ∧ s4 = .int .i64 k ∧ BagInv w wx B0 g n m hi AL AT LL TL ⟨A, n, c⟩ css ts k)
  case atStart => exact ⟨0, Nat.zero_le _, rfl, rfl, HI0.out⟩
  case round =>
    obtain ⟨k, hk, rfl, rfl, hinv⟩ := hrel
    obtain ⟨mk, AL1, cL1, AT1, cT1, LLk, TLk, hb1, ⟨hmk, hos⟩, hlk, htk, hn1, hmo, hkw⟩ := hinv.ex
    have HB1 := hide hb1; have HMK := hide hmk; have HOS := hide hos; have HLK := hide hlk; have HTK := hide htk; have HN1 := hide hn1; have HMO := hide hmo; have HKW := hide hkw
    clear hinv hb1 hmk hos hlk htk hn1 hmo hkw
    by_cases hlt : k < n
    · have hiz : (k : Int) < (n : Int) := by omega
      have hi0' : (0 : Int) ≤ (k : Int) := by omega
      have hn5 : n ≤ 100000 := by have := sizes_len ts; have := HNL.out; have := H2.out; omega
      have hlw : ∀ j, j < B0 → ¬ bagF g AL AT j := HLOW.out
      have hrow := HR.out.keep HKW.out (fun j h1 h2 => hlw j (by have := HTS.out.le; have := HBB.out; omega))
      have hlens := HTS.out.lens
      have hnl := HNL.out
      have hkc : k < css.length := by omega
      have hkt : k < ts.length := by omega
      have hos := HOS.out
      rw [List.drop_eq_getElem_cons hkc, List.drop_eq_getElem_cons hkt] at hos
      unfold OsIn at hos
      obtain ⟨m', ho1, ho2⟩ := hos
      have hth := thinTs_drop ts k HTH.out
      rw [List.drop_eq_getElem_cons hkt] at hth
      unfold thinTs at hth
      have hszd := sizes_drop_cons (List.getElem?_eq_getElem hkt)
      obtain ⟨t, ht⟩ : ∃ t, ts[k] = t := ⟨_, rfl⟩
      obtain ⟨kd, ng, la, ln, lc, tx, nm, ia, im, ic, ta, tn, tc, hcs⟩ := ho1.cells
      have hat : css[k]? = some [.int .u8 kd, .bool ng, .slice la ln lc, .string tx, .int .i64 nm, .slice ia im ic, .slice ta tn tc] := by rw [List.getElem?_eq_getElem hkc, hcs]
      rw [ht] at ho1 hth hszd
      rw [hcs] at ho1
      obtain ⟨⟨gb, go, sp⟩, hA, hs, _, _, hcells⟩ := hrow.1.reads.2 (by omega)
      subst hA
      simp only at hs
      subst hs
      obtain ⟨e0, e1, e2, e3, e4, e5, e6⟩ := flat_cells hlens.2 hat
      have f0 : wr.cell? ⟨gb, go + k * 7, none⟩ = some (.int .u8 kd) := (hcells _ _ e0).1
      have f1 : wr.cell? ⟨gb, go + k * 7 + 1, none⟩ = some (.bool ng) := (hcells _ _ e1).1
      have f2 : wr.cell? ⟨gb, go + k * 7 + 2, none⟩ = some (.slice la ln lc) := (hcells _ _ e2).1
      have f3 : wr.cell? ⟨gb, go + k * 7 + 3, none⟩ = some (.string tx) := (hcells _ _ e3).1
      have f4 : wr.cell? ⟨gb, go + k * 7 + 4, none⟩ = some (.int .i64 nm) := (hcells _ _ e4).1
      have f5 : wr.cell? ⟨gb, go + k * 7 + 5, none⟩ = some (.slice ia im ic) := (hcells _ _ e5).1
      have f6 : wr.cell? ⟨gb, go + k * 7 + 6, none⟩ = some (.slice ta tn tc) := (hcells _ _ e6).1
      have HO1 := hide ho1; have HO2 := hide ho2; have HTT := hide hth.1; have HSZ := hide hszd
      clear hrow hlens ho1 ho2 hth hszd hcs hat hcells e0 e1 e2 e3 e4 e5 e6 hlw ht
      have HBD2 := hide (show m' ≤ hi ∧ hi ≤ B0 ∧ mk ≤ m' from ⟨HO2.out.le, HBB.out, HO1.out.le⟩)
      go_wp2_with
        first
        | (go_at_call 51
           refine (one_term (M - 1) (HIH.out (M - 1) (by have := HM.out; have := sizes_len ts; omega)) t (by have := HM.out; have := HSZ.out; have := HN1.out.2.2.1; omega) wr mk m' B0 g AL1 cL1 AT1 cT1 (LL ++ LLk) (TL ++ ([⟨some ⟨gb, go, none⟩, n, c⟩] ++ TLk)) kd ng la ln lc tx nm ia im ic ta tn tc HO1.out HTT.out (by have := HBD2.out; omega) HB1.out (by rw [List.length_append]; have := H1.out; have := HSZ.out; have := HN1.out.2.2.1; omega) (by simp only [List.length_append, List.length_singleton]; have := H2.out; have := HSZ.out; have := HN1.out.2.2.2; omega)).mono ?_
           rintro e wz ⟨AL2, cL2, AT2, cT2, LLt, TLt, rfl, hb2, hll2, htl2, hn2, hm2, hk2⟩
           have HB2 := hide hb2; have HK2 := hide hk2; have HM2 := hide hm2; have HLL2 := hide hll2; have HTL2 := hide htl2; have HN2 := hide hn2
           clear hb2 hk2 hm2 hll2 htl2 hn2)
        | fail
      have hlow1 := HB1.out.low
      have hbd := HBD2.out
      have hinv : BagInv w wz B0 g n m hi AL AT LL TL ⟨some ⟨gb, go, none⟩, n, c⟩ css ts (k + 1) := by
        refine ⟨m', AL2, cL2, AT2, cT2, LLk ++ LLt, TLk ++ TLt, ?_, ⟨by have := HMK.out; omega, OsIn.keep HK2.out HO2.out (fun j h1 h2 => hlow1 j (by omega))⟩, ?_, ?_, ⟨?_, ?_, ?_, ?_⟩, HMO.out.trans HKW.out.size HM2.out, HKW.out.trans' HK2.out (fun _ _ h => h) (fun j hj h => HMO.out.f j hj h)⟩
        · have h := HB2.out
          simp only [List.append_assoc] at h ⊢
          exact h
        · exact Lot.append (m := mk) (HLK.out.keep HK2.out (fun j h1 h2 => hlow1 j (by omega))) HLL2.out HMK.out (by omega)
        · exact Lot.append (m := mk) (HTK.out.keep HK2.out (fun j h1 h2 => hlow1 j (by omega))) HTL2.out HMK.out (by omega)
        · intro x hx
          rcases List.mem_append.1 hx with hx | hx
          · exact HN1.out.1 x hx
          · exact HN2.out.1 x hx
        · intro x hx
          rcases List.mem_append.1 hx with hx | hx
          · exact HN1.out.2.1 x hx
          · exact HN2.out.2.1 x hx
        · rw [List.length_append]; have := HSZ.out; have := HN1.out.2.2.1; have := HN2.out.2.2.1; omega
        · rw [List.length_append]; have := HSZ.out; have := HN1.out.2.2.2; have := HN2.out.2.2.2; omega
      go_roundg (n - (k + 1))
      case measure => omega
      case rel => exact ⟨k + 1, by omega, rfl, by go_num, hinv⟩
    · obtain rfl : n = k := by omega
      have hiz : ¬ (n : Int) < (n : Int) := by omega
      go_wp2
      go_end0
      have hmh := HOS.out.le
      have hlow := HLOW.out
      have hnn := sizes_len ts
      have hnl := HNL.out
      have h2 := H2.out
      refine ⟨AL1, cL1, AT1, cT1, LLk, [⟨A, n, c⟩] ++ TLk, rfl, HB1.out, (HLK.out.more (by have := HR.out.2.2; omega) hmh), Lot.append (m := m) (Lot.one (HR.out.keep HKW.out (fun j h1 h2 => hlow j (by have := HMK.out; have := HBB.out; omega)))) (HTK.out.more (Nat.le_refl _) hmh) HR.out.2.2 (by have := HMK.out; omega), ⟨HN1.out.1, ?_, by have := HN1.out.2.2.1; omega, ?_⟩, HMO.out, HKW.out⟩
      · intro x hx
        rcases List.mem_append.1 hx with hx | hx
        · simp only [List.mem_singleton] at hx; subst hx
          show n ≤ _; omega
        · exact HN1.out.2.1 x hx
      · simp only [List.length_append, List.length_singleton]; have := HN1.out.2.2.2; omega
end Go.Proofs.Ytmkidkfofbnjgaa
