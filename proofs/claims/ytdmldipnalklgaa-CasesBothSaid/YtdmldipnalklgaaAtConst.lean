/- maker.at: of a constant. -/
import Derived.Test.YtdmldipnalklgaaHand
namespace Go.Proofs.Ytdmldipnalklgaa
open Go.RowKit

/-- The maker, its row named. -/
def MakerOf (P : Nat → Prop) (w : World) (mb : Nat) (next : Int) (cs : List Tm) (A : Option Addr) (c : Nat) (css : List (List Value)) : Prop :=
  Blk w mb 51 #[.slice A cs.length c, .int .i64 next] ∧ Slab w 27 7 A cs.length c (List.flatten css) ∧ TermsIn w (fun k => k ≠ mb ∧ ¬ rowB A k ∧ ¬ P k) true css cs ∧ ¬ P mb ∧ (∀ k, P k → ¬ rowB A k) ∧ (∀ k, P k → k < w.heap.size)
theorem MakerOf.maker {P : Nat → Prop} {w : World} {mb : Nat} {next : Int} {cs : List Tm} {A : Option Addr} {c : Nat} {css : List (List Value)} (h : MakerOf P w mb next cs A c css) : MakerAt P w mb next cs := ⟨A, c, css, h⟩
theorem MakerOf.keep {P : Nat → Prop} {w w' : World} {mb : Nat} {next : Int} {cs : List Tm} {A : Option Addr} {c : Nat} {css : List (List Value)} (h : MakerOf P w mb next cs A c css) (hk : Keeps NoB w w') : MakerOf P w' mb next cs A c css := by
  obtain ⟨h1, h2, h3, h4, h5, h6⟩ := h
  exact ⟨h1.keep hk id, h2.fresh hk, TermsIn.keep hk (fun _ _ => id) _ _ h3, h4, h5, fun k hp => Nat.lt_of_lt_of_le (h6 k hp) hk.size⟩
theorem MakerOf.sep {P : Nat → Prop} {w : World} {mb : Nat} {next : Int} {cs : List Tm} {A : Option Addr} {c : Nat} {css : List (List Value)} (h : MakerOf P w mb next cs A c css) : ¬ rowB A mb := h.2.1.ne h.1 (by decide)
/-- A constant more. -/
theorem MakerOf.add {P : Nat → Prop} {V W W' : World} {mb : Nat} {next : Int} {cs : List Tm} {A A' : Option Addr} {c c' : Nat} {css : List (List Value)} {t : Tm} {ts : List Value} (h0 : MakerOf P V mb next cs A c css) (hv : Keeps NoB V W) (ht : TermIn W (Above V) true ts t)
    (hk : Keeps (fun k => k = mb ∨ rowB A k) W W') (hb : Blk W' mb 51 #[.slice A' (cs.length + 1) c', .int .i64 next]) (hs : Slab W' 27 7 A' (cs.length + 1) c' (List.flatten css ++ ts)) (hm : Moved W A A') : MakerAt P W' mb next (cs ++ [t]) := by
  obtain ⟨h1, h2, h3, h4, h5, h6⟩ := h0.keep hv
  have a1 : TermIn W (fun k => (k ≠ mb ∧ ¬ rowB A k ∧ ¬ P k) ∧ k < W.heap.size) true ts t := TermIn.more (fun k hl ha => by
    unfold Above at ha
    refine ⟨⟨?_, ?_, ?_⟩, hl⟩
    · rintro rfl; have := h0.1.lt; omega
    · intro hr; have := h0.2.1.lt hr; omega
    · intro hp; have := h0.2.2.2.2.2 k hp; omega) _ _ ht
  have a2 : TermsIn W (fun k => (k ≠ mb ∧ ¬ rowB A k ∧ ¬ P k) ∧ k < W.heap.size) true css cs := TermsIn.more (fun k hl ha => ⟨ha, hl⟩) _ _ h3
  have a3 := TermsIn.append a2 (TermsIn.one a1)
  have a4 := TermsIn.keep hk (fun k hB hf => hf.elim hB.1.1 hB.1.2.1) _ _ a3
  have e : (cs ++ [t]).length = cs.length + 1 := by simp
  refine ⟨A', c', css ++ [ts], by rw [e]; exact hb, by rw [e, List.flatten_append]; simpa using hs, TermsIn.more (fun k _ hB => ⟨hB.1.1, fun hr => (hm k hr).elim hB.1.2.1 (fun h => by have := hB.2; omega), hB.1.2.2⟩) _ _ a4, h4, ?_, fun k hp => Nat.lt_of_lt_of_le (h6 k hp) hk.size⟩
  intro k hp hr
  rcases hm k hr with h | h
  · exact h5 k hp h
  · have := h6 k hp; omega
theorem Slab.sput7 {w : World} {e : TypeId} {g o c n m : Nat} {front : List Value} {z0 z1 z2 z3 z4 z5 z6 : Value} (h : Slab w e 7 (some ⟨g, o, none⟩) m c (front ++ [z0, z1, z2, z3, z4, z5, z6])) (hf : front.length = n * 7) (hm : m = n + 1) (v0 v1 v2 v3 v4 v5 v6 : Value) :
    Slab (((((((w.setCell ⟨g, o + n * 7, none⟩ v0).setCell ⟨g, o + n * 7 + 1, none⟩ v1).setCell ⟨g, o + n * 7 + 2, none⟩ v2).setCell ⟨g, o + n * 7 + 3, none⟩ v3).setCell ⟨g, o + n * 7 + 4, none⟩ v4).setCell ⟨g, o + n * 7 + 5, none⟩ v5).setCell ⟨g, o + n * 7 + 6, none⟩ v6) e 7 (some ⟨g, o, none⟩) m c (front ++ [v0, v1, v2, v3, v4, v5, v6]) := by
  have h7 := Slab.put1 (j := n * 7 + 6) (Slab.put1 (j := n * 7 + 5) (Slab.put1 (j := n * 7 + 4) (Slab.put1 (j := n * 7 + 3) (Slab.put1 (j := n * 7 + 2) (Slab.put1 (j := n * 7 + 1) (Slab.put1 (j := n * 7) h (by omega) v0) (by omega) v1) (by omega) v2) (by omega) v3) (by omega) v4) (by omega) v5) (by omega) v6
  have e : (((((((front ++ [z0, z1, z2, z3, z4, z5, z6]).set (n * 7) v0).set (n * 7 + 1) v1).set (n * 7 + 2) v2).set (n * 7 + 3) v3).set (n * 7 + 4) v4).set (n * 7 + 5) v5).set (n * 7 + 6) v6 = front ++ [v0, v1, v2, v3, v4, v5, v6] := by
    simp [← hf]
  rw [e] at h7
  exact h7
/-- A row's last term, as cells. -/
theorem Slab.last7 {w : World} {e : TypeId} {A : Option Addr} {c n : Nat} {front : List Value} {z0 z1 z2 z3 z4 z5 z6 : Value} (h : Slab w e 7 A (n + 1) c (front ++ [z0, z1, z2, z3, z4, z5, z6])) (hf : front.length = n * 7) :
    ∃ g o, A = some ⟨g, o, none⟩ ∧ (w.cell? ⟨g, o + n * 7, none⟩ = some z0 ∧ w.cell? ⟨g, o + n * 7 + 1, none⟩ = some z1 ∧ w.cell? ⟨g, o + n * 7 + 2, none⟩ = some z2 ∧ w.cell? ⟨g, o + n * 7 + 3, none⟩ = some z3 ∧ w.cell? ⟨g, o + n * 7 + 4, none⟩ = some z4 ∧ w.cell? ⟨g, o + n * 7 + 5, none⟩ = some z5 ∧ w.cell? ⟨g, o + n * 7 + 6, none⟩ = some z6) ∧ g < w.heap.size ∧
      (w.frozen? ⟨g, o + n * 7, none⟩ = false ∧ w.frozen? ⟨g, o + n * 7 + 1, none⟩ = false ∧ w.frozen? ⟨g, o + n * 7 + 2, none⟩ = false ∧ w.frozen? ⟨g, o + n * 7 + 3, none⟩ = false ∧ w.frozen? ⟨g, o + n * 7 + 4, none⟩ = false ∧ w.frozen? ⟨g, o + n * 7 + 5, none⟩ = false ∧ w.frozen? ⟨g, o + n * 7 + 6, none⟩ = false) := by
  have hb : ∃ g o cur, A = some ⟨g, o, none⟩ ∧ Blk w g e cur := by
    obtain ⟨hl, hn, hm, ⟨h0, h1⟩ | ⟨g, o, cur, h0, hb, _⟩⟩ := h
    · omega
    · exact ⟨g, o, cur, h0, hb⟩
  obtain ⟨g, o, cur, rfl, hb⟩ := hb
  obtain ⟨ad, ha, _, _, hlt, hc⟩ := h.reads.2 (by omega)
  injection ha with ha
  subst ha
  have hg : ∀ (j : Nat) (z : Value), [z0, z1, z2, z3, z4, z5, z6][j]? = some z → w.cell? ⟨g, o + n * 7 + j, none⟩ = some z := fun j z hz => by
    have := (hc (n * 7 + j) z (by rw [List.getElem?_append_right (by omega), hf]; simpa using hz)).1
    rw [← Nat.add_assoc] at this; exact this
  exact ⟨g, o, rfl, ⟨hg 0 _ rfl, hg 1 _ rfl, hg 2 _ rfl, hg 3 _ rfl, hg 4 _ rfl, hg 5 _ rfl, hg 6 _ rfl⟩, hlt, ⟨hb.free _, hb.free _, hb.free _, hb.free _, hb.free _, hb.free _, hb.free _⟩⟩
theorem MakerAt.of {P : Nat → Prop} {w : World} {mb : Nat} {next : Int} {cs : List Tm} (h : MakerAt P w mb next cs) : ∃ A c css, MakerOf P w mb next cs A c css := h

set_option maxRecDepth 100000 in
set_option maxHeartbeats 4000000 in
theorem at_const_arm (w : World) (P : Nat → Prop) (F : Bool) (tx : ByteArray) (nm tk : Int) (ng : Bool) (la : Option Addr) (ln lc : Nat) (tt : ByteArray) (tn : Int) (ia : Option Addr) (im ic : Nat) (ta : Option Addr) (tm tc : Nat) (ka : Option Addr) (kn kc : Nat)
    (s next : Int) (cs : List Tm) (t : Tm) (mb : Nat) (ht : TermIn w P F [.int .u8 tk, .bool ng, .slice la ln lc, .string tt, .int .i64 tn, .slice ia im ic, .slice ta tm tc] t) (hm : MakerAt P w mb next cs) (hb : cs.length + 1 ≤ 1000000) :
    Calls Try.prog 15 #[.pointer (some ⟨mb, 0, none⟩), .agg #[.int .u8 23, .string tx, .int .i64 nm, .int .u8 tk, .bool ng, .slice la ln lc, .string tt, .int .i64 tn, .slice ia im ic, .slice ta tm tc, .slice ka kn kc], .int .i64 s] w (AtPost P w mb cs ⟨[testI 15 s 0 cs.length], next, [t]⟩) := by
  obtain ⟨i0, hi0, hz0, hz1, hz2⟩ := info_parts Try.infoTm
  have B0 := boxes_new w mb #[.int .u8 23, .string tx, .int .i64 nm, .int .u8 tk, .bool ng, .slice la ln lc, .string tt, .int .i64 tn, .slice ia im ic, .slice ta tm tc, .slice ka kn kc] s
  have hs0 : BoxS P w mb w.heap.size (w.heap.size + 1) (w.heap.size + 1 + 1) #[.int .u8 23, .string tx, .int .i64 nm, .int .u8 tk, .bool ng, .slice la ln lc, .string tt, .int .i64 tn, .slice ia im ic, .slice ta tm tc, .slice ka kn kc] s (((w.alloc (.cells #[.pointer (some ⟨mb, 0, none⟩)] 49)).alloc (.cells #[.int .u8 23, .string tx, .int .i64 nm, .int .u8 tk, .bool ng, .slice la ln lc, .string tt, .int .i64 tn, .slice ia im ic, .slice ta tm tc, .slice ka kn kc] 30)).alloc (.cells #[.int .i64 s] 3)) := ⟨B0.m, B0.p, B0.s, B0.keep.mono (fun _ _ h => h.elim)⟩
  have hm0 : MakerAt (Hand P w.heap.size (w.heap.size + 1) (w.heap.size + 1 + 1)) (((w.alloc (.cells #[.pointer (some ⟨mb, 0, none⟩)] 49)).alloc (.cells #[.int .u8 23, .string tx, .int .i64 nm, .int .u8 tk, .bool ng, .slice la ln lc, .string tt, .int .i64 tn, .slice ia im ic, .slice ta tm tc, .slice ka kn kc] 30)).alloc (.cells #[.int .i64 s] 3)) mb next cs := hm.grow B0.keep (fun k hk => by
    rcases hk with rfl | rfl | rfl
    · exact ⟨Nat.le_refl _, B0.m.lt⟩
    · exact ⟨Nat.le_succ _, B0.p.lt⟩
    · exact ⟨by omega, B0.s.lt⟩)
  obtain ⟨A, c, css, hm0⟩ := hm0.of
  have hk0 : ∀ x, Keeps NoB (((w.alloc (.cells #[.pointer (some ⟨mb, 0, none⟩)] 49)).alloc (.cells #[.int .u8 23, .string tx, .int .i64 nm, .int .u8 tk, .bool ng, .slice la ln lc, .string tt, .int .i64 tn, .slice ia im ic, .slice ta tm tc, .slice ka kn kc] 30)).alloc (.cells #[.int .i64 s] 3)) ((((w.alloc (.cells #[.pointer (some ⟨mb, 0, none⟩)] 49)).alloc (.cells #[.int .u8 23, .string tx, .int .i64 nm, .int .u8 tk, .bool ng, .slice la ln lc, .string tt, .int .i64 tn, .slice ia im ic, .slice ta tm tc, .slice ka kn kc] 30)).alloc (.cells #[.int .i64 s] 3)).alloc (.cells #[.bool x] 4)).drew.drew := fun x => (((Keeps.refl NoB (((w.alloc (.cells #[.pointer (some ⟨mb, 0, none⟩)] 49)).alloc (.cells #[.int .u8 23, .string tx, .int .i64 nm, .int .u8 tk, .bool ng, .slice la ln lc, .string tt, .int .i64 tn, .slice ia im ic, .slice ta tm tc, .slice ka kn kc] 30)).alloc (.cells #[.int .i64 s] 3))).alloc (.cells #[.bool x] 4)).drew).drew
  have HSB : Hid (∀ x, BoxS P w mb w.heap.size (w.heap.size + 1) (w.heap.size + 1 + 1) #[.int .u8 23, .string tx, .int .i64 nm, .int .u8 tk, .bool ng, .slice la ln lc, .string tt, .int .i64 tn, .slice ia im ic, .slice ta tm tc, .slice ka kn kc] s ((((w.alloc (.cells #[.pointer (some ⟨mb, 0, none⟩)] 49)).alloc (.cells #[.int .u8 23, .string tx, .int .i64 nm, .int .u8 tk, .bool ng, .slice la ln lc, .string tt, .int .i64 tn, .slice ia im ic, .slice ta tm tc, .slice ka kn kc] 30)).alloc (.cells #[.int .i64 s] 3)).alloc (.cells #[.bool x] 4)).drew.drew) := hide (fun x => hs0.fresh (hk0 x))
  have HMB : Hid (∀ x, MakerOf (Hand P w.heap.size (w.heap.size + 1) (w.heap.size + 1 + 1)) ((((w.alloc (.cells #[.pointer (some ⟨mb, 0, none⟩)] 49)).alloc (.cells #[.int .u8 23, .string tx, .int .i64 nm, .int .u8 tk, .bool ng, .slice la ln lc, .string tt, .int .i64 tn, .slice ia im ic, .slice ta tm tc, .slice ka kn kc] 30)).alloc (.cells #[.int .i64 s] 3)).alloc (.cells #[.bool x] 4)).drew.drew mb next cs A c css) := hide (fun x => hm0.keep (hk0 x))
  have HT := hide ht
  have HCF : Hid (css.flatten.length = cs.length * 7) := hide hm0.2.1.1
  clear ht hm B0 hs0 hm0 hk0
  go_enter Try.func15, Try.ntmps15
  go_wp2_with fail
  generalize hbs : w.heap.size + 1 + 1 = bs at HSB HMB ⊢
  generalize hbp : w.heap.size + 1 = bp at HSB HMB ⊢
  generalize hbm : w.heap.size = bm at HSB HMB ⊢
  have HBS : Hid (bs = bm + 2) := hide (by omega)
  clear hbs hbp hbm
  refine order_begin (fun _ => True) (fun _ => true) (by kernel_rfl) 4 rfl ?_
  refine order_one (i := 0) rfl (by kernel_rfl) (fun K hK => ?_)
  go_simp
  refine hK _ _ (fun _ _ => trivial) ?_
  clear hK
  try simp only [Act.put, List.setIfInBounds_toArray, List.set_cons_succ, List.set_cons_zero]
  refine order_two (i := 1) (j := 2) rfl rfl (by kernel_rfl) (fun K hK => ?_) (fun K hK => ?_)
  · go_simp
    refine hK _ _ (fun _ _ => trivial) ?_
    clear hK
    try simp only [Act.put, List.setIfInBounds_toArray, List.set_cons_succ, List.set_cons_zero]
    refine order_one (i := 2) rfl (by kernel_rfl) (fun K hK => ?_)
    go_simp
    refine hK _ _ (fun _ _ => trivial) ?_
    clear hK
    try simp only [Act.put, List.setIfInBounds_toArray, List.set_cons_succ, List.set_cons_zero]
    refine order_one (i := 3) rfl (by kernel_rfl) (fun K hK => ?_)
    go_simp
    refine hK _ _ (fun _ _ => trivial) ?_
    clear hK
    try simp only [Act.put, List.setIfInBounds_toArray, List.set_cons_succ, List.set_cons_zero]
    refine order_done (by kernel_rfl) ?_
    go_wp2_with fail
    refine order_begin (fun W => BoxS P w mb bm bp bs #[.int .u8 23, .string tx, .int .i64 nm, .int .u8 tk, .bool ng, .slice la ln lc, .string tt, .int .i64 tn, .slice ia im ic, .slice ta tm tc, .slice ka kn kc] s W ∧ Blk W mb 51 #[.slice A cs.length c, .int .i64 next]) (fun j => !(j == 12)) (by kernel_rfl) 13 rfl ?_
    have HS0 := hide (HSB.out false)
    have HM0 := hide (HMB.out false)
    clear HSB HMB
    generalize ((((w.alloc (.cells #[.pointer (some ⟨mb, 0, none⟩)] 49)).alloc (.cells #[.int .u8 23, .string tx, .int .i64 nm, .int .u8 tk, .bool ng, .slice la ln lc, .string tt, .int .i64 tn, .slice ia im ic, .slice ta tm tc, .slice ka kn kc] 30)).alloc (.cells #[.int .i64 s] 3)).alloc (.cells #[.bool false] 4)).drew.drew = W0 at *
    have HS : BoxS P w mb bm bp bs #[.int .u8 23, .string tx, .int .i64 nm, .int .u8 tk, .bool ng, .slice la ln lc, .string tt, .int .i64 tn, .slice ia im ic, .slice ta tm tc, .slice ka kn kc] s W0 ∧ Blk W0 mb 51 #[.slice A cs.length c, .int .i64 next] := ⟨HS0.out, HM0.out.1⟩
    refine order_held (i := 0) rfl (by kernel_rfl) (fun _ _ _ h => h) (.inl ⟨rfl, fun W hW => by
      have q0 : W.cell? ⟨bm, 0, none⟩ = some (.pointer (some ⟨mb, 0, none⟩)) := hW.1.1.cell 0
      go_simp; rfl⟩) HS ?_
    try simp only [Act.put, List.setIfInBounds_toArray, List.set_cons_succ, List.set_cons_zero]
    refine order_held (i := 1) rfl (by kernel_rfl) (fun _ _ _ h => h) (.inl ⟨rfl, fun W hW => by
      have q0 : W.cell? ⟨bm, 0, none⟩ = some (.pointer (some ⟨mb, 0, none⟩)) := hW.1.1.cell 0
      go_simp; rfl⟩) HS ?_
    try simp only [Act.put, List.setIfInBounds_toArray, List.set_cons_succ, List.set_cons_zero]
    refine order_pure (i := 2) rfl (by kernel_rfl) (fun _ _ _ h => h) (.inl ⟨rfl, fun _ => by go_simp; rfl⟩) ?_
    try simp only [Act.put, List.setIfInBounds_toArray, List.set_cons_succ, List.set_cons_zero]
    refine order_pure (i := 3) rfl (by kernel_rfl) (fun _ _ _ h => h) (.inl ⟨rfl, fun _ => by go_simp; rfl⟩) ?_
    try simp only [Act.put, List.setIfInBounds_toArray, List.set_cons_succ, List.set_cons_zero]
    refine order_held (i := 4) rfl (by kernel_rfl) (fun _ _ _ h => h) (.inl ⟨rfl, fun W hW => by
      have q0 : W.cell? ⟨mb, 0, none⟩ = some (.slice A cs.length c) := hW.2.cell 0
      go_simp; rfl⟩) HS ?_
    try simp only [Act.put, List.setIfInBounds_toArray, List.set_cons_succ, List.set_cons_zero]
    refine order_pure (i := 5) rfl (by kernel_rfl) (fun _ _ _ h => h) (.inl ⟨rfl, fun _ => by go_simp; rfl⟩) ?_
    try simp only [Act.put, List.setIfInBounds_toArray, List.set_cons_succ, List.set_cons_zero]
    refine order_held (i := 6) rfl (by kernel_rfl) (fun _ _ _ h => h) (.inl ⟨rfl, fun W hW => by
      have q0 : W.cell? ⟨bp, 3, none⟩ = some (.int .u8 tk) := hW.1.2.1.cell 3
      have q1 : W.cell? ⟨bp, 4, none⟩ = some (.bool ng) := hW.1.2.1.cell 4
      have q2 : W.cell? ⟨bp, 5, none⟩ = some (.slice la ln lc) := hW.1.2.1.cell 5
      have q3 : W.cell? ⟨bp, 6, none⟩ = some (.string tt) := hW.1.2.1.cell 6
      have q4 : W.cell? ⟨bp, 7, none⟩ = some (.int .i64 tn) := hW.1.2.1.cell 7
      have q5 : W.cell? ⟨bp, 8, none⟩ = some (.slice ia im ic) := hW.1.2.1.cell 8
      have q6 : W.cell? ⟨bp, 9, none⟩ = some (.slice ta tm tc) := hW.1.2.1.cell 9
      go_simp; rfl⟩) HS ?_
    try simp only [Act.put, List.setIfInBounds_toArray, List.set_cons_succ, List.set_cons_zero]
    refine order_one (i := 7) rfl (by kernel_rfl) (fun K hK => ?_)
    go_simp
    refine (tm_copy _ t (Nat.le_refl _) W0 P F tk ng la ln lc tt tn ia im ic ta tm tc (TermIn.keep HS0.out.2.2.2 (fun k h hn => hn h) _ _ HT.out)).mono ?_
    rintro e W1 ⟨la', lc', ia', ic', ta', tc', rfl, ht1, hk1⟩
    refine hK _ _ (fun _ hS => ⟨hS.1.fresh hk1, hS.2.keep hk1 id⟩) ?_
    clear hK
    have HS1 := hide (HS0.out.fresh hk1)
    have HM1 := hide (HM0.out.keep hk1)
    have HT1 := hide ht1
    have HK1 := hide hk1
    clear ht1 hk1 HS HS0
    try simp only [Act.put, List.setIfInBounds_toArray, List.set_cons_succ, List.set_cons_zero]
    refine order_one (i := 8) rfl (by kernel_rfl) (fun K hK => ?_)
    go_simp
    refine hK _ _ (fun _ hS => ⟨hS.1.fresh ((Keeps.refl NoB W1).alloc _), hS.2.alloc _⟩) ?_
    clear hK
    have HS2 := hide (HS1.out.fresh ((Keeps.refl NoB W1).alloc (.cells #[.int .u8 tk, .bool ng, .slice la' ln lc', .string tt, .int .i64 tn, .slice ia' im ic', .slice ta' tm tc'] 27)))
    have HM2 := hide (HM1.out.keep ((Keeps.refl NoB W1).alloc (.cells #[.int .u8 tk, .bool ng, .slice la' ln lc', .string tt, .int .i64 tn, .slice ia' im ic', .slice ta' tm tc'] 27)))
    have HT2 := hide (TermIn.keep ((Keeps.refl NoB W1).alloc (.cells #[.int .u8 tk, .bool ng, .slice la' ln lc', .string tt, .int .i64 tn, .slice ia' im ic', .slice ta' tm tc'] 27)) (fun _ _ => id) _ _ HT1.out)
    have HK2 := hide (HK1.out.alloc (.cells #[.int .u8 tk, .bool ng, .slice la' ln lc', .string tt, .int .i64 tn, .slice ia' im ic', .slice ta' tm tc'] 27))
    have HRD := hide (one_reads7 (Blk.new W1 27 #[.int .u8 tk, .bool ng, .slice la' ln lc', .string tt, .int .i64 tn, .slice ia' im ic', .slice ta' tm tc']))
    clear HS1 HM1 HT1 HK1
    try simp only [Act.put, List.setIfInBounds_toArray, List.set_cons_succ, List.set_cons_zero]
    generalize W1.alloc (.cells #[.int .u8 tk, .bool ng, .slice la' ln lc', .string tt, .int .i64 tn, .slice ia' im ic', .slice ta' tm tc'] 27) = W2 at *
    generalize W1.heap.size = gz at *
    refine order_one (i := 9) rfl (by kernel_rfl) (fun K hK => ?_)
    refine step_append_any _ rfl (.tmp 55) (.tmp 59) 25 rfl 27 i0 _ 7 104 Try.underlying25 hi0 hz0 hz1 hz2 rfl (by omega) A cs.length c css.flatten rfl HM2.out.2.1 (fun _ => True) true (some ⟨gz, 0, none⟩) 1 1 [.int .u8 tk, .bool ng, .slice la' ln lc', .string tt, .int .i64 tn, .slice ia' im ic', .slice ta' tm tc'] rfl HRD.out (by intro u hu; simp only [List.mem_cons, List.not_mem_nil, or_false] at hu; rcases hu with rfl | rfl | rfl | rfl | rfl | rfl | rfl <;> rfl) (by unfold maxLen; omega) (by omega) ?_
    intro A4 c4 W4 g1 g2 g3
    have hfar : ∀ j, rowB A j → ¬ Hand P bm bp bs j := fun j hr hh => HM2.out.2.2.2.2.1 j hh hr
    have hbox4 := HS2.out.go (g2.mono (fun j _ hr => hfar j hr))
    have hb4 := HM2.out.1.keep g2 HM2.out.sep
    refine hK _ _ (fun _ _ => ⟨hbox4, hb4⟩) ?_
    clear hK
    have hk5 : Keeps (fun k => k = mb ∨ rowB A k) W2 (W4.setCell ⟨mb, 0, none⟩ (.slice A4 (cs.length + 1) c4)) := (g2.mono (fun _ _ h => .inr h)).setCell (p := ⟨mb, 0, none⟩) (.inl (.inl rfl)) _
    have hk6 : Keeps (fun k => k = mb) W4 (W4.setCell ⟨mb, 0, none⟩ (.slice A4 (cs.length + 1) c4)) := (Keeps.refl (fun k => k = mb) W4).setCell (p := ⟨mb, 0, none⟩) (.inl rfl) _
    have HK5 := hide hk5
    have HS5 := hide (hbox4.go (hk6.mono (fun k _ e hh => HM2.out.2.2.2.1 (e ▸ hh))))
    have HB5 : Hid (Blk (W4.setCell ⟨mb, 0, none⟩ (.slice A4 (cs.length + 1) c4)) mb 51 #[.slice A4 (cs.length + 1) c4, .int .i64 next]) := hide (by have h := hb4.put 0 (.slice A4 (cs.length + 1) c4); simpa using h)
    have HR5 := hide (g1.keep hk6 (fun k hr e => g1.ne hb4 (by decide) (e ▸ hr)))
    have HMV := hide g3
    have s2 : W4.cell? ⟨mb, 0, none⟩ = some (.slice A cs.length c) := hb4.cell 0
    have t2 : W4.frozen? ⟨mb, 0, none⟩ = false := hb4.free 0
    clear g1 g2 g3 hfar hbox4 hb4 hk5 hk6
    try simp only [Act.put, List.setIfInBounds_toArray, List.set_cons_succ, List.set_cons_zero]
    refine order_pure (i := 10) rfl (by kernel_rfl) (fun _ _ _ h => h) (.inl ⟨rfl, fun _ => by go_simp; rfl⟩) ?_
    try simp only [Act.put, List.setIfInBounds_toArray, List.set_cons_succ, List.set_cons_zero]
    refine order_pure (i := 11) rfl (by kernel_rfl) (fun _ _ _ h => h) (.inl ⟨rfl, fun _ => by go_simp; rfl⟩) ?_
    try simp only [Act.put, List.setIfInBounds_toArray, List.set_cons_succ, List.set_cons_zero]
    refine order_one (i := 12) rfl (by kernel_rfl) (fun K hK => ?_)
    go_simp
    refine hK _ _ (fun h => absurd h (by decide)) ?_
    clear hK
    try simp only [Act.put, List.setIfInBounds_toArray, List.set_cons_succ, List.set_cons_zero]
    clear s2 t2
    generalize W4.setCell ⟨mb, 0, none⟩ (.slice A4 (cs.length + 1) c4) = W5 at *
    refine order_done (by kernel_rfl) ?_
    have HM5 : Hid (MakerAt (Hand P bm bp bs) W5 mb next (cs ++ [t])) := hide (HM0.out.add HK2.out HT2.out HK5.out HB5.out HR5.out HMV.out)
    clear HM0 HK2 HT2 HK5 HR5 HMV HS2 HM2 HRD
    go_wp2_with fail
    refine order_begin (fun W => BoxS P w mb bm bp bs #[.int .u8 23, .string tx, .int .i64 nm, .int .u8 tk, .bool ng, .slice la ln lc, .string tt, .int .i64 tn, .slice ia im ic, .slice ta tm tc, .slice ka kn kc] s W ∧ Blk W mb 51 #[.slice A4 (cs.length + 1) c4, .int .i64 next]) (fun _ => true) (by kernel_rfl) 12 rfl ?_
    have HSZ : Hid (BoxS P w mb bm bp bs #[.int .u8 23, .string tx, .int .i64 nm, .int .u8 tk, .bool ng, .slice la ln lc, .string tt, .int .i64 tn, .slice ia im ic, .slice ta tm tc, .slice ka kn kc] s W5.drew ∧ Blk W5.drew mb 51 #[.slice A4 (cs.length + 1) c4, .int .i64 next]) := hide ⟨HS5.out.drew, HB5.out.drew⟩
    have HMZ : Hid (MakerAt (Hand P bm bp bs) W5.drew mb next (cs ++ [t])) := hide (HM5.out.keep (Keeps.refl _ _).drew)
    clear HS5 HB5 HM5
    generalize W5.drew = Z0 at *
    have HS := HSZ.out
    refine order_held (i := 0) rfl (by kernel_rfl) (fun _ _ _ h => h) (.inl ⟨rfl, fun W hW => by
      have q0 : W.cell? ⟨bs, 0, none⟩ = some (.int .i64 s) := hW.1.2.2.1.cell 0
      go_simp; rfl⟩) HS ?_
    try simp only [Act.put, List.setIfInBounds_toArray, List.set_cons_succ, List.set_cons_zero]
    refine order_held (i := 1) rfl (by kernel_rfl) (fun _ _ _ h => h) (.inl ⟨rfl, fun W hW => by
      have q0 : W.cell? ⟨bm, 0, none⟩ = some (.pointer (some ⟨mb, 0, none⟩)) := hW.1.1.cell 0
      go_simp; rfl⟩) HS ?_
    try simp only [Act.put, List.setIfInBounds_toArray, List.set_cons_succ, List.set_cons_zero]
    refine order_pure (i := 2) rfl (by kernel_rfl) (fun _ _ _ h => h) (.inl ⟨rfl, fun _ => by go_simp; rfl⟩) ?_
    try simp only [Act.put, List.setIfInBounds_toArray, List.set_cons_succ, List.set_cons_zero]
    refine order_pure (i := 3) rfl (by kernel_rfl) (fun _ _ _ h => h) (.inl ⟨rfl, fun _ => by go_simp; rfl⟩) ?_
    try simp only [Act.put, List.setIfInBounds_toArray, List.set_cons_succ, List.set_cons_zero]
    refine order_held (i := 4) rfl (by kernel_rfl) (fun _ _ _ h => h) (.inl ⟨rfl, fun W hW => by
      have q0 : W.cell? ⟨mb, 0, none⟩ = some (.slice A4 (cs.length + 1) c4) := hW.2.cell 0
      go_simp; rfl⟩) HS ?_
    try simp only [Act.put, List.setIfInBounds_toArray, List.set_cons_succ, List.set_cons_zero]
    refine order_pure (i := 5) rfl (by kernel_rfl) (fun _ _ _ h => h) (.inl ⟨rfl, fun _ => by go_simp; rfl⟩) ?_
    try simp only [Act.put, List.setIfInBounds_toArray, List.set_cons_succ, List.set_cons_zero]
    refine order_pure (i := 6) rfl (by kernel_rfl) (fun _ _ _ h => h) (.inl ⟨rfl, fun _ => by go_simp; rfl⟩) ?_
    try simp only [Act.put, List.setIfInBounds_toArray, List.set_cons_succ, List.set_cons_zero]
    refine order_one (i := 7) rfl (by kernel_rfl) (fun K hK => ?_)
    go_simp
    rw [show IntKind.i64.wrap (cs.length : Int) = cs.length from IntWalk.i64_in _ (by omega)]
    refine (test_any 15 s 0 cs.length Z0).mono ?_
    rintro e Z1 ⟨rfl, hk⟩
    refine hK _ _ (fun _ hS => ⟨hS.1.fresh hk, hS.2.keep hk id⟩) ?_
    clear hK
    have HSZ1 := hide (HSZ.out.1.fresh hk)
    have HMZ1 := hide (HMZ.out.keep hk)
    have HBZ1 := hide (HSZ.out.2.keep hk id)
    clear HSZ HMZ hk HS
    try simp only [Act.put, List.setIfInBounds_toArray, List.set_cons_succ, List.set_cons_zero]
    refine order_one (i := 8) rfl (by kernel_rfl) (fun K hK => ?_)
    go_simp
    refine hK _ _ (fun _ hS => ⟨hS.1.fresh ((Keeps.refl NoB Z1).alloc _), hS.2.alloc _⟩) ?_
    clear hK
    try simp only [Act.put, List.setIfInBounds_toArray, List.set_cons_succ, List.set_cons_zero]
    refine order_one (i := 9) rfl (by kernel_rfl) (fun K hK => ?_)
    go_simp
    refine hK _ _ (fun _ hS => ⟨hS.1.fresh ((Keeps.refl NoB _).alloc _), hS.2.alloc _⟩) ?_
    clear hK
    try simp only [Act.put, List.setIfInBounds_toArray, List.set_cons_succ, List.set_cons_zero]
    refine order_one (i := 10) rfl (by kernel_rfl) (fun K hK => ?_)
    go_simp
    refine (rows_new (testI 15 s 0 cs.length) Z1 Z1.heap.size rfl).mono ?_
    rintro e Z2 ⟨A9, c9, rfl, h1, h2, h3⟩
    refine hK _ _ (fun _ _ => ⟨HSZ1.out.fresh h3, HBZ1.out.keep h3 id⟩) ?_
    clear hK
    have HF1 := hide h1
    have HF2 : Hid (∀ k, rowB A9 k → w.heap.size ≤ k) := hide (fun k hk => Nat.le_trans HSZ1.out.2.2.2.size (h2 k hk))
    have HF3 := hide (HMZ1.out.drop.grow (Q := rowB A9) h3 (fun k hr => ⟨h2 k hr, h1.lt hr⟩))
    have HF4 : Hid (Keeps (fun k => ¬ P k) w Z2) := hide (HSZ1.out.2.2.2.trans' h3 (fun _ _ h => h) (fun _ _ h => h.elim))
    clear h1 h2 h3
    try simp only [Act.put, List.setIfInBounds_toArray, List.set_cons_succ, List.set_cons_zero]
    refine order_pure (i := 11) rfl (by kernel_rfl) (fun _ _ _ h => h) (.inl ⟨rfl, fun _ => by go_simp; rfl⟩) ?_
    try simp only [Act.put, List.setIfInBounds_toArray, List.set_cons_succ, List.set_cons_zero]
    refine order_done (by kernel_rfl) ?_
    go_wp2_with fail
    go_ret
    unfold AtPost
    exact ⟨A9, c9, rfl, HF1.out, HF2.out, HF3.out, HF4.out⟩
  · go_simp
    refine hK _ _ (fun _ _ => trivial) ?_
    clear hK
    try simp only [Act.put, List.setIfInBounds_toArray, List.set_cons_succ, List.set_cons_zero]
    refine order_one (i := 1) rfl (by kernel_rfl) (fun K hK => ?_)
    go_simp
    refine hK _ _ (fun _ _ => trivial) ?_
    clear hK
    try simp only [Act.put, List.setIfInBounds_toArray, List.set_cons_succ, List.set_cons_zero]
    refine order_one (i := 3) rfl (by kernel_rfl) (fun K hK => ?_)
    go_simp
    refine hK _ _ (fun _ _ => trivial) ?_
    clear hK
    try simp only [Act.put, List.setIfInBounds_toArray, List.set_cons_succ, List.set_cons_zero]
    refine order_done (by kernel_rfl) ?_
    go_wp2_with fail
    refine order_begin (fun W => BoxS P w mb bm bp bs #[.int .u8 23, .string tx, .int .i64 nm, .int .u8 tk, .bool ng, .slice la ln lc, .string tt, .int .i64 tn, .slice ia im ic, .slice ta tm tc, .slice ka kn kc] s W ∧ Blk W mb 51 #[.slice A cs.length c, .int .i64 next]) (fun j => !(j == 12)) (by kernel_rfl) 13 rfl ?_
    have HS0 := hide (HSB.out true)
    have HM0 := hide (HMB.out true)
    clear HSB HMB
    generalize ((((w.alloc (.cells #[.pointer (some ⟨mb, 0, none⟩)] 49)).alloc (.cells #[.int .u8 23, .string tx, .int .i64 nm, .int .u8 tk, .bool ng, .slice la ln lc, .string tt, .int .i64 tn, .slice ia im ic, .slice ta tm tc, .slice ka kn kc] 30)).alloc (.cells #[.int .i64 s] 3)).alloc (.cells #[.bool true] 4)).drew.drew = W0 at *
    have HS : BoxS P w mb bm bp bs #[.int .u8 23, .string tx, .int .i64 nm, .int .u8 tk, .bool ng, .slice la ln lc, .string tt, .int .i64 tn, .slice ia im ic, .slice ta tm tc, .slice ka kn kc] s W0 ∧ Blk W0 mb 51 #[.slice A cs.length c, .int .i64 next] := ⟨HS0.out, HM0.out.1⟩
    refine order_held (i := 0) rfl (by kernel_rfl) (fun _ _ _ h => h) (.inl ⟨rfl, fun W hW => by
      have q0 : W.cell? ⟨bm, 0, none⟩ = some (.pointer (some ⟨mb, 0, none⟩)) := hW.1.1.cell 0
      go_simp; rfl⟩) HS ?_
    try simp only [Act.put, List.setIfInBounds_toArray, List.set_cons_succ, List.set_cons_zero]
    refine order_pure (i := 1) rfl (by kernel_rfl) (fun _ _ _ h => h) (.inl ⟨rfl, fun _ => by go_simp; rfl⟩) ?_
    try simp only [Act.put, List.setIfInBounds_toArray, List.set_cons_succ, List.set_cons_zero]
    refine order_pure (i := 2) rfl (by kernel_rfl) (fun _ _ _ h => h) (.inl ⟨rfl, fun _ => by go_simp; rfl⟩) ?_
    try simp only [Act.put, List.setIfInBounds_toArray, List.set_cons_succ, List.set_cons_zero]
    refine order_held (i := 3) rfl (by kernel_rfl) (fun _ _ _ h => h) (.inl ⟨rfl, fun W hW => by
      have q0 : W.cell? ⟨mb, 0, none⟩ = some (.slice A cs.length c) := hW.2.cell 0
      go_simp; rfl⟩) HS ?_
    try simp only [Act.put, List.setIfInBounds_toArray, List.set_cons_succ, List.set_cons_zero]
    refine order_pure (i := 4) rfl (by kernel_rfl) (fun _ _ _ h => h) (.inl ⟨rfl, fun _ => by go_simp; rfl⟩) ?_
    try simp only [Act.put, List.setIfInBounds_toArray, List.set_cons_succ, List.set_cons_zero]
    refine order_held (i := 5) rfl (by kernel_rfl) (fun _ _ _ h => h) (.inl ⟨rfl, fun W hW => by
      have q0 : W.cell? ⟨bp, 3, none⟩ = some (.int .u8 tk) := hW.1.2.1.cell 3
      have q1 : W.cell? ⟨bp, 4, none⟩ = some (.bool ng) := hW.1.2.1.cell 4
      have q2 : W.cell? ⟨bp, 5, none⟩ = some (.slice la ln lc) := hW.1.2.1.cell 5
      have q3 : W.cell? ⟨bp, 6, none⟩ = some (.string tt) := hW.1.2.1.cell 6
      have q4 : W.cell? ⟨bp, 7, none⟩ = some (.int .i64 tn) := hW.1.2.1.cell 7
      have q5 : W.cell? ⟨bp, 8, none⟩ = some (.slice ia im ic) := hW.1.2.1.cell 8
      have q6 : W.cell? ⟨bp, 9, none⟩ = some (.slice ta tm tc) := hW.1.2.1.cell 9
      go_simp; rfl⟩) HS ?_
    try simp only [Act.put, List.setIfInBounds_toArray, List.set_cons_succ, List.set_cons_zero]
    refine order_pure (i := 7) rfl (by kernel_rfl) (fun _ _ _ h => h) (.inl ⟨rfl, fun _ => by go_simp; rfl⟩) ?_
    try simp only [Act.put, List.setIfInBounds_toArray, List.set_cons_succ, List.set_cons_zero]
    refine order_two (i := 6) (j := 8) rfl rfl (by kernel_rfl) (fun K hK => ?_) (fun K hK => ?_)
    · go_simp
      refine (tm_copy _ t (Nat.le_refl _) W0 P F tk ng la ln lc tt tn ia im ic ta tm tc (TermIn.keep HS0.out.2.2.2 (fun k h hn => hn h) _ _ HT.out)).mono ?_
      rintro e W1 ⟨la', lc', ia', ic', ta', tc', rfl, ht1, hk1⟩
      refine hK _ _ (fun _ hS => ⟨hS.1.fresh hk1, hS.2.keep hk1 id⟩) ?_
      clear hK
      have HS1 := hide (HS0.out.fresh hk1)
      have HM1 := hide (HM0.out.keep hk1)
      have HT1 := hide ht1
      have HK1 := hide hk1
      clear ht1 hk1 HS HS0
      try simp only [Act.put, List.setIfInBounds_toArray, List.set_cons_succ, List.set_cons_zero]
      refine order_one (i := 8) rfl (by kernel_rfl) (fun K hK => ?_)
      go_simp
      refine hK _ _ (fun _ hS => ⟨hS.1.fresh ((Keeps.refl NoB W1).alloc _), hS.2.alloc _⟩) ?_
      clear hK
      have HS2 := hide (HS1.out.fresh ((Keeps.refl NoB W1).alloc (.cells #[.int .u8 0, .bool false, .slice none 0 0, .string { data := #[] }, .int .i64 0, .slice none 0 0, .slice none 0 0] 27)))
      have HM2 := hide (HM1.out.keep ((Keeps.refl NoB W1).alloc (.cells #[.int .u8 0, .bool false, .slice none 0 0, .string { data := #[] }, .int .i64 0, .slice none 0 0, .slice none 0 0] 27)))
      have HT2 := hide (TermIn.keep ((Keeps.refl NoB W1).alloc (.cells #[.int .u8 0, .bool false, .slice none 0 0, .string { data := #[] }, .int .i64 0, .slice none 0 0, .slice none 0 0] 27)) (fun _ _ => id) _ _ HT1.out)
      have HK2 := hide (HK1.out.alloc (.cells #[.int .u8 0, .bool false, .slice none 0 0, .string { data := #[] }, .int .i64 0, .slice none 0 0, .slice none 0 0] 27))
      have HRD := hide (one_reads7 (Blk.new W1 27 #[.int .u8 0, .bool false, .slice none 0 0, .string { data := #[] }, .int .i64 0, .slice none 0 0, .slice none 0 0]))
      clear HS1 HM1 HT1 HK1
      try simp only [Act.put, List.setIfInBounds_toArray, List.set_cons_succ, List.set_cons_zero]
      generalize W1.alloc (.cells #[.int .u8 0, .bool false, .slice none 0 0, .string { data := #[] }, .int .i64 0, .slice none 0 0, .slice none 0 0] 27) = W2 at *
      generalize W1.heap.size = gz at *
      refine order_one (i := 9) rfl (by kernel_rfl) (fun K hK => ?_)
      refine step_append_any _ rfl (.tmp 41) (.tmp 46) 25 rfl 27 i0 _ 7 104 Try.underlying25 hi0 hz0 hz1 hz2 rfl (by omega) A cs.length c css.flatten rfl HM2.out.2.1 (fun _ => True) true (some ⟨gz, 0, none⟩) 1 1 [.int .u8 0, .bool false, .slice none 0 0, .string { data := #[] }, .int .i64 0, .slice none 0 0, .slice none 0 0] rfl HRD.out (by intro u hu; simp only [List.mem_cons, List.not_mem_nil, or_false] at hu; rcases hu with rfl | rfl | rfl | rfl | rfl | rfl | rfl <;> rfl) (by unfold maxLen; omega) (by omega) ?_
      intro A4 c4 W4 g1 g2 g3
      have hfar : ∀ j, rowB A j → ¬ Hand P bm bp bs j := fun j hr hh => HM2.out.2.2.2.2.1 j hh hr
      have hbox4 := HS2.out.go (g2.mono (fun j _ hr => hfar j hr))
      have hb4 := HM2.out.1.keep g2 HM2.out.sep
      refine hK _ _ (fun _ _ => ⟨hbox4, hb4⟩) ?_
      clear hK
      have hk5 : Keeps (fun k => k = mb ∨ rowB A k) W2 (W4.setCell ⟨mb, 0, none⟩ (.slice A4 (cs.length + 1) c4)) := (g2.mono (fun _ _ h => .inr h)).setCell (p := ⟨mb, 0, none⟩) (.inl (.inl rfl)) _
      have hk6 : Keeps (fun k => k = mb) W4 (W4.setCell ⟨mb, 0, none⟩ (.slice A4 (cs.length + 1) c4)) := (Keeps.refl (fun k => k = mb) W4).setCell (p := ⟨mb, 0, none⟩) (.inl rfl) _
      have HK5 := hide hk5
      have HS5 := hide (hbox4.go (hk6.mono (fun k _ e hh => HM2.out.2.2.2.1 (e ▸ hh))))
      have HB5 : Hid (Blk (W4.setCell ⟨mb, 0, none⟩ (.slice A4 (cs.length + 1) c4)) mb 51 #[.slice A4 (cs.length + 1) c4, .int .i64 next]) := hide (by have h := hb4.put 0 (.slice A4 (cs.length + 1) c4); simpa using h)
      have HR5 := hide (g1.keep hk6 (fun k hr e => g1.ne hb4 (by decide) (e ▸ hr)))
      have HMV := hide g3
      have s2 : W4.cell? ⟨mb, 0, none⟩ = some (.slice A cs.length c) := hb4.cell 0
      have t2 : W4.frozen? ⟨mb, 0, none⟩ = false := hb4.free 0
      clear g1 g2 g3 hfar hbox4 hb4 hk5 hk6
      try simp only [Act.put, List.setIfInBounds_toArray, List.set_cons_succ, List.set_cons_zero]
      refine order_pure (i := 10) rfl (by kernel_rfl) (fun _ _ _ h => h) (.inl ⟨rfl, fun _ => by go_simp; rfl⟩) ?_
      try simp only [Act.put, List.setIfInBounds_toArray, List.set_cons_succ, List.set_cons_zero]
      refine order_pure (i := 11) rfl (by kernel_rfl) (fun _ _ _ h => h) (.inl ⟨rfl, fun _ => by go_simp; rfl⟩) ?_
      try simp only [Act.put, List.setIfInBounds_toArray, List.set_cons_succ, List.set_cons_zero]
      refine order_one (i := 12) rfl (by kernel_rfl) (fun K hK => ?_)
      go_simp
      refine hK _ _ (fun h => absurd h (by decide)) ?_
      clear hK
      try simp only [Act.put, List.setIfInBounds_toArray, List.set_cons_succ, List.set_cons_zero]
      clear s2 t2
      generalize W4.setCell ⟨mb, 0, none⟩ (.slice A4 (cs.length + 1) c4) = W5 at *
      obtain ⟨g4, o4, rfl, ⟨p0, p1, p2, p3, p4, p5, p6⟩, hgl, ⟨f0, f1, f2, f3, f4, f5, f6⟩⟩ := HR5.out.last7 HCF.out
      have hor : (g4 = mb ∨ rowB A g4) ∨ W2.heap.size ≤ g4 := (HMV.out g4 ⟨o4, rfl⟩).elim (fun h => .inl (.inr h)) .inr
      have hk6 : Keeps (fun k => k = mb ∨ rowB A k) W2 (((((((W5.setCell ⟨g4, o4 + cs.length * 7, none⟩ (.int .u8 tk)).setCell ⟨g4, o4 + cs.length * 7 + 1, none⟩ (.bool ng)).setCell ⟨g4, o4 + cs.length * 7 + 2, none⟩ (.slice la' ln lc')).setCell ⟨g4, o4 + cs.length * 7 + 3, none⟩ (.string tt)).setCell ⟨g4, o4 + cs.length * 7 + 4, none⟩ (.int .i64 tn)).setCell ⟨g4, o4 + cs.length * 7 + 5, none⟩ (.slice ia' im ic')).setCell ⟨g4, o4 + cs.length * 7 + 6, none⟩ (.slice ta' tm tc')) := (((((((HK5.out.setCell (p := ⟨g4, o4 + cs.length * 7, none⟩) hor (_)).setCell (p := ⟨g4, o4 + cs.length * 7 + 1, none⟩) hor (_)).setCell (p := ⟨g4, o4 + cs.length * 7 + 2, none⟩) hor (_)).setCell (p := ⟨g4, o4 + cs.length * 7 + 3, none⟩) hor (_)).setCell (p := ⟨g4, o4 + cs.length * 7 + 4, none⟩) hor (_)).setCell (p := ⟨g4, o4 + cs.length * 7 + 5, none⟩) hor (_)).setCell (p := ⟨g4, o4 + cs.length * 7 + 6, none⟩) hor (_))
      have hk7 : Keeps (fun k => k = g4) W5 (((((((W5.setCell ⟨g4, o4 + cs.length * 7, none⟩ (.int .u8 tk)).setCell ⟨g4, o4 + cs.length * 7 + 1, none⟩ (.bool ng)).setCell ⟨g4, o4 + cs.length * 7 + 2, none⟩ (.slice la' ln lc')).setCell ⟨g4, o4 + cs.length * 7 + 3, none⟩ (.string tt)).setCell ⟨g4, o4 + cs.length * 7 + 4, none⟩ (.int .i64 tn)).setCell ⟨g4, o4 + cs.length * 7 + 5, none⟩ (.slice ia' im ic')).setCell ⟨g4, o4 + cs.length * 7 + 6, none⟩ (.slice ta' tm tc')) := ((((((((Keeps.refl (fun k => k = g4) W5).setCell (p := ⟨g4, o4 + cs.length * 7, none⟩) (.inl rfl) (_)).setCell (p := ⟨g4, o4 + cs.length * 7 + 1, none⟩) (.inl rfl) (_)).setCell (p := ⟨g4, o4 + cs.length * 7 + 2, none⟩) (.inl rfl) (_)).setCell (p := ⟨g4, o4 + cs.length * 7 + 3, none⟩) (.inl rfl) (_)).setCell (p := ⟨g4, o4 + cs.length * 7 + 4, none⟩) (.inl rfl) (_)).setCell (p := ⟨g4, o4 + cs.length * 7 + 5, none⟩) (.inl rfl) (_)).setCell (p := ⟨g4, o4 + cs.length * 7 + 6, none⟩) (.inl rfl) (_))
      have hne : mb ≠ g4 := fun e => HR5.out.ne HB5.out (by decide) ⟨o4, by rw [e]⟩
      have hnh : ¬ Hand P bm bp bs g4 := fun hh => by
        rcases HMV.out g4 ⟨o4, rfl⟩ with h | h
        · exact HM2.out.2.2.2.2.1 g4 hh h
        · have := HM2.out.2.2.2.2.2 g4 hh; omega
      have HK6 := hide hk6
      have HS6 := hide (HS5.out.go (hk7.mono (fun k _ e hh => hnh (e ▸ hh))))
      have HB6 := hide (HB5.out.keep hk7 hne)
      have HR6 := hide (HR5.out.sput7 HCF.out rfl (.int .u8 tk) (.bool ng) (.slice la' ln lc') (.string tt) (.int .i64 tn) (.slice ia' im ic') (.slice ta' tm tc'))
      clear hk6 hk7 hne hnh HS5 HB5 HR5 HK5
      have hn0 : (0 : Int) ≤ (cs.length : Int) := by omega
      have hn1 : (cs.length : Int) < ((cs.length + 1 : Nat) : Int) := by omega
      refine order_done (by kernel_rfl) ?_
      go_wp2_with fail
      clear p0 p1 p2 p3 p4 p5 p6 f0 f1 f2 f3 f4 f5 f6 hn0 hn1 hgl
      generalize (((((((W5.setCell ⟨g4, o4 + cs.length * 7, none⟩ (.int .u8 tk)).setCell ⟨g4, o4 + cs.length * 7 + 1, none⟩ (.bool ng)).setCell ⟨g4, o4 + cs.length * 7 + 2, none⟩ (.slice la' ln lc')).setCell ⟨g4, o4 + cs.length * 7 + 3, none⟩ (.string tt)).setCell ⟨g4, o4 + cs.length * 7 + 4, none⟩ (.int .i64 tn)).setCell ⟨g4, o4 + cs.length * 7 + 5, none⟩ (.slice ia' im ic')).setCell ⟨g4, o4 + cs.length * 7 + 6, none⟩ (.slice ta' tm tc')) = W6 at *
      have HM5 : Hid (MakerAt (Hand P bm bp bs) W6 mb next (cs ++ [t])) := hide (HM0.out.add HK2.out HT2.out HK6.out HB6.out HR6.out HMV.out)
      have HS5 := hide HS6.out; have HB5 := hide HB6.out
      clear HM0 HK2 HT2 HK6 HR6 HMV HS2 HM2 HRD HS6 HB6
      generalize (some ⟨g4, o4, none⟩ : Option Addr) = A4 at *
      refine order_begin (fun W => BoxS P w mb bm bp bs #[.int .u8 23, .string tx, .int .i64 nm, .int .u8 tk, .bool ng, .slice la ln lc, .string tt, .int .i64 tn, .slice ia im ic, .slice ta tm tc, .slice ka kn kc] s W ∧ Blk W mb 51 #[.slice A4 (cs.length + 1) c4, .int .i64 next]) (fun _ => true) (by kernel_rfl) 12 rfl ?_
      have HSZ : Hid (BoxS P w mb bm bp bs #[.int .u8 23, .string tx, .int .i64 nm, .int .u8 tk, .bool ng, .slice la ln lc, .string tt, .int .i64 tn, .slice ia im ic, .slice ta tm tc, .slice ka kn kc] s W6.drew ∧ Blk W6.drew mb 51 #[.slice A4 (cs.length + 1) c4, .int .i64 next]) := hide ⟨HS5.out.drew, HB5.out.drew⟩
      have HMZ : Hid (MakerAt (Hand P bm bp bs) W6.drew mb next (cs ++ [t])) := hide (HM5.out.keep (Keeps.refl _ _).drew)
      clear HS5 HB5 HM5
      generalize W6.drew = Z0 at *
      have HS := HSZ.out
      refine order_held (i := 0) rfl (by kernel_rfl) (fun _ _ _ h => h) (.inl ⟨rfl, fun W hW => by
        have q0 : W.cell? ⟨bs, 0, none⟩ = some (.int .i64 s) := hW.1.2.2.1.cell 0
        go_simp; rfl⟩) HS ?_
      try simp only [Act.put, List.setIfInBounds_toArray, List.set_cons_succ, List.set_cons_zero]
      refine order_held (i := 1) rfl (by kernel_rfl) (fun _ _ _ h => h) (.inl ⟨rfl, fun W hW => by
        have q0 : W.cell? ⟨bm, 0, none⟩ = some (.pointer (some ⟨mb, 0, none⟩)) := hW.1.1.cell 0
        go_simp; rfl⟩) HS ?_
      try simp only [Act.put, List.setIfInBounds_toArray, List.set_cons_succ, List.set_cons_zero]
      refine order_pure (i := 2) rfl (by kernel_rfl) (fun _ _ _ h => h) (.inl ⟨rfl, fun _ => by go_simp; rfl⟩) ?_
      try simp only [Act.put, List.setIfInBounds_toArray, List.set_cons_succ, List.set_cons_zero]
      refine order_pure (i := 3) rfl (by kernel_rfl) (fun _ _ _ h => h) (.inl ⟨rfl, fun _ => by go_simp; rfl⟩) ?_
      try simp only [Act.put, List.setIfInBounds_toArray, List.set_cons_succ, List.set_cons_zero]
      refine order_held (i := 4) rfl (by kernel_rfl) (fun _ _ _ h => h) (.inl ⟨rfl, fun W hW => by
        have q0 : W.cell? ⟨mb, 0, none⟩ = some (.slice A4 (cs.length + 1) c4) := hW.2.cell 0
        go_simp; rfl⟩) HS ?_
      try simp only [Act.put, List.setIfInBounds_toArray, List.set_cons_succ, List.set_cons_zero]
      refine order_pure (i := 5) rfl (by kernel_rfl) (fun _ _ _ h => h) (.inl ⟨rfl, fun _ => by go_simp; rfl⟩) ?_
      try simp only [Act.put, List.setIfInBounds_toArray, List.set_cons_succ, List.set_cons_zero]
      refine order_pure (i := 6) rfl (by kernel_rfl) (fun _ _ _ h => h) (.inl ⟨rfl, fun _ => by go_simp; rfl⟩) ?_
      try simp only [Act.put, List.setIfInBounds_toArray, List.set_cons_succ, List.set_cons_zero]
      refine order_one (i := 7) rfl (by kernel_rfl) (fun K hK => ?_)
      go_simp
      rw [show IntKind.i64.wrap (cs.length : Int) = cs.length from IntWalk.i64_in _ (by omega)]
      refine (test_any 15 s 0 cs.length Z0).mono ?_
      rintro e Z1 ⟨rfl, hk⟩
      refine hK _ _ (fun _ hS => ⟨hS.1.fresh hk, hS.2.keep hk id⟩) ?_
      clear hK
      have HSZ1 := hide (HSZ.out.1.fresh hk)
      have HMZ1 := hide (HMZ.out.keep hk)
      have HBZ1 := hide (HSZ.out.2.keep hk id)
      clear HSZ HMZ hk HS
      try simp only [Act.put, List.setIfInBounds_toArray, List.set_cons_succ, List.set_cons_zero]
      refine order_one (i := 8) rfl (by kernel_rfl) (fun K hK => ?_)
      go_simp
      refine hK _ _ (fun _ hS => ⟨hS.1.fresh ((Keeps.refl NoB Z1).alloc _), hS.2.alloc _⟩) ?_
      clear hK
      try simp only [Act.put, List.setIfInBounds_toArray, List.set_cons_succ, List.set_cons_zero]
      refine order_one (i := 9) rfl (by kernel_rfl) (fun K hK => ?_)
      go_simp
      refine hK _ _ (fun _ hS => ⟨hS.1.fresh ((Keeps.refl NoB _).alloc _), hS.2.alloc _⟩) ?_
      clear hK
      try simp only [Act.put, List.setIfInBounds_toArray, List.set_cons_succ, List.set_cons_zero]
      refine order_one (i := 10) rfl (by kernel_rfl) (fun K hK => ?_)
      go_simp
      refine (rows_new (testI 15 s 0 cs.length) Z1 Z1.heap.size rfl).mono ?_
      rintro e Z2 ⟨A9, c9, rfl, h1, h2, h3⟩
      refine hK _ _ (fun _ _ => ⟨HSZ1.out.fresh h3, HBZ1.out.keep h3 id⟩) ?_
      clear hK
      have HF1 := hide h1
      have HF2 : Hid (∀ k, rowB A9 k → w.heap.size ≤ k) := hide (fun k hk => Nat.le_trans HSZ1.out.2.2.2.size (h2 k hk))
      have HF3 := hide (HMZ1.out.drop.grow (Q := rowB A9) h3 (fun k hr => ⟨h2 k hr, h1.lt hr⟩))
      have HF4 : Hid (Keeps (fun k => ¬ P k) w Z2) := hide (HSZ1.out.2.2.2.trans' h3 (fun _ _ h => h) (fun _ _ h => h.elim))
      clear h1 h2 h3
      try simp only [Act.put, List.setIfInBounds_toArray, List.set_cons_succ, List.set_cons_zero]
      refine order_pure (i := 11) rfl (by kernel_rfl) (fun _ _ _ h => h) (.inl ⟨rfl, fun _ => by go_simp; rfl⟩) ?_
      try simp only [Act.put, List.setIfInBounds_toArray, List.set_cons_succ, List.set_cons_zero]
      refine order_done (by kernel_rfl) ?_
      go_wp2_with fail
      go_ret
      unfold AtPost
      exact ⟨A9, c9, rfl, HF1.out, HF2.out, HF3.out, HF4.out⟩
    · go_simp
      refine hK _ _ (fun _ hS => ⟨hS.1.fresh ((Keeps.refl NoB W0).alloc _), hS.2.alloc _⟩) ?_
      clear hK
      have HS1 := hide (HS0.out.fresh ((Keeps.refl NoB W0).alloc (.cells #[.int .u8 0, .bool false, .slice none 0 0, .string { data := #[] }, .int .i64 0, .slice none 0 0, .slice none 0 0] 27)))
      have HM1 := hide (HM0.out.keep ((Keeps.refl NoB W0).alloc (.cells #[.int .u8 0, .bool false, .slice none 0 0, .string { data := #[] }, .int .i64 0, .slice none 0 0, .slice none 0 0] 27)))
      have HK1 := hide ((Keeps.refl NoB W0).alloc (.cells #[.int .u8 0, .bool false, .slice none 0 0, .string { data := #[] }, .int .i64 0, .slice none 0 0, .slice none 0 0] 27))
      have HZ1 := hide (Blk.new W0 27 #[.int .u8 0, .bool false, .slice none 0 0, .string { data := #[] }, .int .i64 0, .slice none 0 0, .slice none 0 0])
      clear HS HS0
      try simp only [Act.put, List.setIfInBounds_toArray, List.set_cons_succ, List.set_cons_zero]
      generalize W0.alloc (.cells #[.int .u8 0, .bool false, .slice none 0 0, .string { data := #[] }, .int .i64 0, .slice none 0 0, .slice none 0 0] 27) = W1 at *
      generalize W0.heap.size = gz at *
      refine order_one (i := 6) rfl (by kernel_rfl) (fun K hK => ?_)
      go_simp
      refine (tm_copy _ t (Nat.le_refl _) W1 P F tk ng la ln lc tt tn ia im ic ta tm tc (TermIn.keep HS1.out.2.2.2 (fun k h hn => hn h) _ _ HT.out)).mono ?_
      rintro e W2 ⟨la', lc', ia', ic', ta', tc', rfl, ht1, hk1⟩
      refine hK _ _ (fun _ hS => ⟨hS.1.fresh hk1, hS.2.keep hk1 id⟩) ?_
      clear hK
      have HS2 := hide (HS1.out.fresh hk1)
      have HM2 := hide (HM1.out.keep hk1)
      have HT2 : Hid (TermIn W2 (Above W0) true [.int .u8 tk, .bool ng, .slice la' ln lc', .string tt, .int .i64 tn, .slice ia' im ic', .slice ta' tm tc'] t) := hide (TermIn.more (fun j _ hj => Nat.le_trans HK1.out.size hj) _ _ ht1)
      have HK2 := hide (HK1.out.trans' hk1 (fun _ _ => id) (fun _ _ => id) : Keeps NoB W0 W2)
      have HRD := hide (one_reads7 (HZ1.out.keep hk1 id))
      clear HS1 HM1 HK1 HZ1 ht1 hk1
      try simp only [Act.put, List.setIfInBounds_toArray, List.set_cons_succ, List.set_cons_zero]
      refine order_one (i := 9) rfl (by kernel_rfl) (fun K hK => ?_)
      refine step_append_any _ rfl (.tmp 41) (.tmp 46) 25 rfl 27 i0 _ 7 104 Try.underlying25 hi0 hz0 hz1 hz2 rfl (by omega) A cs.length c css.flatten rfl HM2.out.2.1 (fun _ => True) true (some ⟨gz, 0, none⟩) 1 1 [.int .u8 0, .bool false, .slice none 0 0, .string { data := #[] }, .int .i64 0, .slice none 0 0, .slice none 0 0] rfl HRD.out (by intro u hu; simp only [List.mem_cons, List.not_mem_nil, or_false] at hu; rcases hu with rfl | rfl | rfl | rfl | rfl | rfl | rfl <;> rfl) (by unfold maxLen; omega) (by omega) ?_
      intro A4 c4 W4 g1 g2 g3
      have hfar : ∀ j, rowB A j → ¬ Hand P bm bp bs j := fun j hr hh => HM2.out.2.2.2.2.1 j hh hr
      have hbox4 := HS2.out.go (g2.mono (fun j _ hr => hfar j hr))
      have hb4 := HM2.out.1.keep g2 HM2.out.sep
      refine hK _ _ (fun _ _ => ⟨hbox4, hb4⟩) ?_
      clear hK
      have hk5 : Keeps (fun k => k = mb ∨ rowB A k) W2 (W4.setCell ⟨mb, 0, none⟩ (.slice A4 (cs.length + 1) c4)) := (g2.mono (fun _ _ h => .inr h)).setCell (p := ⟨mb, 0, none⟩) (.inl (.inl rfl)) _
      have hk6 : Keeps (fun k => k = mb) W4 (W4.setCell ⟨mb, 0, none⟩ (.slice A4 (cs.length + 1) c4)) := (Keeps.refl (fun k => k = mb) W4).setCell (p := ⟨mb, 0, none⟩) (.inl rfl) _
      have HK5 := hide hk5
      have HS5 := hide (hbox4.go (hk6.mono (fun k _ e hh => HM2.out.2.2.2.1 (e ▸ hh))))
      have HB5 : Hid (Blk (W4.setCell ⟨mb, 0, none⟩ (.slice A4 (cs.length + 1) c4)) mb 51 #[.slice A4 (cs.length + 1) c4, .int .i64 next]) := hide (by have h := hb4.put 0 (.slice A4 (cs.length + 1) c4); simpa using h)
      have HR5 := hide (g1.keep hk6 (fun k hr e => g1.ne hb4 (by decide) (e ▸ hr)))
      have HMV := hide g3
      have s2 : W4.cell? ⟨mb, 0, none⟩ = some (.slice A cs.length c) := hb4.cell 0
      have t2 : W4.frozen? ⟨mb, 0, none⟩ = false := hb4.free 0
      clear g1 g2 g3 hfar hbox4 hb4 hk5 hk6
      try simp only [Act.put, List.setIfInBounds_toArray, List.set_cons_succ, List.set_cons_zero]
      refine order_pure (i := 10) rfl (by kernel_rfl) (fun _ _ _ h => h) (.inl ⟨rfl, fun _ => by go_simp; rfl⟩) ?_
      try simp only [Act.put, List.setIfInBounds_toArray, List.set_cons_succ, List.set_cons_zero]
      refine order_pure (i := 11) rfl (by kernel_rfl) (fun _ _ _ h => h) (.inl ⟨rfl, fun _ => by go_simp; rfl⟩) ?_
      try simp only [Act.put, List.setIfInBounds_toArray, List.set_cons_succ, List.set_cons_zero]
      refine order_one (i := 12) rfl (by kernel_rfl) (fun K hK => ?_)
      go_simp
      refine hK _ _ (fun h => absurd h (by decide)) ?_
      clear hK
      try simp only [Act.put, List.setIfInBounds_toArray, List.set_cons_succ, List.set_cons_zero]
      clear s2 t2
      generalize W4.setCell ⟨mb, 0, none⟩ (.slice A4 (cs.length + 1) c4) = W5 at *
      obtain ⟨g4, o4, rfl, ⟨p0, p1, p2, p3, p4, p5, p6⟩, hgl, ⟨f0, f1, f2, f3, f4, f5, f6⟩⟩ := HR5.out.last7 HCF.out
      have hor : (g4 = mb ∨ rowB A g4) ∨ W2.heap.size ≤ g4 := (HMV.out g4 ⟨o4, rfl⟩).elim (fun h => .inl (.inr h)) .inr
      have hk6 : Keeps (fun k => k = mb ∨ rowB A k) W2 (((((((W5.setCell ⟨g4, o4 + cs.length * 7, none⟩ (.int .u8 tk)).setCell ⟨g4, o4 + cs.length * 7 + 1, none⟩ (.bool ng)).setCell ⟨g4, o4 + cs.length * 7 + 2, none⟩ (.slice la' ln lc')).setCell ⟨g4, o4 + cs.length * 7 + 3, none⟩ (.string tt)).setCell ⟨g4, o4 + cs.length * 7 + 4, none⟩ (.int .i64 tn)).setCell ⟨g4, o4 + cs.length * 7 + 5, none⟩ (.slice ia' im ic')).setCell ⟨g4, o4 + cs.length * 7 + 6, none⟩ (.slice ta' tm tc')) := (((((((HK5.out.setCell (p := ⟨g4, o4 + cs.length * 7, none⟩) hor (_)).setCell (p := ⟨g4, o4 + cs.length * 7 + 1, none⟩) hor (_)).setCell (p := ⟨g4, o4 + cs.length * 7 + 2, none⟩) hor (_)).setCell (p := ⟨g4, o4 + cs.length * 7 + 3, none⟩) hor (_)).setCell (p := ⟨g4, o4 + cs.length * 7 + 4, none⟩) hor (_)).setCell (p := ⟨g4, o4 + cs.length * 7 + 5, none⟩) hor (_)).setCell (p := ⟨g4, o4 + cs.length * 7 + 6, none⟩) hor (_))
      have hk7 : Keeps (fun k => k = g4) W5 (((((((W5.setCell ⟨g4, o4 + cs.length * 7, none⟩ (.int .u8 tk)).setCell ⟨g4, o4 + cs.length * 7 + 1, none⟩ (.bool ng)).setCell ⟨g4, o4 + cs.length * 7 + 2, none⟩ (.slice la' ln lc')).setCell ⟨g4, o4 + cs.length * 7 + 3, none⟩ (.string tt)).setCell ⟨g4, o4 + cs.length * 7 + 4, none⟩ (.int .i64 tn)).setCell ⟨g4, o4 + cs.length * 7 + 5, none⟩ (.slice ia' im ic')).setCell ⟨g4, o4 + cs.length * 7 + 6, none⟩ (.slice ta' tm tc')) := ((((((((Keeps.refl (fun k => k = g4) W5).setCell (p := ⟨g4, o4 + cs.length * 7, none⟩) (.inl rfl) (_)).setCell (p := ⟨g4, o4 + cs.length * 7 + 1, none⟩) (.inl rfl) (_)).setCell (p := ⟨g4, o4 + cs.length * 7 + 2, none⟩) (.inl rfl) (_)).setCell (p := ⟨g4, o4 + cs.length * 7 + 3, none⟩) (.inl rfl) (_)).setCell (p := ⟨g4, o4 + cs.length * 7 + 4, none⟩) (.inl rfl) (_)).setCell (p := ⟨g4, o4 + cs.length * 7 + 5, none⟩) (.inl rfl) (_)).setCell (p := ⟨g4, o4 + cs.length * 7 + 6, none⟩) (.inl rfl) (_))
      have hne : mb ≠ g4 := fun e => HR5.out.ne HB5.out (by decide) ⟨o4, by rw [e]⟩
      have hnh : ¬ Hand P bm bp bs g4 := fun hh => by
        rcases HMV.out g4 ⟨o4, rfl⟩ with h | h
        · exact HM2.out.2.2.2.2.1 g4 hh h
        · have := HM2.out.2.2.2.2.2 g4 hh; omega
      have HK6 := hide hk6
      have HS6 := hide (HS5.out.go (hk7.mono (fun k _ e hh => hnh (e ▸ hh))))
      have HB6 := hide (HB5.out.keep hk7 hne)
      have HR6 := hide (HR5.out.sput7 HCF.out rfl (.int .u8 tk) (.bool ng) (.slice la' ln lc') (.string tt) (.int .i64 tn) (.slice ia' im ic') (.slice ta' tm tc'))
      clear hk6 hk7 hne hnh HS5 HB5 HR5 HK5
      have hn0 : (0 : Int) ≤ (cs.length : Int) := by omega
      have hn1 : (cs.length : Int) < ((cs.length + 1 : Nat) : Int) := by omega
      refine order_done (by kernel_rfl) ?_
      go_wp2_with fail
      clear p0 p1 p2 p3 p4 p5 p6 f0 f1 f2 f3 f4 f5 f6 hn0 hn1 hgl
      generalize (((((((W5.setCell ⟨g4, o4 + cs.length * 7, none⟩ (.int .u8 tk)).setCell ⟨g4, o4 + cs.length * 7 + 1, none⟩ (.bool ng)).setCell ⟨g4, o4 + cs.length * 7 + 2, none⟩ (.slice la' ln lc')).setCell ⟨g4, o4 + cs.length * 7 + 3, none⟩ (.string tt)).setCell ⟨g4, o4 + cs.length * 7 + 4, none⟩ (.int .i64 tn)).setCell ⟨g4, o4 + cs.length * 7 + 5, none⟩ (.slice ia' im ic')).setCell ⟨g4, o4 + cs.length * 7 + 6, none⟩ (.slice ta' tm tc')) = W6 at *
      have HM5 : Hid (MakerAt (Hand P bm bp bs) W6 mb next (cs ++ [t])) := hide (HM0.out.add HK2.out HT2.out HK6.out HB6.out HR6.out HMV.out)
      have HS5 := hide HS6.out; have HB5 := hide HB6.out
      clear HM0 HK2 HT2 HK6 HR6 HMV HS2 HM2 HRD HS6 HB6
      generalize (some ⟨g4, o4, none⟩ : Option Addr) = A4 at *
      refine order_begin (fun W => BoxS P w mb bm bp bs #[.int .u8 23, .string tx, .int .i64 nm, .int .u8 tk, .bool ng, .slice la ln lc, .string tt, .int .i64 tn, .slice ia im ic, .slice ta tm tc, .slice ka kn kc] s W ∧ Blk W mb 51 #[.slice A4 (cs.length + 1) c4, .int .i64 next]) (fun _ => true) (by kernel_rfl) 12 rfl ?_
      have HSZ : Hid (BoxS P w mb bm bp bs #[.int .u8 23, .string tx, .int .i64 nm, .int .u8 tk, .bool ng, .slice la ln lc, .string tt, .int .i64 tn, .slice ia im ic, .slice ta tm tc, .slice ka kn kc] s W6.drew ∧ Blk W6.drew mb 51 #[.slice A4 (cs.length + 1) c4, .int .i64 next]) := hide ⟨HS5.out.drew, HB5.out.drew⟩
      have HMZ : Hid (MakerAt (Hand P bm bp bs) W6.drew mb next (cs ++ [t])) := hide (HM5.out.keep (Keeps.refl _ _).drew)
      clear HS5 HB5 HM5
      generalize W6.drew = Z0 at *
      have HS := HSZ.out
      refine order_held (i := 0) rfl (by kernel_rfl) (fun _ _ _ h => h) (.inl ⟨rfl, fun W hW => by
        have q0 : W.cell? ⟨bs, 0, none⟩ = some (.int .i64 s) := hW.1.2.2.1.cell 0
        go_simp; rfl⟩) HS ?_
      try simp only [Act.put, List.setIfInBounds_toArray, List.set_cons_succ, List.set_cons_zero]
      refine order_held (i := 1) rfl (by kernel_rfl) (fun _ _ _ h => h) (.inl ⟨rfl, fun W hW => by
        have q0 : W.cell? ⟨bm, 0, none⟩ = some (.pointer (some ⟨mb, 0, none⟩)) := hW.1.1.cell 0
        go_simp; rfl⟩) HS ?_
      try simp only [Act.put, List.setIfInBounds_toArray, List.set_cons_succ, List.set_cons_zero]
      refine order_pure (i := 2) rfl (by kernel_rfl) (fun _ _ _ h => h) (.inl ⟨rfl, fun _ => by go_simp; rfl⟩) ?_
      try simp only [Act.put, List.setIfInBounds_toArray, List.set_cons_succ, List.set_cons_zero]
      refine order_pure (i := 3) rfl (by kernel_rfl) (fun _ _ _ h => h) (.inl ⟨rfl, fun _ => by go_simp; rfl⟩) ?_
      try simp only [Act.put, List.setIfInBounds_toArray, List.set_cons_succ, List.set_cons_zero]
      refine order_held (i := 4) rfl (by kernel_rfl) (fun _ _ _ h => h) (.inl ⟨rfl, fun W hW => by
        have q0 : W.cell? ⟨mb, 0, none⟩ = some (.slice A4 (cs.length + 1) c4) := hW.2.cell 0
        go_simp; rfl⟩) HS ?_
      try simp only [Act.put, List.setIfInBounds_toArray, List.set_cons_succ, List.set_cons_zero]
      refine order_pure (i := 5) rfl (by kernel_rfl) (fun _ _ _ h => h) (.inl ⟨rfl, fun _ => by go_simp; rfl⟩) ?_
      try simp only [Act.put, List.setIfInBounds_toArray, List.set_cons_succ, List.set_cons_zero]
      refine order_pure (i := 6) rfl (by kernel_rfl) (fun _ _ _ h => h) (.inl ⟨rfl, fun _ => by go_simp; rfl⟩) ?_
      try simp only [Act.put, List.setIfInBounds_toArray, List.set_cons_succ, List.set_cons_zero]
      refine order_one (i := 7) rfl (by kernel_rfl) (fun K hK => ?_)
      go_simp
      rw [show IntKind.i64.wrap (cs.length : Int) = cs.length from IntWalk.i64_in _ (by omega)]
      refine (test_any 15 s 0 cs.length Z0).mono ?_
      rintro e Z1 ⟨rfl, hk⟩
      refine hK _ _ (fun _ hS => ⟨hS.1.fresh hk, hS.2.keep hk id⟩) ?_
      clear hK
      have HSZ1 := hide (HSZ.out.1.fresh hk)
      have HMZ1 := hide (HMZ.out.keep hk)
      have HBZ1 := hide (HSZ.out.2.keep hk id)
      clear HSZ HMZ hk HS
      try simp only [Act.put, List.setIfInBounds_toArray, List.set_cons_succ, List.set_cons_zero]
      refine order_one (i := 8) rfl (by kernel_rfl) (fun K hK => ?_)
      go_simp
      refine hK _ _ (fun _ hS => ⟨hS.1.fresh ((Keeps.refl NoB Z1).alloc _), hS.2.alloc _⟩) ?_
      clear hK
      try simp only [Act.put, List.setIfInBounds_toArray, List.set_cons_succ, List.set_cons_zero]
      refine order_one (i := 9) rfl (by kernel_rfl) (fun K hK => ?_)
      go_simp
      refine hK _ _ (fun _ hS => ⟨hS.1.fresh ((Keeps.refl NoB _).alloc _), hS.2.alloc _⟩) ?_
      clear hK
      try simp only [Act.put, List.setIfInBounds_toArray, List.set_cons_succ, List.set_cons_zero]
      refine order_one (i := 10) rfl (by kernel_rfl) (fun K hK => ?_)
      go_simp
      refine (rows_new (testI 15 s 0 cs.length) Z1 Z1.heap.size rfl).mono ?_
      rintro e Z2 ⟨A9, c9, rfl, h1, h2, h3⟩
      refine hK _ _ (fun _ _ => ⟨HSZ1.out.fresh h3, HBZ1.out.keep h3 id⟩) ?_
      clear hK
      have HF1 := hide h1
      have HF2 : Hid (∀ k, rowB A9 k → w.heap.size ≤ k) := hide (fun k hk => Nat.le_trans HSZ1.out.2.2.2.size (h2 k hk))
      have HF3 := hide (HMZ1.out.drop.grow (Q := rowB A9) h3 (fun k hr => ⟨h2 k hr, h1.lt hr⟩))
      have HF4 : Hid (Keeps (fun k => ¬ P k) w Z2) := hide (HSZ1.out.2.2.2.trans' h3 (fun _ _ h => h) (fun _ _ h => h.elim))
      clear h1 h2 h3
      try simp only [Act.put, List.setIfInBounds_toArray, List.set_cons_succ, List.set_cons_zero]
      refine order_pure (i := 11) rfl (by kernel_rfl) (fun _ _ _ h => h) (.inl ⟨rfl, fun _ => by go_simp; rfl⟩) ?_
      try simp only [Act.put, List.setIfInBounds_toArray, List.set_cons_succ, List.set_cons_zero]
      refine order_done (by kernel_rfl) ?_
      go_wp2_with fail
      go_ret
      unfold AtPost
      exact ⟨A9, c9, rfl, HF1.out, HF2.out, HF3.out, HF4.out⟩
end Go.Proofs.Ytdmldipnalklgaa
