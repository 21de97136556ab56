/- law11.pattern. Printed by mkmatpat.py. -/
import Derived.Test.YtjdbjjjbgibpaaaGreatDoorMatFillJn
namespace Go.Proofs.YtjdbjjjbgibpaaaGreatDoor
open Go.RowKit

/-- What law11.pattern tells: some pattern of the term, from the variable a on. -/
def PP (w : World) (B : Nat → Prop) (gs gn a : Nat) (t : Tm) (e : Ending) (w' : World) : Prop := ∃ (p : Co) (b : Nat) (s9 : Int) (ck9 : Int) (cx9 : ByteArray) (cn9 tk9 : Int) (cg9 : Bool) (ca9 : Option Addr) (cl9 cc9 : Nat) (tt9 : ByteArray) (tz9 : Int) (ja9 : Option Addr) (jm9 jc9 : Nat) (ua9 : Option Addr) (um9 uc9 : Nat) (ka9 : Option Addr) (kn9 kc9 : Nat),
  e = .returned (.agg #[.int .u8 ck9, .string cx9, .int .i64 cn9, .int .u8 tk9, .bool cg9, .slice ca9 cl9 cc9, .string tt9, .int .i64 tz9, .slice ja9 jm9 jc9, .slice ua9 um9 uc9, .slice ka9 kn9 kc9]) ∧ Pat t a p b ∧ CoreIn w' (fun k => B k ∨ w.heap.size ≤ k) false [.int .u8 ck9, .string cx9, .int .i64 cn9, .int .u8 tk9, .bool cg9, .slice ca9 cl9 cc9, .string tt9, .int .i64 tz9, .slice ja9 jm9 jc9, .slice ua9 um9 uc9, .slice ka9 kn9 kc9] p ∧ Blk w' gs 3 #[.int .i64 s9] ∧ Blk w' gn 3 #[.int .i64 b] ∧ Keeps (fun k => k = gs ∨ k = gn) w w'
def PSaid (z : Int) (M : Nat) : Prop := ∀ (t : Tm), t.size ≤ M → goodT t → ∀ (a : Nat) (s : Int), a ≤ 100 → ∀ (w : World) (B : Nat → Prop) (kd1 : Int) (ng1 : Bool) (la1 : Option Addr) (ln1 lc1 : Nat) (tx1 : ByteArray) (nm1 : Int) (ia1 : Option Addr) (im1 ic1 : Nat) (ta1 : Option Addr) (tn1 tc1 : Nat) (gs gn : Nat), (∀ k, B k → k ≠ gs ∧ k ≠ gn) → gs ≠ gn → Blk w gs 3 #[.int .i64 s] → Blk w gn 3 #[.int .i64 a] → TermIn w B false [.int .u8 kd1, .bool ng1, .slice la1 ln1 lc1, .string tx1, .int .i64 nm1, .slice ia1 im1 ic1, .slice ta1 tn1 tc1] t →
  Calls Tryz.prog 9 #[.agg #[.int .u8 kd1, .bool ng1, .slice la1 ln1 lc1, .string tx1, .int .i64 nm1, .slice ia1 im1 ic1, .slice ta1 tn1 tc1], .int .i64 z, .pointer (some ⟨gs, 0, none⟩), .pointer (some ⟨gn, 0, none⟩)] w (PP w B gs gn a t)
theorem Blk.tput11 {w : World} {g : Nat} {t : TypeId} {a0 a1 a2 a3 a4 a5 a6 a7 a8 a9 a10 : Value} (h : Blk w g t #[a0, a1, a2, a3, a4, a5, a6, a7, a8, a9, a10]) (v0 v1 v2 v3 v4 v5 v6 v7 v8 v9 v10 : Value) :
    Blk (((((((((((w.setCell ⟨g, 0, none⟩ v0).setCell ⟨g, 1, none⟩ v1).setCell ⟨g, 2, none⟩ v2).setCell ⟨g, 3, none⟩ v3).setCell ⟨g, 4, none⟩ v4).setCell ⟨g, 5, none⟩ v5).setCell ⟨g, 6, none⟩ v6).setCell ⟨g, 7, none⟩ v7).setCell ⟨g, 8, none⟩ v8).setCell ⟨g, 9, none⟩ v9).setCell ⟨g, 10, none⟩ v10) g t #[v0, v1, v2, v3, v4, v5, v6, v7, v8, v9, v10] := by
  have := (((((((((((h.put 0 v0).put 1 v1).put 2 v2).put 3 v3).put 4 v4).put 5 v5).put 6 v6).put 7 v7).put 8 v8).put 9 v9).put 10 v10)
  simpa using this
theorem keeps_tput11 (w : World) (g : Nat) (v0 v1 v2 v3 v4 v5 v6 v7 v8 v9 v10 : Value) : Keeps (fun j => j = g) w (((((((((((w.setCell ⟨g, 0, none⟩ v0).setCell ⟨g, 1, none⟩ v1).setCell ⟨g, 2, none⟩ v2).setCell ⟨g, 3, none⟩ v3).setCell ⟨g, 4, none⟩ v4).setCell ⟨g, 5, none⟩ v5).setCell ⟨g, 6, none⟩ v6).setCell ⟨g, 7, none⟩ v7).setCell ⟨g, 8, none⟩ v8).setCell ⟨g, 9, none⟩ v9).setCell ⟨g, 10, none⟩ v10) := ((((((((((((Keeps.refl (fun j => j = g) w).setCell (p := ⟨g, 0, none⟩) (.inl rfl) v0).setCell (p := ⟨g, 1, none⟩) (.inl rfl) v1).setCell (p := ⟨g, 2, none⟩) (.inl rfl) v2).setCell (p := ⟨g, 3, none⟩) (.inl rfl) v3).setCell (p := ⟨g, 4, none⟩) (.inl rfl) v4).setCell (p := ⟨g, 5, none⟩) (.inl rfl) v5).setCell (p := ⟨g, 6, none⟩) (.inl rfl) v6).setCell (p := ⟨g, 7, none⟩) (.inl rfl) v7).setCell (p := ⟨g, 8, none⟩) (.inl rfl) v8).setCell (p := ⟨g, 9, none⟩) (.inl rfl) v9).setCell (p := ⟨g, 10, none⟩) (.inl rfl) v10)
theorem Blk.c11 {w : World} {g : Nat} {t : TypeId} {v0 v1 v2 v3 v4 v5 v6 v7 v8 v9 v10 : Value} (h : Blk w g t #[v0, v1, v2, v3, v4, v5, v6, v7, v8, v9, v10]) : w.cell? ⟨g, 0, none⟩ = some v0 ∧ w.cell? ⟨g, 1, none⟩ = some v1 ∧ w.cell? ⟨g, 2, none⟩ = some v2 ∧ w.cell? ⟨g, 3, none⟩ = some v3 ∧ w.cell? ⟨g, 4, none⟩ = some v4 ∧ w.cell? ⟨g, 5, none⟩ = some v5 ∧ w.cell? ⟨g, 6, none⟩ = some v6 ∧ w.cell? ⟨g, 7, none⟩ = some v7 ∧ w.cell? ⟨g, 8, none⟩ = some v8 ∧ w.cell? ⟨g, 9, none⟩ = some v9 ∧ w.cell? ⟨g, 10, none⟩ = some v10 := ⟨h.cell 0, h.cell 1, h.cell 2, h.cell 3, h.cell 4, h.cell 5, h.cell 6, h.cell 7, h.cell 8, h.cell 9, h.cell 10⟩
theorem Blk.f11 {w : World} {g : Nat} {t : TypeId} {cs : Array Value} (h : Blk w g t cs) : w.frozen? ⟨g, 0, none⟩ = false ∧ w.frozen? ⟨g, 1, none⟩ = false ∧ w.frozen? ⟨g, 2, none⟩ = false ∧ w.frozen? ⟨g, 3, none⟩ = false ∧ w.frozen? ⟨g, 4, none⟩ = false ∧ w.frozen? ⟨g, 5, none⟩ = false ∧ w.frozen? ⟨g, 6, none⟩ = false ∧ w.frozen? ⟨g, 7, none⟩ = false ∧ w.frozen? ⟨g, 8, none⟩ = false ∧ w.frozen? ⟨g, 9, none⟩ = false ∧ w.frozen? ⟨g, 10, none⟩ = false := ⟨h.free 0, h.free 1, h.free 2, h.free 3, h.free 4, h.free 5, h.free 6, h.free 7, h.free 8, h.free 9, h.free 10⟩
theorem results11 (f : Func) (k : Nat) (hr : f.results = #[ResultVar.cell k 34]) (tmps : Array Value) (r : Nat) (v0 v1 v2 v3 v4 v5 v6 v7 v8 v9 v10 : Value) (w : World) (ht : tmps[k]? = some (.pointer (some ⟨r, 0, none⟩))) (hB : Blk w r 34 #[v0, v1, v2, v3, v4, v5, v6, v7, v8, v9, v10]) : (results f tmps).run Tryz.prog w = .ok (.agg #[v0, v1, v2, v3, v4, v5, v6, v7, v8, v9, v10]) w := by
  obtain ⟨c0, c1, c2, c3, c4, c5, c6, c7, c8, c9, c10⟩ := Blk.c11 hB
  simp [results, hr, go_sem, ht, c0, c1, c2, c3, c4, c5, c6, c7, c8, c9, c10]
theorem core_leaf {w : World} {B : Nat → Prop} (k n : Int) : CoreIn w B false [.int .u8 k, .string ⟨#[]⟩, .int .i64 n, .int .u8 0, .bool false, .slice none 0 0, .string ⟨#[]⟩, .int .i64 0, .slice none 0 0, .slice none 0 0, .slice none 0 0] (.mk k ⟨#[]⟩ n zeroTm []) := by
  unfold CoreIn
  exact ⟨[.int .u8 0, .bool false, .slice none 0 0, .string ⟨#[]⟩, .int .i64 0, .slice none 0 0, .slice none 0 0], none, 0, 0, [], rfl, flat_in w B false 0 ByteArray.empty 0, by unfold Roomy; omega, Reads.zero _ _ _ _ _, by unfold CoresIn; trivial⟩
theorem core_row {w : World} {B : Nat → Prop} (k : Int) {ks : List Co} {A : Option Addr} {n c : Nat} {css : List (List Value)} (hn : n ≤ 10000) (hr : Reads w B false 11 A n css.flatten) (hc : CoresIn w B false css ks) : CoreIn w B false [.int .u8 k, .string ⟨#[]⟩, .int .i64 0, .int .u8 0, .bool false, .slice none 0 0, .string ⟨#[]⟩, .int .i64 0, .slice none 0 0, .slice none 0 0, .slice A n c] (.mk k ⟨#[]⟩ 0 zeroTm ks) := by
  unfold CoreIn
  exact ⟨[.int .u8 0, .bool false, .slice none 0 0, .string ⟨#[]⟩, .int .i64 0, .slice none 0 0, .slice none 0 0], A, n, c, css, rfl, flat_in w B false 0 ByteArray.empty 0, by unfold Roomy; omega, hr, hc⟩
theorem core_cst {w : World} {B : Nat → Prop} (k : Int) {t : Tm} {kd' : Int} {ng' : Bool} {la' : Option Addr} {ln' lc' : Nat} {tx' : ByteArray} {nm' : Int} {ia' : Option Addr} {im' ic' : Nat} {ta' : Option Addr} {tn' tc' : Nat} (h : TermIn w B false [.int .u8 kd', .bool ng', .slice la' ln' lc', .string tx', .int .i64 nm', .slice ia' im' ic', .slice ta' tn' tc'] t) : CoreIn w B false [.int .u8 k, .string ⟨#[]⟩, .int .i64 0, .int .u8 kd', .bool ng', .slice la' ln' lc', .string tx', .int .i64 nm', .slice ia' im' ic', .slice ta' tn' tc', .slice none 0 0] (.mk k ⟨#[]⟩ 0 t []) := by
  unfold CoreIn
  exact ⟨[.int .u8 kd', .bool ng', .slice la' ln' lc', .string tx', .int .i64 nm', .slice ia' im' ic', .slice ta' tn' tc'], none, 0, 0, [], rfl, h, by unfold Roomy; omega, Reads.zero _ _ _ _ _, by unfold CoresIn; trivial⟩
theorem two_core_rows {w : World} {B : Nat → Prop} {g : Nat} {t : TypeId} {xs ys : List Value} {p q : Co} (hb : Blk w g t (xs ++ ys).toArray) (hg : B g) (h1 : CoreIn w B false xs p) (h2 : CoreIn w B false ys q) : Reads w B false 11 (some ⟨g, 0, none⟩) 2 [xs, ys].flatten ∧ CoresIn w B false [xs, ys] [p, q] := by
  refine ⟨⟨by simp [h1.len, h2.len], fun _ => ⟨_, rfl, rfl, hg, hb.lt, fun j u hu => ⟨?_, fun h => by cases h⟩⟩⟩, by unfold CoresIn CoresIn CoresIn; exact ⟨h1, h2, trivial⟩⟩
  rw [hb.cell, Nat.zero_add]
  simpa using hu
theorem term_cells {w : World} {B : Nat → Prop} {ts : List Tm} {css : List (List Value)} {A : Option Addr} {n : Nat} (hr : Reads w B false 7 A n css.flatten) (ht : TermsIn w B false css ts) (k : Nat) (hk : k < n) :
    ∃ (b o : Nat) (t : Tm) (kd2 : Int) (ng2 : Bool) (la2 : Option Addr) (ln2 lc2 : Nat) (tx2 : ByteArray) (nm2 : Int) (ia2 : Option Addr) (im2 ic2 : Nat) (ta2 : Option Addr) (tn2 tc2 : Nat), A = some ⟨b, o, none⟩ ∧ B b ∧ ts[k]? = some t ∧ t.size ≤ Tm.size.sizes ts ∧ TermIn w B false [.int .u8 kd2, .bool ng2, .slice la2 ln2 lc2, .string tx2, .int .i64 nm2, .slice ia2 im2 ic2, .slice ta2 tn2 tc2] t ∧
      (w.cell? ⟨b, o + k * 7, none⟩ = some (.int .u8 kd2) ∧ w.cell? ⟨b, o + k * 7 + 1, none⟩ = some (.bool ng2) ∧ w.cell? ⟨b, o + k * 7 + 2, none⟩ = some (.slice la2 ln2 lc2) ∧ w.cell? ⟨b, o + k * 7 + 3, none⟩ = some (.string tx2) ∧ w.cell? ⟨b, o + k * 7 + 4, none⟩ = some (.int .i64 nm2) ∧ w.cell? ⟨b, o + k * 7 + 5, none⟩ = some (.slice ia2 im2 ic2) ∧ w.cell? ⟨b, o + k * 7 + 6, none⟩ = some (.slice ta2 tn2 tc2)) := by
  obtain ⟨b, o, kd, ng, la, ln, lc, tx, nm, ia, im, ic, ta, tn, tc, t, rfl, h1, h2, h3, h4⟩ := cells_at hr ht k hk
  obtain ⟨_, hA, _, hB, _⟩ := hr.2 (by omega)
  injection hA with hA
  subst hA
  exact ⟨b, o, t, kd, ng, la, ln, lc, tx, nm, ia, im, ic, ta, tn, tc, rfl, hB, h1, h3, h2, h4⟩
theorem split_less {t h r : Tm} (hs : splitT t = some (h, r)) : h.size < t.size ∧ r.size < t.size := by
  obtain ⟨k, ng, limbs, text, num, items, tail⟩ := t
  unfold splitT at hs
  split at hs
  · have ei : (Tm.mk k ng limbs text num items tail).items = items := rfl
    have et : (Tm.mk k ng limbs text num items tail).tail = tail := rfl
    rw [ei, et] at hs
    rcases items with _ | ⟨x, _ | ⟨y, l⟩⟩
    · cases hs
    · injection hs with hs
      injection hs with q1 q2
      subst q1 q2
      rcases tail with _ | ⟨z, l⟩
      · simp only [Tm.size, Tm.size.sizes, restT, nilT]
        omega
      · simp only [Tm.size, Tm.size.sizes, restT, nilT]
        omega
    · injection hs with hs
      injection hs with q1 q2
      subst q1 q2
      simp only [Tm.size, Tm.size.sizes]
      omega
  · cases hs
theorem item_less (t : Tm) : Tm.size.sizes t.items < t.size := by
  obtain ⟨k, ng, limbs, text, num, items, tail⟩ := t
  show Tm.size.sizes items < _
  simp only [Tm.size]
  omega
theorem CoreIn.off {w w' : World} {P : Nat → Prop} {A A' : Option Addr} {cs : List Value} {t : Co} {B : Nat → Prop} {N gt : Nat} (h : CoreIn w P false cs t) (hk : Keeps (rowB A) w w') (hm : Moved w A A') (hP : ∀ j, P j → (B j ∧ j < N) ∨ (gt < j ∧ ¬ rowB A j)) (hn : ∀ j, rowB A j → gt < j) (hN : N ≤ gt) :
    CoreIn w' (fun j => (B j ∧ j < N) ∨ (gt < j ∧ ¬ rowB A' j)) false cs t := by
  have h1 := CoreIn.more (B' := fun j => ((B j ∧ j < N) ∨ (gt < j ∧ ¬ rowB A j)) ∧ j < w.heap.size) (fun j hj hp => ⟨hP j hp, hj⟩) _ _ h
  refine CoreIn.more (fun j _ hj => ?_) _ _ (CoreIn.keep hk (fun j hj hr => ?_) _ _ h1)
  · rcases hj.1 with h2 | h2
    · exact .inl h2
    · refine .inr ⟨h2.1, fun hr => ?_⟩
      rcases hm j hr with h3 | h3
      · exact h2.2 h3
      · have := hj.2; omega
  · rcases hj.1 with h2 | h2
    · have := hn j hr; omega
    · exact h2.2 hr
theorem CoresIn.off {w w' : World} {P : Nat → Prop} {A A' : Option Addr} {css : List (List Value)} {ts : List Co} {B : Nat → Prop} {N gt : Nat} (h : CoresIn w P false css ts) (hk : Keeps (rowB A) w w') (hm : Moved w A A') (hP : ∀ j, P j → (B j ∧ j < N) ∨ (gt < j ∧ ¬ rowB A j)) (hn : ∀ j, rowB A j → gt < j) (hN : N ≤ gt) :
    CoresIn w' (fun j => (B j ∧ j < N) ∨ (gt < j ∧ ¬ rowB A' j)) false css ts := by
  have h1 := CoresIn.more (B' := fun j => ((B j ∧ j < N) ∨ (gt < j ∧ ¬ rowB A j)) ∧ j < w.heap.size) (fun j hj hp => ⟨hP j hp, hj⟩) _ _ h
  refine CoresIn.more (fun j _ hj => ?_) _ _ (CoresIn.keep hk (fun j hj hr => ?_) _ _ h1)
  · rcases hj.1 with h2 | h2
    · exact .inl h2
    · refine .inr ⟨h2.1, fun hr => ?_⟩
      rcases hm j hr with h3 | h3
      · exact h2.2 h3
      · have := hj.2; omega
  · rcases hj.1 with h2 | h2
    · have := hn j hr; omega
    · exact h2.2 hr
/-- Behind k items: the row of the patterns, and the patterns in it. -/
structure TupPat (w : World) (B : Nat → Prop) (g9 gs gn a b : Nat) (s9 : Int) (l : List Tm) (w1 : World) (k : Nat) (A5 : Option Addr) (c5 : Nat) (wr : World) : Prop where
  box : Blk wr g9 34 #[.int .u8 24, .string ⟨#[]⟩, .int .i64 0, .int .u8 0, .bool false, .slice none 0 0, .string ⟨#[]⟩, .int .i64 0, .slice none 0 0, .slice none 0 0, .slice A5 k c5]
  row : ∃ css cs, Slab wr 34 11 A5 k c5 css.flatten ∧ CoresIn wr (fun j => (B j ∧ j < w.heap.size) ∨ (g9 < j ∧ ¬ rowB A5 j)) false css cs ∧ Pats l a cs b
  hs : Blk wr gs 3 #[.int .i64 s9]
  hn : Blk wr gn 3 #[.int .i64 b]
  new : ∀ j, rowB A5 j → w1.heap.size ≤ j
  keep : Keeps (fun j => j = g9 ∨ (j = gs ∨ j = gn)) w1 wr
set_option maxRecDepth 100000 in
set_option maxHeartbeats 8000000 in
set_option pp.deepTerms true in
set_option pp.maxSteps 100000 in
theorem pat_walk (z : Int) (M : Nat) (IH : PSaid z M) (t : Tm) (hM : t.size ≤ M + 1) (hg : goodT t) (a : Nat) (s : Int) (ha : a ≤ 100) (w : World) (B : Nat → Prop) (kd1 : Int) (ng1 : Bool) (la1 : Option Addr) (ln1 lc1 : Nat) (tx1 : ByteArray) (nm1 : Int) (ia1 : Option Addr) (im1 ic1 : Nat) (ta1 : Option Addr) (tn1 tc1 : Nat) (gs gn : Nat) (hB : ∀ k, B k → k ≠ gs ∧ k ≠ gn) (hne : gs ≠ gn) (hs : Blk w gs 3 #[.int .i64 s]) (hn : Blk w gn 3 #[.int .i64 a]) (ht : TermIn w B false [.int .u8 kd1, .bool ng1, .slice la1 ln1 lc1, .string tx1, .int .i64 nm1, .slice ia1 im1 ic1, .slice ta1 tn1 tc1] t) :
  Calls Tryz.prog 9 #[.agg #[.int .u8 kd1, .bool ng1, .slice la1 ln1 lc1, .string tx1, .int .i64 nm1, .slice ia1 im1 ic1, .slice ta1 tn1 tc1], .int .i64 z, .pointer (some ⟨gs, 0, none⟩), .pointer (some ⟨gn, 0, none⟩)] w (PP w B gs gn a t) := by
  have HK0 := hide (((Keeps.refl NoB w).alloc (.cells #[.int .u8 kd1, .bool ng1, .slice la1 ln1 lc1, .string tx1, .int .i64 nm1, .slice ia1 im1 ic1, .slice ta1 tn1 tc1] 26)).alloc (.cells #[.int .u8 0, .string ⟨#[]⟩, .int .i64 0, .int .u8 0, .bool false, .slice none 0 0, .string ⟨#[]⟩, .int .i64 0, .slice none 0 0, .slice none 0 0, .slice none 0 0] 34))
  have HB4 := hide (two_tblks w 26 34 #[.int .u8 kd1, .bool ng1, .slice la1 ln1 lc1, .string tx1, .int .i64 nm1, .slice ia1 im1 ic1, .slice ta1 tn1 tc1] #[.int .u8 0, .string ⟨#[]⟩, .int .i64 0, .int .u8 0, .bool false, .slice none 0 0, .string ⟨#[]⟩, .int .i64 0, .slice none 0 0, .slice none 0 0, .slice none 0 0]).1; have HB8 := hide (two_tblks w 26 34 #[.int .u8 kd1, .bool ng1, .slice la1 ln1 lc1, .string tx1, .int .i64 nm1, .slice ia1 im1 ic1, .slice ta1 tn1 tc1] #[.int .u8 0, .string ⟨#[]⟩, .int .i64 0, .int .u8 0, .bool false, .slice none 0 0, .string ⟨#[]⟩, .int .i64 0, .slice none 0 0, .slice none 0 0, .slice none 0 0]).2
  have HS := hide (hs.keep HK0.out id); have HN := hide (hn.keep HK0.out id)
  have HT := hide (TermIn.keep HK0.out (fun _ _ => id) _ _ (TermIn.more (fun k hk h => (show B k ∧ k < w.heap.size from ⟨h, hk⟩)) _ _ ht))
  have HLT := hide (And.intro hs.lt hn.lt); have HBX := hide hB; have HNE := hide hne; have HGT := hide hg; have HMM := hide hM; have HIH := hide IH
  clear hs hn ht hB hne hg hM IH
  go_enter Tryz.func9, Tryz.ntmps9
  go_upto_region 1 with fail
  generalize (w.alloc (.cells #[.int .u8 kd1, .bool ng1, .slice la1 ln1 lc1, .string tx1, .int .i64 nm1, .slice ia1 im1 ic1, .slice ta1 tn1 tc1] 26)).alloc (.cells #[.int .u8 0, .string ⟨#[]⟩, .int .i64 0, .int .u8 0, .bool false, .slice none 0 0, .string ⟨#[]⟩, .int .i64 0, .slice none 0 0, .slice none 0 0, .slice none 0 0] 34) = w0 at *
  obtain ⟨gp, hgp⟩ : ∃ g, w.heap.size = g := ⟨_, rfl⟩
  rw [hgp] at HB4 HB8
  simp only [hgp]
  have HGP := hide hgp
  clear hgp
  have s0 := HS.out.cell 0
  have f0 := HS.out.free 0
  go_upto_region 2 with fail
  generalize wrap64 (s + 1) = s1
  have HS1 := hide (show Blk _ gs 3 #[.int .i64 s1] from HS.out.put 0 (.int .i64 s1))
  have HKS := hide (((Keeps.refl (fun k => k = gs ∨ k = gn) w0).setCell (p := ⟨gs, 0, none⟩) (.inl (.inl rfl)) (.int .i64 s1)))
  clear s0 f0
  have HN1 := hide (HN.out.far (p := ⟨gs, 0, none⟩) (fun e => HNE.out e.symm) (.int .i64 s1))
  generalize w0.setCell ⟨gs, 0, none⟩ (.int .i64 s1) = w1 at *
  have s0 := HS1.out.cell 0
  go_cut [36] (fun s36 wx => ∃ x : Bool, s36 = .bool x ∧ (x = true → a < 100) ∧ wx = w1)
  case first =>
    by_cases hz : 0 < z
    · have hz1 : ¬ z ≤ 0 := by omega
      have hz2 : ¬ z = 0 := by omega
      have hz3 : (z == 0) = false := by simpa using hz2
      have n0 := HN1.out.cell 0
      go_wp2_with fail
      · by_cases h100 : a < 100
        · have hd : decide ((a : Int) < 100) = true := decide_eq_true (by omega)
          try rw [hd]
          go_meet
          exact ⟨true, rfl, (fun _ => h100), rfl⟩
        · have hd : decide ((a : Int) < 100) = false := decide_eq_false (by omega)
          try rw [hd]
          go_meet
          exact ⟨false, rfl, (fun h => by cases h), rfl⟩
      · go_meet
        exact ⟨false, rfl, (fun h => by cases h), rfl⟩
    · have hz1 : z ≤ 0 := by omega
      go_wp2_with fail
      go_meet
      exact ⟨false, rfl, (fun h => by cases h), rfl⟩
  case rest =>
    obtain ⟨x, rfl, hxa, hw⟩ := hcut
    subst hw
    obtain ⟨w1, rfl⟩ : ∃ w1, w1 = wc := ⟨_, rfl⟩
    clear s0
    have HLG := hide (show gs < gp ∧ gn < gp from by have h1 := HLT.out; have h2 := HGP.out; omega)
    have HNG := hide (show ∀ k, gp ≤ k → ¬ (k = gs ∨ k = gn) from fun k hk e => by have h1 := HLG.out; omega)
    have HB41 := hide (HB4.out.keep HKS.out (HNG.out gp (Nat.le_refl _))); have HB81 := hide (HB8.out.keep HKS.out (HNG.out (gp + 1) (by omega)))
    have HBN := hide (show ∀ k, (B k ∧ k < w.heap.size) → ¬ (k = gs ∨ k = gn) from fun k hk e => by have h1 := HBX.out k hk.1; omega)
    have HT1 := hide (TermIn.keep HKS.out HBN.out _ _ HT.out)
    clear HB4 HB8 HT HS HN
    cases x with
    | true =>
      have ha1 : a < 100 := hxa rfl
      have n0 := HN1.out.cell 0
      have fn0 := HN1.out.free 0
      go_upto_region 4 with fail
      have HN2 := hide (show Blk _ gn 3 #[.int .i64 ((a : Int) + 1)] from HN1.out.put 0 (.int .i64 ((a : Int) + 1)))
      have HS2 := hide (HS1.out.far (p := ⟨gn, 0, none⟩) HNE.out (.int .i64 ((a : Int) + 1)))
      have HB82 := hide (HB81.out.far (p := ⟨gn, 0, none⟩) (fun e => by have e : gp + 1 = gn := e; have h1 := HLG.out; omega) (.int .i64 ((a : Int) + 1)))
      have HK2 := hide (HKS.out.setCell (p := ⟨gn, 0, none⟩) (.inl (.inr rfl)) (.int .i64 ((a : Int) + 1)))
      clear n0 fn0 HN1 HS1 HB81 HB41 HT1 HKS
      generalize w1.setCell ⟨gn, 0, none⟩ (.int .i64 ((a : Int) + 1)) = w2 at *
      have n1 := HN2.out.cell 0
      go_wp2_with
        first
        | (go_at_call 16
           refine (num_core 21 a w2).mono ?_
           rintro e w3 ⟨rfl, hk3⟩
           have HS3 := hide (HS2.out.keep hk3 id); have HN3 := hide (HN2.out.keep hk3 id); have HB83 := hide (HB82.out.keep hk3 id)
           have HK3 := hide (HK2.out.trans' hk3 (fun _ _ => id) (fun _ _ h => h.elim) : Keeps (fun k => k = gs ∨ k = gn) w0 w3)
           obtain ⟨y0, y1, y2, y3, y4, y5, y6, y7, y8, y9, y10⟩ := Blk.f11 (w := w3) (g := gp + 1) HB83.out
           obtain ⟨x0, x1, x2, x3, x4, x5, x6, x7, x8, x9, x10⟩ := Blk.c11 HB83.out
           clear hk3 n1)
        | fail
      have HKA := hide (keeps_tput11 w3 (gp + 1) (.int .u8 21) (.string ⟨#[]⟩) (.int .i64 a) (.int .u8 0) (.bool false) (.slice none 0 0) (.string ⟨#[]⟩) (.int .i64 0) (.slice none 0 0) (.slice none 0 0) (.slice none 0 0))
      refine bodyPost_ret (results11 Tryz.f9 8 (by kernel_rfl) _ _ _ _ _ _ _ _ _ _ _ _ _ _ rfl (HB83.out.tput11 _ _ _ _ _ _ _ _ _ _ _)) rfl ?_
      have HG := HGP.out
      have HL9 := HLG.out
      exact ⟨_, a + 1, s1, _, _, _, _, _, _, _, _, _, _, _, _, _, _, _, _, _, _, _, rfl, .any ha1, CoreIn.more (fun k _ (hk : (B k ∧ k < w.heap.size) ∨ gp + 2 ≤ k) => hk.elim (fun h => .inl h.1) (fun h => .inr (by omega))) _ _ (CoreIn.keep HKA.out (fun k (hk : (B k ∧ k < w.heap.size) ∨ gp + 2 ≤ k) (e : k = gp + 1) => by rcases hk with h | h <;> omega) _ _ (core_leaf 21 a)), HS3.out.keep HKA.out (fun (e : gs = gp + 1) => by omega), (show Blk _ gn 3 _ from HN3.out.keep HKA.out (fun (e : gn = gp + 1) => by omega)), (HK0.out.trans' HK3.out (fun _ _ h => h.elim) (fun _ _ => id)).trans' HKA.out (fun _ _ => id) (fun k hk (e : k = gp + 1) => by omega)⟩
    | false =>
      clear hxa
      by_cases h6 : t.kind = 6
      · have q6 : kd1 = 6 := by rw [← (term_parts HT1.out).1]; exact h6
        subst q6
        have hti := (term_parts HT1.out).2.1
        have hil : t.items.length ≤ 4096 := right_items HGT.out.1 (.inl h6)
        obtain ⟨A0, n0, c0, css, e0, hroom, hri, hit⟩ := hti
        injection e0 with e1 e2 e3
        subst e1 e2 e3
        have hlen : t.items.length = im1 := by have := hri.1; rw [flat_len hit.lens.2, hit.lens.1] at this; omega
        have HIL := hide hil; have HLEN := hide hlen; have H6 := hide h6
        obtain ⟨p0, p1, p2, p3, p4, p5, p6⟩ := Blk.c7 HB41.out
        clear hil hlen h6 hroom
        have HRI := hide hri; have HTI := hide hit
        clear hri hit
        go_wp2_with
          first
          | (go_at_call 15
             refine (of_core 24 none 0 0 w1).mono ?_
             rintro e w2 ⟨rfl, hk2⟩
             have HKB := hide hk2
             clear hk2)
          | fail
        clear p0 p1 p2 p3 p4 p5 p6
        have hka := (Keeps.refl NoB w2).alloc (.cells #[.int .u8 24, .string ⟨#[]⟩, .int .i64 0, .int .u8 0, .bool false, .slice none 0 0, .string ⟨#[]⟩, .int .i64 0, .slice none 0 0, .slice none 0 0, .slice none 0 0] 34)
        have HB3 := hide (HKB.out.trans' hka (fun _ _ => id) (fun _ _ => id) : Keeps NoB w1 _)
        have HB9 := hide (Blk.new w2 34 #[.int .u8 24, .string ⟨#[]⟩, .int .i64 0, .int .u8 0, .bool false, .slice none 0 0, .string ⟨#[]⟩, .int .i64 0, .slice none 0 0, .slice none 0 0, .slice none 0 0])
        have HG9 := hide (show gp + 2 ≤ w2.heap.size from by have h1 := HKB.out.size; have h2 := HB81.out.lt; omega)
        have HKW0 := hide (show w0.heap.size ≤ w2.heap.size from Nat.le_trans HKS.out.size HKB.out.size)
        clear hka
        generalize w2.alloc (.cells #[.int .u8 24, .string ⟨#[]⟩, .int .i64 0, .int .u8 0, .bool false, .slice none 0 0, .string ⟨#[]⟩, .int .i64 0, .slice none 0 0, .slice none 0 0, .slice none 0 0] 34) = w3 at *
        generalize w2.heap.size = g9 at *
        have HS3 := hide (HS1.out.keep HB3.out id); have HN3 := hide (HN1.out.keep HB3.out id); have HB43 := hide (HB41.out.keep HB3.out id); have HB83 := hide (HB81.out.keep HB3.out id)
        have HRI3 := hide (HRI.out.keep HB3.out (fun _ _ => id)); have HTI3 := hide (TermsIn.keep HB3.out (fun _ _ => id) _ _ HTI.out)
        have HK3 := hide (HKS.out.trans' HB3.out (fun _ _ => id) (fun _ _ h => h.elim) : Keeps (fun k => k = gs ∨ k = gn) w0 w3)
        clear HS1 HN1 HB41 HB81 HRI HTI HT1 HKS HB3 HKB
        go_loopw [10] (fun i wr => ∃ (k : Nat) (A5 : Option Addr) (c5 : Nat) (b : Nat) (s9 : Int), k ≤ im1 ∧ i = .int .i64 k ∧ TupPat w B g9 gs gn a b s9 (t.items.take k) w3 k A5 c5 wr) (fun i _ => im1 - (intOf i).toNat)
        case atStart => exact ⟨0, none, 0, a, s1, Nat.zero_le _, rfl, ⟨HB9.out, ⟨[], [], Slab.nil _ _ _, by unfold CoresIn; trivial, by rw [List.take_zero]; exact .nil⟩, HS3.out, HN3.out, (fun j ⟨o, e⟩ => by cases e), Keeps.refl _ _⟩⟩
        case round =>
          obtain ⟨k, A5, c5, b, s9, hk, rfl, hat⟩ := hrel
          have HAT := hide hat; clear hat
          have hgp : ¬ (gp = g9 ∨ (gp = gs ∨ gp = gn)) := by have h1 := HG9.out; have h2 := HLG.out; omega
          have p5 : wr.cell? ⟨gp, 5, none⟩ = some (.slice ia1 im1 ic1) := HAT.out.keep.cell hgp (HB43.out.cell 5)
          by_cases hlt : k < im1
          · obtain ⟨b2, o2, t2, kd2, ng2, la2, ln2, lc2, tx2, nm2, ia2, im2, ic2, ta2, tn2, tc2, hA, hBb, hpk, hps, ht2, hq2⟩ := term_cells HRI3.out HTI3.out k hlt
            subst hA
            have hbg : ¬ (b2 = g9 ∨ (b2 = gs ∨ b2 = gn)) := by have h1 := hBb.2; have h2 := HGP.out; have h3 := HG9.out; have h4 := HBN.out b2 hBb; omega
            have hg2 : goodT t2 := (good_parts HGT.out).1 t2 (List.mem_of_getElem? hpk)
            have HQ2 := hide hq2; have HT2 := hide ht2; have HPS := hide hps; have HPK := hide hpk; have HG2 := hide hg2
            have hk1 : (k : Int) < (im1 : Int) := by omega
            have hk0 : (0 : Int) ≤ (k : Int) := by omega
            have hk2 : ¬ (k : Int) < 0 := by omega
            have hk3 : ¬ (im1 : Int) ≤ k := by omega
            have hkb : (im1 : Int) ≤ 4096 := by have h1 := HIL.out; have h2 := HLEN.out; omega
            clear hBb hpk hps ht2 hq2 hg2
            go_upto_region 10 with fail
            refine order_begin (fun W => Keeps (fun k => k = gs ∨ k = gn) wr.drew W) (fun i => !(i == 12) && !(i == 14)) (by kernel_rfl) 15 rfl ?_
            have HSW := hide (Keeps.refl (fun k => k = gs ∨ k = gn) wr.drew)
            have HBW := hide (show Blk wr.drew g9 34 #[.int .u8 24, .string ⟨#[]⟩, .int .i64 0, .int .u8 0, .bool false, .slice none 0 0, .string ⟨#[]⟩, .int .i64 0, .slice none 0 0, .slice none 0 0, .slice A5 k c5] from HAT.out.box)
            have HPW := hide (show wr.drew.cell? ⟨gp, 5, none⟩ = some (.slice (some ⟨b2, o2, none⟩) im1 ic1) from p5)
            have HK20 := hide (show wr.drew.cell? ⟨b2, o2 + k * 7, none⟩ = some (.int .u8 kd2) from HAT.out.keep.cell hbg HQ2.out.1)
            have HK21 := hide (show wr.drew.cell? ⟨b2, o2 + k * 7 + 1, none⟩ = some (.bool ng2) from HAT.out.keep.cell hbg HQ2.out.2.1)
            have HK22 := hide (show wr.drew.cell? ⟨b2, o2 + k * 7 + 2, none⟩ = some (.slice la2 ln2 lc2) from HAT.out.keep.cell hbg HQ2.out.2.2.1)
            have HK23 := hide (show wr.drew.cell? ⟨b2, o2 + k * 7 + 3, none⟩ = some (.string tx2) from HAT.out.keep.cell hbg HQ2.out.2.2.2.1)
            have HK24 := hide (show wr.drew.cell? ⟨b2, o2 + k * 7 + 4, none⟩ = some (.int .i64 nm2) from HAT.out.keep.cell hbg HQ2.out.2.2.2.2.1)
            have HK25 := hide (show wr.drew.cell? ⟨b2, o2 + k * 7 + 5, none⟩ = some (.slice ia2 im2 ic2) from HAT.out.keep.cell hbg HQ2.out.2.2.2.2.2.1)
            have HK26 := hide (show wr.drew.cell? ⟨b2, o2 + k * 7 + 6, none⟩ = some (.slice ta2 tn2 tc2) from HAT.out.keep.cell hbg HQ2.out.2.2.2.2.2.2)
            have HNB := hide (show ¬ (b2 = gs ∨ b2 = gn) from fun e => hbg (.inr e))
            have HN99 := hide (show ¬ (g9 = gs ∨ g9 = gn) from HNG.out g9 (by have := HG9.out; omega))
            clear p5
            refine order_pure (i := 0) rfl (by kernel_rfl) (fun _ _ _ h => h) (.inl ⟨rfl, fun _ => by go_simp; rfl⟩) ?_
            try simp only [Act.put, List.setIfInBounds_toArray, List.set_cons_succ, List.set_cons_zero]
            refine order_held (i := 1) rfl (by kernel_rfl) (fun _ _ _ h => h) (.inl ⟨rfl, fun W hW => by
              have q10 : W.cell? ⟨g9, 10, none⟩ = some (.slice A5 k c5) := hW.cell HN99.out (HBW.out.cell 10)
              go_simp; rfl⟩) HSW.out ?_
            try simp only [Act.put, List.setIfInBounds_toArray, List.set_cons_succ, List.set_cons_zero]
            refine order_pure (i := 2) rfl (by kernel_rfl) (fun _ _ _ h => h) (.inl ⟨rfl, fun _ => by go_simp; rfl⟩) ?_
            try simp only [Act.put, List.setIfInBounds_toArray, List.set_cons_succ, List.set_cons_zero]
            refine order_held (i := 3) rfl (by kernel_rfl) (fun _ _ _ h => h) (.inl ⟨rfl, fun W hW => by
              have q5 : W.cell? ⟨gp, 5, none⟩ = some (.slice (some ⟨b2, o2, none⟩) im1 ic1) := hW.cell (HNG.out gp (Nat.le_refl _)) (HPW.out)
              go_simp; rfl⟩) HSW.out ?_
            try simp only [Act.put, List.setIfInBounds_toArray, List.set_cons_succ, List.set_cons_zero]
            refine order_pure (i := 4) rfl (by kernel_rfl) (fun _ _ _ h => h) (.inl ⟨rfl, fun _ => by go_simp; rfl⟩) ?_
            try simp only [Act.put, List.setIfInBounds_toArray, List.set_cons_succ, List.set_cons_zero]
            refine order_pure (i := 5) rfl (by kernel_rfl) (fun _ _ _ h => h) (.inl ⟨rfl, fun _ => by go_simp; rfl⟩) ?_
            try simp only [Act.put, List.setIfInBounds_toArray, List.set_cons_succ, List.set_cons_zero]
            refine order_held (i := 6) rfl (by kernel_rfl) (fun _ _ _ h => h) (.inl ⟨rfl, fun W hW => by
              have q0 : W.cell? ⟨b2, o2 + k * 7, none⟩ = some (.int .u8 kd2) := hW.cell HNB.out (HK20.out)
              have q1 : W.cell? ⟨b2, o2 + k * 7 + 1, none⟩ = some (.bool ng2) := hW.cell HNB.out (HK21.out)
              have q2 : W.cell? ⟨b2, o2 + k * 7 + 2, none⟩ = some (.slice la2 ln2 lc2) := hW.cell HNB.out (HK22.out)
              have q3 : W.cell? ⟨b2, o2 + k * 7 + 3, none⟩ = some (.string tx2) := hW.cell HNB.out (HK23.out)
              have q4 : W.cell? ⟨b2, o2 + k * 7 + 4, none⟩ = some (.int .i64 nm2) := hW.cell HNB.out (HK24.out)
              have q5 : W.cell? ⟨b2, o2 + k * 7 + 5, none⟩ = some (.slice ia2 im2 ic2) := hW.cell HNB.out (HK25.out)
              have q6 : W.cell? ⟨b2, o2 + k * 7 + 6, none⟩ = some (.slice ta2 tn2 tc2) := hW.cell HNB.out (HK26.out)
              go_simp; rfl⟩) HSW.out ?_
            try simp only [Act.put, List.setIfInBounds_toArray, List.set_cons_succ, List.set_cons_zero]
            refine order_pure (i := 7) rfl (by kernel_rfl) (fun _ _ _ h => h) (.inl ⟨rfl, fun _ => by go_simp; rfl⟩) ?_
            try simp only [Act.put, List.setIfInBounds_toArray, List.set_cons_succ, List.set_cons_zero]
            refine order_pure (i := 8) rfl (by kernel_rfl) (fun _ _ _ h => h) (.inl ⟨rfl, fun _ => by go_simp; rfl⟩) ?_
            try simp only [Act.put, List.setIfInBounds_toArray, List.set_cons_succ, List.set_cons_zero]
            refine order_pure (i := 9) rfl (by kernel_rfl) (fun _ _ _ h => h) (.inl ⟨rfl, fun _ => by go_simp; rfl⟩) ?_
            try simp only [Act.put, List.setIfInBounds_toArray, List.set_cons_succ, List.set_cons_zero]
            refine order_one (i := 10) rfl (by kernel_rfl) (fun K hK => ?_)
            go_simp
            have hle := HAT.out.row
            obtain ⟨css2, cs2, hsl, hcs, hpt⟩ := hle
            have HSL0 := hide hsl; have HCS0 := hide hcs; have HPT := hide hpt
            clear hsl hcs hpt
            have HKR := hide (HAT.out.keep.drew : Keeps (fun j => j = g9 ∨ (j = gs ∨ j = gn)) w3 wr.drew)
            have HEX := hide (show ∀ j, (B j ∧ j < w.heap.size) → ¬ (j = g9 ∨ (j = gs ∨ j = gn)) from fun j hj e => by have h2 := HGP.out; have h3 := HG9.out; have h4 := hj.2; have h5 := HBN.out j hj; omega)
            refine (HIH.out t2 (by have h1 := HPS.out; have h2 := HMM.out; have h3 := item_less t; omega) HG2.out b s9 (HPT.out.le.2 ha) wr.drew (fun j => B j ∧ j < w.heap.size) _ _ _ _ _ _ _ _ _ _ _ _ _ gs gn (fun k hk => by have h5 := HBN.out k hk; omega) HNE.out HAT.out.hs HAT.out.hn (TermIn.keep HKR.out HEX.out _ _ HT2.out)).mono ?_
            rintro e w4 ⟨co4, b4, s4, ck4, cx4, cn4, tk4, cg4, ca4, cl4, cc4, tt4, tz4, ja4, jm4, jc4, ua4, um4, uc4, ka4, kn4, kc4, rfl, hp4, hc4, hs4, hn4, hk4⟩
            have HP4 := hide hp4; have HC4 := hide hc4; have HS4 := hide hs4; have HN4 := hide hn4; have HK4 := hide hk4
            refine hK _ _ (fun _ _ => HK4.out) ?_
            clear hK hp4 hc4 hs4 hn4 hk4
            try simp only [Act.put, List.setIfInBounds_toArray, List.set_cons_succ, List.set_cons_zero]
            refine order_one (i := 11) rfl (by kernel_rfl) (fun K hK => ?_)
            go_simp
            have hka := (Keeps.refl NoB w4).alloc (.cells #[.int .u8 ck4, .string cx4, .int .i64 cn4, .int .u8 tk4, .bool cg4, .slice ca4 cl4 cc4, .string tt4, .int .i64 tz4, .slice ja4 jm4 jc4, .slice ua4 um4 uc4, .slice ka4 kn4 kc4] 34)
            have HK5 := hide (HK4.out.trans' hka (fun _ _ => id) (fun _ _ h => h.elim) : Keeps (fun k => k = gs ∨ k = gn) wr.drew _)
            refine hK _ _ (fun _ _ => HK5.out) ?_
            clear hK
            try simp only [Act.put, List.setIfInBounds_toArray, List.set_cons_succ, List.set_cons_zero]
            have HC5 := hide (CoreIn.keep hka (fun _ _ => id) _ _ HC4.out)
            have HB5 := hide (Blk.new w4 34 #[.int .u8 ck4, .string cx4, .int .i64 cn4, .int .u8 tk4, .bool cg4, .slice ca4 cl4 cc4, .string tt4, .int .i64 tz4, .slice ja4 jm4 jc4, .slice ua4 um4 uc4, .slice ka4 kn4 kc4])
            have HS5 := hide (HS4.out.keep hka id); have HN5 := hide (HN4.out.keep hka id)
            clear hka
            generalize w4.alloc (.cells #[.int .u8 ck4, .string cx4, .int .i64 cn4, .int .u8 tk4, .bool cg4, .slice ca4 cl4 cc4, .string tt4, .int .i64 tz4, .slice ja4 jm4 jc4, .slice ua4 um4 uc4, .slice ka4 kn4 kc4] 34) = w5 at *
            have HNR := hide HAT.out.new
            have HGW := hide (show g9 < w3.heap.size ∧ gs < w3.heap.size ∧ gn < w3.heap.size from ⟨HB9.out.lt, HS3.out.lt, HN3.out.lt⟩)
            have hro : ∀ j, rowB A5 j → ¬ (j = gs ∨ j = gn) := fun j hj e => by have h1 := HNR.out j hj; have h2 := HGW.out; omega
            have hsl_lt : ∀ j, rowB A5 j → j < wr.heap.size := fun j hj => HSL0.out.lt hj
            have HSL := hide (HSL0.out.drew.keep HK5.out hro)
            have hcn : ∀ j, ((B j ∧ j < w.heap.size) ∨ (g9 < j ∧ ¬ rowB A5 j)) → ¬ (j = gs ∨ j = gn) := fun j hj e => by
              rcases hj with h | h
              · exact HBN.out j h e
              · have h2 := HG9.out; have h3 := h.1; have h4 := HLG.out; omega
            have HCS := hide (CoresIn.keep HK5.out hcn _ _ (CoresIn.keep (Keeps.refl NoB wr).drew (fun _ _ => id) _ _ HCS0.out))
            have HLTR := hide hsl_lt; have HRO := hide hro
            clear hcn hro hsl_lt
            refine order_one (i := 12) rfl (by kernel_rfl) (fun K hK => ?_)
            rw [if_pos (by kernel_rfl)]
            refine wp_append_core w5 _ _ rfl A5 k c5 css2 rfl HSL.out (by have h1 := HIL.out; have h2 := HLEN.out; omega) w4.heap.size 34 [.int .u8 ck4, .string cx4, .int .i64 cn4, .int .u8 tk4, .bool cg4, .slice ca4 cl4 cc4, .string tt4, .int .i64 tz4, .slice ja4 jm4 jc4, .slice ua4 um4 uc4, .slice ka4 kn4 kc4] co4 _ rfl HB5.out HC5.out (fun A6 c6 w6 hs6 hk6 hm6 => ?_)
            refine hK _ _ (fun h => absurd h (by decide)) ?_
            clear hK
            try simp only [Act.put, List.setIfInBounds_toArray, List.set_cons_succ, List.set_cons_zero]
            have HSL6 := hide hs6; have HK6 := hide hk6; have HM6 := hide hm6
            have hr9 : ¬ rowB A5 g9 := fun e => by have h1 := HNR.out g9 e; have h2 := HGW.out.1; omega
            have hrs : ¬ rowB A5 gs := fun e => HRO.out gs e (.inl rfl)
            have hrn : ¬ rowB A5 gn := fun e => HRO.out gn e (.inr rfl)
            have HB6 := hide ((HBW.out.keep HK5.out HN99.out).keep hk6 hr9); have HS6 := hide (HS5.out.keep hk6 hrs); have HN6 := hide (HN5.out.keep hk6 hrn)
            clear hs6 hk6 hm6 hr9 hrs hrn
            refine order_pure (i := 13) rfl (by kernel_rfl) (fun _ _ _ h => h) (.inl ⟨rfl, fun _ => by go_simp; rfl⟩) ?_
            try simp only [Act.put, List.setIfInBounds_toArray, List.set_cons_succ, List.set_cons_zero]
            have z10 := HB6.out.free 10
            have q10 := HB6.out.cell 10
            refine order_one (i := 14) rfl (by kernel_rfl) (fun K hK => ?_)
            go_simp
            refine hK _ _ (fun h => absurd h (by decide)) ?_
            clear hK z10 q10
            try simp only [Act.put, List.setIfInBounds_toArray, List.set_cons_succ, List.set_cons_zero]
            refine order_done (by kernel_rfl) ?_
            have HTN : Hid (TupPat w B g9 gs gn a b4 s4 (t.items.take (k + 1)) w3 (k + 1) A6 c6 (w6.setCell ⟨g9, 10, none⟩ (.slice A6 (k + 1 : Nat) c6))) := hide (by
              have h1 := HGW.out; have h2 := HG9.out; have h3 := HGP.out
              have h4 : w3.heap.size ≤ wr.heap.size := HAT.out.keep.size
              have h5 : wr.heap.size ≤ w5.heap.size := HK5.out.size
              have hks : Keeps (fun j => j = g9) w6 (w6.setCell ⟨g9, 10, none⟩ (.slice A6 (k + 1 : Nat) c6)) := (Keeps.refl (fun j => j = g9) w6).setCell (p := ⟨g9, 10, none⟩) (.inl rfl) _
              have hn : ∀ j, rowB A5 j → g9 < j := fun j hj => Nat.lt_of_lt_of_le h1.1 (HNR.out j hj)
              have hn6 : ∀ j, rowB A6 j → w3.heap.size ≤ j := fun j hj => by
                rcases HM6.out j hj with h | h
                · exact HNR.out j h
                · omega
              refine ⟨HB6.out.put 10 _, ⟨css2 ++ [[.int .u8 ck4, .string cx4, .int .i64 cn4, .int .u8 tk4, .bool cg4, .slice ca4 cl4 cc4, .string tt4, .int .i64 tz4, .slice ja4 jm4 jc4, .slice ua4 um4 uc4, .slice ka4 kn4 kc4]], cs2 ++ [co4], HSL6.out.keep hks (fun j hj e => by have h6 := hn6 j hj; have e : j = g9 := e; omega), ?_, ?_⟩, HS6.out.keep hks (fun e => HN99.out (.inl e.symm)), HN6.out.keep hks (fun e => HN99.out (.inr e.symm)), hn6, ?_⟩
              · refine CoresIn.keep hks (fun j hj e => ?_) _ _ (CoresIn.append (CoresIn.off HCS.out HK6.out HM6.out (fun j h => h) hn (by omega)) (CoresIn.one (CoreIn.off HC5.out HK6.out HM6.out (fun j h => ?_) hn (by omega))))
                · have e : j = g9 := e
                  rcases hj with h | h
                  · have := h.2; omega
                  · have := h.1; omega
                · rcases h with h | h
                  · exact .inl h
                  · refine .inr ⟨?_, fun hr => ?_⟩
                    · have h6 : wr.heap.size ≤ j := h
                      omega
                    · have h7 := HLTR.out j hr
                      have h6 : wr.heap.size ≤ j := h
                      omega
              · rw [List.take_add_one, HPK.out]
                exact HPT.out.snoc HP4.out
              · exact (((HAT.out.keep.drew.trans' HK5.out (fun _ _ => id) (fun _ _ h => .inr h)).trans' HK6.out (fun _ _ => id) (fun j hj hr => by have := HNR.out j hr; omega)).trans' hks (fun _ _ => id) (fun _ _ h => .inl h) : Keeps (fun j => j = g9 ∨ (j = gs ∨ j = gn)) w3 _))
            go_wp2_with fail
            go_roundw
            case rel => exact ⟨k + 1, A6, c6, b4, s4, by omega, by go_num, HTN.out⟩
            case measure => simp [intOf]; omega
          · obtain rfl : k = im1 := by omega
            have HB8Z := hide (HB83.out.keep HAT.out.keep (by have h1 := HG9.out; have h2 := HLG.out; omega))
            obtain ⟨y0, y1, y2, y3, y4, y5, y6, y7, y8, y9, y10⟩ := Blk.f11 (w := wr) (g := gp + 1) HB8Z.out
            obtain ⟨x0, x1, x2, x3, x4, x5, x6, x7, x8, x9, x10⟩ := Blk.c11 HB8Z.out
            obtain ⟨t0, t1, t2, t3, t4, t5, t6, t7, t8, t9, t10⟩ := Blk.c11 HAT.out.box
            go_wp2
            obtain ⟨css2, cs2, hsl, hcs, hpt⟩ := HAT.out.row
            rw [List.take_of_length_le (by have := HLEN.out; omega)] at hpt
            have hwd : ∀ j, ((B j ∧ j < w.heap.size) ∨ (g9 < j ∧ ¬ rowB A5 j)) → ((B j ∧ j < w.heap.size) ∨ gp + 2 ≤ j) := fun j hj => hj.imp id (fun h => by have h1 := HG9.out; have h2 := h.1; omega)
            have HCR := hide (core_row (w := wr) (B := fun j => (B j ∧ j < w.heap.size) ∨ gp + 2 ≤ j) (c := c5) 24 (by have h1 := HIL.out; have h2 := HLEN.out; omega) ((hsl.reads.more (fun j _ hr => .inr (by have h1 := HAT.out.new j hr; have h2 := HB9.out.lt; have h3 := HG9.out; omega))).weak) (CoresIn.more (fun j _ hj => hwd j hj) _ _ hcs))
            have HKZ := hide (HK3.out.trans' HAT.out.keep (fun _ _ => id) (fun k hk e => e.elim (fun e => absurd hk (by have h2 := HKW0.out; omega)) id) : Keeps (fun k => k = gs ∨ k = gn) w0 wr)
            have HKA := hide (keeps_tput11 wr (gp + 1) (.int .u8 24) (.string ⟨#[]⟩) (.int .i64 0) (.int .u8 0) (.bool false) (.slice none 0 0) (.string ⟨#[]⟩) (.int .i64 0) (.slice none 0 0) (.slice none 0 0) (.slice A5 k c5))
            refine bodyPost_ret (results11 Tryz.f9 8 (by kernel_rfl) _ _ _ _ _ _ _ _ _ _ _ _ _ _ rfl (HB8Z.out.tput11 _ _ _ _ _ _ _ _ _ _ _)) rfl ?_
            have HG := HGP.out
            have HL9 := HLG.out
            exact ⟨_, b, s9, _, _, _, _, _, _, _, _, _, _, _, _, _, _, _, _, _, _, _, rfl, .tup H6.out hpt, CoreIn.more (fun k _ (hk : (B k ∧ k < w.heap.size) ∨ gp + 2 ≤ k) => hk.elim (fun h => .inl h.1) (fun h => .inr (by omega))) _ _ (CoreIn.keep HKA.out (fun k (hk : (B k ∧ k < w.heap.size) ∨ gp + 2 ≤ k) (e : k = gp + 1) => by rcases hk with h | h <;> omega) _ _ HCR.out), HAT.out.hs.keep HKA.out (fun (e : gs = gp + 1) => by omega), (show Blk _ gn 3 _ from HAT.out.hn.keep HKA.out (fun (e : gn = gp + 1) => by omega)), (HK0.out.trans' HKZ.out (fun _ _ h => h.elim) (fun _ _ => id)).trans' HKA.out (fun _ _ => id) (fun k hk (e : k = gp + 1) => by omega)⟩
      · have hq : kd1 = t.kind := (term_parts HT1.out).1.symm
        have hb1 : (kd1 == 6) = false := by rw [hq]; simpa using h6
        have hb2 : decide (kd1 = 6) = false := decide_eq_false (by rw [hq]; exact h6)
        have hn0 : ¬ kd1 = 6 := by rw [hq]; exact h6
        clear hq
        obtain ⟨p0, p1, p2, p3, p4, p5, p6⟩ := Blk.c7 HB41.out
        cases hsp : splitT t with
        | none =>
          have HSP := hide hsp; clear hsp
          go_upto_region 13 with
            first
            | (go_at_call 25
               refine (split_none t HSP.out w1 _ false _ _ _ _ _ _ _ _ _ _ _ _ _ HT1.out).mono ?_
               rintro e w2 ⟨rfl, hk2⟩
               have HK2 := hide (HKS.out.trans' hk2 (fun _ _ => id) (fun _ _ h => h.elim) : Keeps (fun k => k = gs ∨ k = gn) w0 w2)
               have HKB := hide hk2
               clear hk2)
            | fail
          have HB3 := hide ((HKB.out.alloc (.cells #[.int .u8 0, .bool false, .slice none 0 0, .string ⟨#[]⟩, .int .i64 0, .slice none 0 0, .slice none 0 0] 26)).alloc (.cells #[.int .u8 0, .bool false, .slice none 0 0, .string ⟨#[]⟩, .int .i64 0, .slice none 0 0, .slice none 0 0] 26))
          generalize (w2.alloc (.cells #[.int .u8 0, .bool false, .slice none 0 0, .string ⟨#[]⟩, .int .i64 0, .slice none 0 0, .slice none 0 0] 26)).alloc (.cells #[.int .u8 0, .bool false, .slice none 0 0, .string ⟨#[]⟩, .int .i64 0, .slice none 0 0, .slice none 0 0] 26) = w3 at *
          generalize w2.heap.size = g11 at *
          clear p0 p1 p2 p3 p4 p5 p6
          obtain ⟨p0, p1, p2, p3, p4, p5, p6⟩ := Blk.c7 (HB41.out.keep HB3.out id)
          go_wp2_with
            first
            | (go_at_call 22
               refine (const_core 23 _ _ _ _ _ _ _ _ _ _ _ _ _ w3).mono ?_
               rintro e w4 ⟨rfl, hk4⟩
               have hk4 := (HB3.out.trans' hk4 (fun _ _ => id) (fun _ _ => id) : Keeps NoB w1 w4)
               have HS4 := hide (HS1.out.keep hk4 id); have HN4 := hide (HN1.out.keep hk4 id); have HB84 := hide (HB81.out.keep hk4 id)
               have HT4 := hide (TermIn.more (B' := fun k => (B k ∧ k < w.heap.size) ∨ gp + 2 ≤ k) (fun k _ h => .inl h) _ _ (TermIn.keep hk4 (fun _ _ => id) _ _ HT1.out))
               have HK4 := hide (HKS.out.trans' hk4 (fun _ _ => id) (fun _ _ h => h.elim) : Keeps (fun k => k = gs ∨ k = gn) w0 w4)
               obtain ⟨y0, y1, y2, y3, y4, y5, y6, y7, y8, y9, y10⟩ := Blk.f11 (w := w4) (g := gp + 1) HB84.out
               obtain ⟨x0, x1, x2, x3, x4, x5, x6, x7, x8, x9, x10⟩ := Blk.c11 HB84.out
               clear hk4 p0 p1 p2 p3 p4 p5 p6)
            | fail
          have HKA := hide (keeps_tput11 w4 (gp + 1) (.int .u8 23) (.string ⟨#[]⟩) (.int .i64 0) (.int .u8 kd1) (.bool ng1) (.slice la1 ln1 lc1) (.string tx1) (.int .i64 nm1) (.slice ia1 im1 ic1) (.slice ta1 tn1 tc1) (.slice none 0 0))
          refine bodyPost_ret (results11 Tryz.f9 8 (by kernel_rfl) _ _ _ _ _ _ _ _ _ _ _ _ _ _ rfl (HB84.out.tput11 _ _ _ _ _ _ _ _ _ _ _)) rfl ?_
          have HG := HGP.out
          have HL9 := HLG.out
          exact ⟨_, a, s1, _, _, _, _, _, _, _, _, _, _, _, _, _, _, _, _, _, _, _, rfl, .con h6 HSP.out, CoreIn.more (fun k _ (hk : (B k ∧ k < w.heap.size) ∨ gp + 2 ≤ k) => hk.elim (fun h => .inl h.1) (fun h => .inr (by omega))) _ _ (CoreIn.keep HKA.out (fun k (hk : (B k ∧ k < w.heap.size) ∨ gp + 2 ≤ k) (e : k = gp + 1) => by rcases hk with h | h <;> omega) _ _ (core_cst 23 HT4.out)), HS4.out.keep HKA.out (fun (e : gs = gp + 1) => by omega), (show Blk _ gn 3 _ from HN4.out.keep HKA.out (fun (e : gn = gp + 1) => by omega)), (HK0.out.trans' HK4.out (fun _ _ h => h.elim) (fun _ _ => id)).trans' HKA.out (fun _ _ => id) (fun k hk (e : k = gp + 1) => by omega)⟩

        | some hr =>
          obtain ⟨h, r⟩ := hr
          obtain ⟨gh, gr, _, _⟩ := cons_split HGT.out hsp
          obtain ⟨lh, lr⟩ := split_less hsp
          have HGH := hide gh; have HGR := hide gr; have HLH := hide lh; have HLR := hide lr
          have HSP := hide hsp; clear hsp gh gr lh lr
          have HN9 := hide (show gp + 2 ≤ w1.heap.size from by have h1 := HB81.out.lt; omega)
          have HE9 := hide (show ∀ k, gp + 2 ≤ k → k ≠ gs ∧ k ≠ gn from fun k hk => by have h1 := HLG.out; omega)
          go_upto_region 13 with
            first
            | (go_at_call 25
               refine (split_some t h r HSP.out w1 _ false _ _ _ _ _ _ _ _ _ _ _ _ _ HT1.out).mono ?_
               rintro e w2 ⟨kd2, ng2, la2, ln2, lc2, tx2, nm2, ia2, im2, ic2, ta2, tn2, tc2, kd3, ng3, la3, ln3, lc3, tx3, nm3, ia3, im3, ic3, ta3, tn3, tc3, rfl, hth, htr, hk2⟩
               have HKB := hide hk2
               have HTH := hide (TermIn.more (B' := fun k => gp + 2 ≤ k) (fun k _ (h : w1.heap.size ≤ k) => Nat.le_trans HN9.out h) _ _ hth); have HTR := hide (TermIn.more (B' := fun k => gp + 2 ≤ k) (fun k _ (h : w1.heap.size ≤ k) => Nat.le_trans HN9.out h) _ _ htr)
               clear hk2 hth htr)
            | fail
          have hka := ((Keeps.refl NoB w2).alloc (.cells #[.int .u8 kd2, .bool ng2, .slice la2 ln2 lc2, .string tx2, .int .i64 nm2, .slice ia2 im2 ic2, .slice ta2 tn2 tc2] 26)).alloc (.cells #[.int .u8 kd3, .bool ng3, .slice la3 ln3 lc3, .string tx3, .int .i64 nm3, .slice ia3 im3 ic3, .slice ta3 tn3 tc3] 26)
          have HB3 := hide (HKB.out.trans' hka (fun _ _ => id) (fun _ _ => id) : Keeps NoB w1 _)
          have HBH := hide (two_tblks w2 26 26 #[.int .u8 kd2, .bool ng2, .slice la2 ln2 lc2, .string tx2, .int .i64 nm2, .slice ia2 im2 ic2, .slice ta2 tn2 tc2] #[.int .u8 kd3, .bool ng3, .slice la3 ln3 lc3, .string tx3, .int .i64 nm3, .slice ia3 im3 ic3, .slice ta3 tn3 tc3]).1; have HBR := hide (two_tblks w2 26 26 #[.int .u8 kd2, .bool ng2, .slice la2 ln2 lc2, .string tx2, .int .i64 nm2, .slice ia2 im2 ic2, .slice ta2 tn2 tc2] #[.int .u8 kd3, .bool ng3, .slice la3 ln3 lc3, .string tx3, .int .i64 nm3, .slice ia3 im3 ic3, .slice ta3 tn3 tc3]).2
          have HTH3 := hide (TermIn.keep hka (fun _ _ => id) _ _ HTH.out); have HTR3 := hide (TermIn.keep hka (fun _ _ => id) _ _ HTR.out)
          clear hka HTH HTR
          have HG11 := hide (show gp + 2 ≤ w2.heap.size from by have h1 := HKB.out.size; have h2 := HN9.out; omega)
          generalize (w2.alloc (.cells #[.int .u8 kd2, .bool ng2, .slice la2 ln2 lc2, .string tx2, .int .i64 nm2, .slice ia2 im2 ic2, .slice ta2 tn2 tc2] 26)).alloc (.cells #[.int .u8 kd3, .bool ng3, .slice la3 ln3 lc3, .string tx3, .int .i64 nm3, .slice ia3 im3 ic3, .slice ta3 tn3 tc3] 26) = w3 at *
          generalize w2.heap.size = g11 at *
          have HS3 := hide (HS1.out.keep HB3.out id); have HN3 := hide (HN1.out.keep HB3.out id); have HB83 := hide (HB81.out.keep HB3.out id)
          have HK3 := hide (HKS.out.trans' HB3.out (fun _ _ => id) (fun _ _ h => h.elim) : Keeps (fun k => k = gs ∨ k = gn) w0 w3)
          clear p0 p1 p2 p3 p4 p5 p6 hb1 hb2 hn0
          obtain ⟨p0, p1, p2, p3, p4, p5, p6⟩ := Blk.c7 HBH.out
          go_upto_region 15 with
            first
            | (go_at_call 9
               refine (HIH.out h (by have h1 := HLH.out; have h2 := HMM.out; omega) HGH.out a s1 ha w3 (fun k => gp + 2 ≤ k) _ _ _ _ _ _ _ _ _ _ _ _ _ gs gn HE9.out HNE.out HS3.out HN3.out HTH3.out).mono ?_
               rintro e w4 ⟨co4, b4, s4, ck4, cx4, cn4, tk4, cg4, ca4, cl4, cc4, tt4, tz4, ja4, jm4, jc4, ua4, um4, uc4, ka4, kn4, kc4, rfl, hp4, hc4, hs4, hn4, hk4⟩
               have HP4 := hide hp4
               have HC4 := hide (CoreIn.more (B' := fun k => gp + 2 ≤ k) (fun k _ hk => hk.elim id (fun h => by have h1 := HB83.out.lt; omega)) _ _ hc4)
               have HS4 := hide hs4; have HN4 := hide hn4; have HK34 := hide hk4
               clear hp4 hc4 hs4 hn4 hk4)
            | fail
          clear p0 p1 p2 p3 p4 p5 p6
          have hka := ((Keeps.refl NoB w4).alloc (.cells #[.int .u8 ck4, .string cx4, .int .i64 cn4, .int .u8 tk4, .bool cg4, .slice ca4 cl4 cc4, .string tt4, .int .i64 tz4, .slice ja4 jm4 jc4, .slice ua4 um4 uc4, .slice ka4 kn4 kc4] 34)).drew
          have HB14 := hide (show Blk (w4.alloc (.cells #[.int .u8 ck4, .string cx4, .int .i64 cn4, .int .u8 tk4, .bool cg4, .slice ca4 cl4 cc4, .string tt4, .int .i64 tz4, .slice ja4 jm4 jc4, .slice ua4 um4 uc4, .slice ka4 kn4 kc4] 34)).drew w4.heap.size 34 #[.int .u8 ck4, .string cx4, .int .i64 cn4, .int .u8 tk4, .bool cg4, .slice ca4 cl4 cc4, .string tt4, .int .i64 tz4, .slice ja4 jm4 jc4, .slice ua4 um4 uc4, .slice ka4 kn4 kc4] from Blk.new w4 34 #[.int .u8 ck4, .string cx4, .int .i64 cn4, .int .u8 tk4, .bool cg4, .slice ca4 cl4 cc4, .string tt4, .int .i64 tz4, .slice ja4 jm4 jc4, .slice ua4 um4 uc4, .slice ka4 kn4 kc4])
          have HS5 := hide (HS4.out.keep hka id); have HN5 := hide (HN4.out.keep hka id); have HC5 := hide (CoreIn.keep hka (fun _ _ => id) _ _ HC4.out)
          have HK35 := hide (HK34.out.trans' hka (fun _ _ => id) (fun _ _ h => h.elim) : Keeps (fun k => k = gs ∨ k = gn) w3 _)
          have HG4 := hide (show gp + 2 ≤ w4.heap.size ∧ gp + 2 ≤ w3.heap.size from by have h1 := HB83.out.lt; have h2 := HK34.out.size; omega)
          have HRM := hide (show ∀ k, gp + 2 ≤ k → ¬ (k = gs ∨ k = gn) from fun k hk e => HNG.out k (by omega) e)
          have HTR5 := hide (TermIn.keep HK35.out HRM.out _ _ HTR3.out); have HBR5 := hide (HBR.out.keep HK35.out (HRM.out _ (by have := HG11.out; omega)))
          have HB85 := hide (HB83.out.keep HK35.out (HNG.out _ (by omega)))
          clear hka HS4 HN4 HC4 HK34 HTR3 HBR HB83
          refine order_begin (fun W => Keeps (fun k => k = gs ∨ k = gn) (w4.alloc (.cells #[.int .u8 ck4, .string cx4, .int .i64 cn4, .int .u8 tk4, .bool cg4, .slice ca4 cl4 cc4, .string tt4, .int .i64 tz4, .slice ja4 jm4 jc4, .slice ua4 um4 uc4, .slice ka4 kn4 kc4] 34)).drew W) (fun i => !(i == 8)) (by kernel_rfl) 9 rfl ?_
          generalize (w4.alloc (.cells #[.int .u8 ck4, .string cx4, .int .i64 cn4, .int .u8 tk4, .bool cg4, .slice ca4 cl4 cc4, .string tt4, .int .i64 tz4, .slice ja4 jm4 jc4, .slice ua4 um4 uc4, .slice ka4 kn4 kc4] 34)).drew = w5 at *
          generalize w4.heap.size = g14 at *
          have HSW := hide (Keeps.refl (fun k => k = gs ∨ k = gn) w5)
          refine order_held (i := 0) rfl (by kernel_rfl) (fun _ _ _ h => h) (.inl ⟨rfl, fun W hW => by
            have q0 : W.cell? ⟨g14, 0, none⟩ = some (.int .u8 ck4) := hW.cell (HRM.out g14 HG4.out.1) (HB14.out.cell 0)
            have q1 : W.cell? ⟨g14, 1, none⟩ = some (.string cx4) := hW.cell (HRM.out g14 HG4.out.1) (HB14.out.cell 1)
            have q2 : W.cell? ⟨g14, 2, none⟩ = some (.int .i64 cn4) := hW.cell (HRM.out g14 HG4.out.1) (HB14.out.cell 2)
            have q3 : W.cell? ⟨g14, 3, none⟩ = some (.int .u8 tk4) := hW.cell (HRM.out g14 HG4.out.1) (HB14.out.cell 3)
            have q4 : W.cell? ⟨g14, 4, none⟩ = some (.bool cg4) := hW.cell (HRM.out g14 HG4.out.1) (HB14.out.cell 4)
            have q5 : W.cell? ⟨g14, 5, none⟩ = some (.slice ca4 cl4 cc4) := hW.cell (HRM.out g14 HG4.out.1) (HB14.out.cell 5)
            have q6 : W.cell? ⟨g14, 6, none⟩ = some (.string tt4) := hW.cell (HRM.out g14 HG4.out.1) (HB14.out.cell 6)
            have q7 : W.cell? ⟨g14, 7, none⟩ = some (.int .i64 tz4) := hW.cell (HRM.out g14 HG4.out.1) (HB14.out.cell 7)
            have q8 : W.cell? ⟨g14, 8, none⟩ = some (.slice ja4 jm4 jc4) := hW.cell (HRM.out g14 HG4.out.1) (HB14.out.cell 8)
            have q9 : W.cell? ⟨g14, 9, none⟩ = some (.slice ua4 um4 uc4) := hW.cell (HRM.out g14 HG4.out.1) (HB14.out.cell 9)
            have q10 : W.cell? ⟨g14, 10, none⟩ = some (.slice ka4 kn4 kc4) := hW.cell (HRM.out g14 HG4.out.1) (HB14.out.cell 10)
            go_simp; rfl⟩) HSW.out ?_
          try simp only [Act.put, List.setIfInBounds_toArray, List.set_cons_succ, List.set_cons_zero]
          refine order_held (i := 1) rfl (by kernel_rfl) (fun _ _ _ h => h) (.inl ⟨rfl, fun W hW => by
            have q0 : W.cell? ⟨g11 + 1, 0, none⟩ = some (.int .u8 kd3) := hW.cell (HRM.out (g11 + 1) (by have := HG11.out; omega)) (HBR5.out.cell 0)
            have q1 : W.cell? ⟨g11 + 1, 1, none⟩ = some (.bool ng3) := hW.cell (HRM.out (g11 + 1) (by have := HG11.out; omega)) (HBR5.out.cell 1)
            have q2 : W.cell? ⟨g11 + 1, 2, none⟩ = some (.slice la3 ln3 lc3) := hW.cell (HRM.out (g11 + 1) (by have := HG11.out; omega)) (HBR5.out.cell 2)
            have q3 : W.cell? ⟨g11 + 1, 3, none⟩ = some (.string tx3) := hW.cell (HRM.out (g11 + 1) (by have := HG11.out; omega)) (HBR5.out.cell 3)
            have q4 : W.cell? ⟨g11 + 1, 4, none⟩ = some (.int .i64 nm3) := hW.cell (HRM.out (g11 + 1) (by have := HG11.out; omega)) (HBR5.out.cell 4)
            have q5 : W.cell? ⟨g11 + 1, 5, none⟩ = some (.slice ia3 im3 ic3) := hW.cell (HRM.out (g11 + 1) (by have := HG11.out; omega)) (HBR5.out.cell 5)
            have q6 : W.cell? ⟨g11 + 1, 6, none⟩ = some (.slice ta3 tn3 tc3) := hW.cell (HRM.out (g11 + 1) (by have := HG11.out; omega)) (HBR5.out.cell 6)
            go_simp; rfl⟩) HSW.out ?_
          try simp only [Act.put, List.setIfInBounds_toArray, List.set_cons_succ, List.set_cons_zero]
          refine order_pure (i := 2) rfl (by kernel_rfl) (fun _ _ _ h => h) (.inl ⟨rfl, fun _ => by go_simp; rfl⟩) ?_
          try simp only [Act.put, List.setIfInBounds_toArray, List.set_cons_succ, List.set_cons_zero]
          refine order_pure (i := 3) rfl (by kernel_rfl) (fun _ _ _ h => h) (.inl ⟨rfl, fun _ => by go_simp; rfl⟩) ?_
          try simp only [Act.put, List.setIfInBounds_toArray, List.set_cons_succ, List.set_cons_zero]
          refine order_pure (i := 4) rfl (by kernel_rfl) (fun _ _ _ h => h) (.inl ⟨rfl, fun _ => by go_simp; rfl⟩) ?_
          try simp only [Act.put, List.setIfInBounds_toArray, List.set_cons_succ, List.set_cons_zero]
          refine order_one (i := 5) rfl (by kernel_rfl) (fun K hK => ?_)
          go_simp
          refine (HIH.out r (by have h1 := HLR.out; have h2 := HMM.out; omega) HGR.out b4 s4 (HP4.out.le.2 ha) w5 (fun k => gp + 2 ≤ k) _ _ _ _ _ _ _ _ _ _ _ _ _ gs gn HE9.out HNE.out HS5.out HN5.out HTR5.out).mono ?_
          rintro e w6 ⟨co6, b6, s6, ck6, cx6, cn6, tk6, cg6, ca6, cl6, cc6, tt6, tz6, ja6, jm6, jc6, ua6, um6, uc6, ka6, kn6, kc6, rfl, hp6, hc6, hs6, hn6, hk6⟩
          have HP6 := hide hp6
          have HC6 := hide (CoreIn.more (B' := fun k => gp + 2 ≤ k) (fun k _ hk => hk.elim id (fun h => by have h1 := HB85.out.lt; omega)) _ _ hc6)
          have HS6 := hide hs6; have HN6 := hide hn6; have HK6 := hide hk6
          have HC56 := hide (CoreIn.keep hk6 HRM.out _ _ HC5.out); have HB86 := hide (HB85.out.keep hk6 (HNG.out _ (by omega)))
          refine hK _ _ (fun _ _ => HK6.out) ?_
          clear hK hp6 hc6 hs6 hn6 hk6
          try simp only [Act.put, List.setIfInBounds_toArray, List.set_cons_succ, List.set_cons_zero]
          refine order_one (i := 6) rfl (by kernel_rfl) (fun K hK => ?_)
          go_simp
          have hka := (Keeps.refl NoB w6).alloc (.cells #[.int .u8 ck4, .string cx4, .int .i64 cn4, .int .u8 tk4, .bool cg4, .slice ca4 cl4 cc4, .string tt4, .int .i64 tz4, .slice ja4 jm4 jc4, .slice ua4 um4 uc4, .slice ka4 kn4 kc4, .int .u8 ck6, .string cx6, .int .i64 cn6, .int .u8 tk6, .bool cg6, .slice ca6 cl6 cc6, .string tt6, .int .i64 tz6, .slice ja6 jm6 jc6, .slice ua6 um6 uc6, .slice ka6 kn6 kc6] 34)
          have HK7 := hide (HK6.out.trans' hka (fun _ _ => id) (fun _ _ h => h.elim) : Keeps (fun k => k = gs ∨ k = gn) w5 _)
          have HRW := hide (two_core_rows (B := fun k => gp + 2 ≤ k) (xs := [.int .u8 ck4, .string cx4, .int .i64 cn4, .int .u8 tk4, .bool cg4, .slice ca4 cl4 cc4, .string tt4, .int .i64 tz4, .slice ja4 jm4 jc4, .slice ua4 um4 uc4, .slice ka4 kn4 kc4]) (ys := [.int .u8 ck6, .string cx6, .int .i64 cn6, .int .u8 tk6, .bool cg6, .slice ca6 cl6 cc6, .string tt6, .int .i64 tz6, .slice ja6 jm6 jc6, .slice ua6 um6 uc6, .slice ka6 kn6 kc6]) (Blk.new w6 34 #[.int .u8 ck4, .string cx4, .int .i64 cn4, .int .u8 tk4, .bool cg4, .slice ca4 cl4 cc4, .string tt4, .int .i64 tz4, .slice ja4 jm4 jc4, .slice ua4 um4 uc4, .slice ka4 kn4 kc4, .int .u8 ck6, .string cx6, .int .i64 cn6, .int .u8 tk6, .bool cg6, .slice ca6 cl6 cc6, .string tt6, .int .i64 tz6, .slice ja6 jm6 jc6, .slice ua6 um6 uc6, .slice ka6 kn6 kc6]) (show gp + 2 ≤ w6.heap.size from by have h1 := HB86.out.lt; omega) (CoreIn.keep hka (fun _ _ => id) _ _ HC56.out) (CoreIn.keep hka (fun _ _ => id) _ _ HC6.out))
          have HS7 := hide (HS6.out.keep hka id); have HN7 := hide (HN6.out.keep hka id); have HB87 := hide (HB86.out.keep hka id)
          refine hK _ _ (fun _ _ => HK7.out) ?_
          clear hK hka HC6 HC56
          try simp only [Act.put, List.setIfInBounds_toArray, List.set_cons_succ, List.set_cons_zero]
          generalize w6.alloc (.cells #[.int .u8 ck4, .string cx4, .int .i64 cn4, .int .u8 tk4, .bool cg4, .slice ca4 cl4 cc4, .string tt4, .int .i64 tz4, .slice ja4 jm4 jc4, .slice ua4 um4 uc4, .slice ka4 kn4 kc4, .int .u8 ck6, .string cx6, .int .i64 cn6, .int .u8 tk6, .bool cg6, .slice ca6 cl6 cc6, .string tt6, .int .i64 tz6, .slice ja6 jm6 jc6, .slice ua6 um6 uc6, .slice ka6 kn6 kc6] 34) = w7 at *
          generalize w6.heap.size = g7 at *
          refine order_one (i := 7) rfl (by kernel_rfl) (fun K hK => ?_)
          go_simp
          refine (of_core 25 (some ⟨g7, 0, none⟩) 2 2 w7).mono ?_
          rintro e w8 ⟨rfl, hk8⟩
          have HK8 := hide (HK7.out.trans' hk8 (fun _ _ => id) (fun _ _ h => h.elim) : Keeps (fun k => k = gs ∨ k = gn) w5 w8)
          have HC8 := hide (core_row (c := 2) 25 (by omega) (HRW.out.1.keep hk8 (fun _ _ => id)) (CoresIn.keep hk8 (fun _ _ => id) _ _ HRW.out.2))
          have HC9 := hide (CoreIn.more (B' := fun k => (B k ∧ k < w.heap.size) ∨ gp + 2 ≤ k) (fun k _ h => .inr h) _ _ HC8.out)
          have HS8 := hide (HS7.out.keep hk8 id); have HN8 := hide (HN7.out.keep hk8 id); have HB88 := hide (HB87.out.keep hk8 id)
          refine hK _ _ (fun _ _ => HK8.out) ?_
          clear hK hk8 HC8
          try simp only [Act.put, List.setIfInBounds_toArray, List.set_cons_succ, List.set_cons_zero]
          obtain ⟨y0, y1, y2, y3, y4, y5, y6, y7, y8, y9, y10⟩ := Blk.f11 (w := w8) (g := gp + 1) HB88.out
          obtain ⟨x0, x1, x2, x3, x4, x5, x6, x7, x8, x9, x10⟩ := Blk.c11 HB88.out
          refine order_one (i := 8) rfl (by kernel_rfl) (fun K hK => ?_)
          go_simp
          refine hK _ _ (fun h => absurd h (by decide)) ?_
          clear hK
          try simp only [Act.put, List.setIfInBounds_toArray, List.set_cons_succ, List.set_cons_zero]
          refine order_done (by kernel_rfl) ?_
          go_wp2_with fail
          have HKZ := hide ((HK3.out.trans' HK35.out (fun _ _ => id) (fun _ _ => id)).trans' HK8.out (fun _ _ => id) (fun _ _ => id) : Keeps (fun k => k = gs ∨ k = gn) w0 w8)
          have HKA := hide (keeps_tput11 w8 (gp + 1) (.int .u8 25) (.string ⟨#[]⟩) (.int .i64 0) (.int .u8 0) (.bool false) (.slice none 0 0) (.string ⟨#[]⟩) (.int .i64 0) (.slice none 0 0) (.slice none 0 0) (.slice (some ⟨g7, 0, none⟩) 2 2))
          refine bodyPost_ret (results11 Tryz.f9 8 (by kernel_rfl) _ _ _ _ _ _ _ _ _ _ _ _ _ _ rfl (HB88.out.tput11 _ _ _ _ _ _ _ _ _ _ _)) rfl ?_
          have HG := HGP.out
          have HL9 := HLG.out
          exact ⟨_, b6, s6, _, _, _, _, _, _, _, _, _, _, _, _, _, _, _, _, _, _, _, rfl, .cons h6 HSP.out HP4.out HP6.out, CoreIn.more (fun k _ (hk : (B k ∧ k < w.heap.size) ∨ gp + 2 ≤ k) => hk.elim (fun h => .inl h.1) (fun h => .inr (by omega))) _ _ (CoreIn.keep HKA.out (fun k (hk : (B k ∧ k < w.heap.size) ∨ gp + 2 ≤ k) (e : k = gp + 1) => by rcases hk with h | h <;> omega) _ _ HC9.out), HS8.out.keep HKA.out (fun (e : gs = gp + 1) => by omega), (show Blk _ gn 3 _ from HN8.out.keep HKA.out (fun (e : gn = gp + 1) => by omega)), (HK0.out.trans' HKZ.out (fun _ _ h => h.elim) (fun _ _ => id)).trans' HKA.out (fun _ _ => id) (fun k hk (e : k = gp + 1) => by omega)⟩
theorem pat_all (z : Int) : ∀ M, PSaid z M
  | 0 => fun t hM => by
    obtain ⟨k, ng, limbs, text, num, items, tail⟩ := t
    simp only [Tm.size] at hM
    omega
  | M + 1 => fun t hM hg a s ha w B kd1 ng1 la1 ln1 lc1 tx1 nm1 ia1 im1 ic1 ta1 tn1 tc1 gs gn hB hne hs hn ht => pat_walk z M (pat_all z M) t hM hg a s ha w B kd1 ng1 la1 ln1 lc1 tx1 nm1 ia1 im1 ic1 ta1 tn1 tc1 gs gn hB hne hs hn ht
/-- law11.pattern, of a right term. -/
theorem pattern_any (z : Int) (t : Tm) (hg : goodT t) (a : Nat) (s : Int) (ha : a ≤ 100) (w : World) (B : Nat → Prop) (kd1 : Int) (ng1 : Bool) (la1 : Option Addr) (ln1 lc1 : Nat) (tx1 : ByteArray) (nm1 : Int) (ia1 : Option Addr) (im1 ic1 : Nat) (ta1 : Option Addr) (tn1 tc1 : Nat) (gs gn : Nat) (hB : ∀ k, B k → k ≠ gs ∧ k ≠ gn) (hne : gs ≠ gn) (hs : Blk w gs 3 #[.int .i64 s]) (hn : Blk w gn 3 #[.int .i64 a]) (ht : TermIn w B false [.int .u8 kd1, .bool ng1, .slice la1 ln1 lc1, .string tx1, .int .i64 nm1, .slice ia1 im1 ic1, .slice ta1 tn1 tc1] t) :
    Calls Tryz.prog 9 #[.agg #[.int .u8 kd1, .bool ng1, .slice la1 ln1 lc1, .string tx1, .int .i64 nm1, .slice ia1 im1 ic1, .slice ta1 tn1 tc1], .int .i64 z, .pointer (some ⟨gs, 0, none⟩), .pointer (some ⟨gn, 0, none⟩)] w (PP w B gs gn a t) :=
  pat_all z t.size t (Nat.le_refl _) hg a s ha w B kd1 ng1 la1 ln1 lc1 tx1 nm1 ia1 im1 ic1 ta1 tn1 tc1 gs gn hB hne hs hn ht
end Go.Proofs.YtjdbjjjbgibpaaaGreatDoor
