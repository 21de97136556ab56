/- pigeonholekit: the bag of all lists that were found: a list of digits put in. pigeonholekit: the bag: terms put in, with all lists within them. What own hands back reads as terms, and makes a box's letters. Plain lemmas. -/
import Derived.Test.YtmkidkfofbnjgaaFlatLimbsJn
import Derived.Test.YtmkidkfofbnjgaaOwnOJn
import Derived.Test.YtmkidkfofbnjgaaStepJn
namespace Go.Proofs.Ytmkidkfofbnjgaa
open Go.RowKit

def heads (l : List Ld) : List Value := l.map fun x => .slice x.A x.n x.c
theorem heads_len (l : List Ld) : (heads l).length = l.length := by simp [heads]
theorem heads_snoc (l : List Ld) (x : Ld) : heads (l ++ [x]) = heads l ++ [.slice x.A x.n x.c] := by simp [heads]
def bagC (AL : Option Addr) (nL cL : Nat) (AT : Option Addr) (nT cT : Nat) : Array Value := #[.slice AL nL cL, .slice none 0 0, .slice none 0 0, .slice none 0 0, .slice none 0 0, .slice none 0 0, .slice none 0 0, .slice AT nT cT, .slice none 0 0, .slice none 0 0, .slice none 0 0, .slice none 0 0, .slice none 0 0, .slice none 0 0, .slice none 0 0, .slice none 0 0, .slice none 0 0, .slice none 0 0, .slice none 0 0, .slice none 0 0]
/-- The bag, with its lists of digits and of terms; it and what it holds lie from B0 on. -/
structure BagAt (w : World) (B0 g : Nat) (AL : Option Addr) (cL : Nat) (AT : Option Addr) (cT : Nat) (LL TL : List Ld) : Prop where
  blk : Blk w g 89 (bagC AL LL.length cL AT TL.length cT)
  limbs : Slab w 31 1 AL LL.length cL (heads LL)
  terms : Slab w 25 1 AT TL.length cT (heads TL)
  lo : B0 ≤ g
  loL : ∀ k, rowB AL k → B0 ≤ k
  loT : ∀ k, rowB AT k → B0 ≤ k
theorem BagAt.keep {w w' : World} {B0 g cL cT : Nat} {AL AT : Option Addr} {LL TL : List Ld} (h : BagAt w B0 g AL cL AT cT LL TL) {fp : Nat → Prop} (hk : Keeps fp w w') (hf : ∀ k, B0 ≤ k → ¬ fp k) : BagAt w' B0 g AL cL AT cT LL TL :=
  ⟨h.blk.keep hk (hf g h.lo), h.limbs.keep hk (fun k hk => hf k (h.loL k hk)), h.terms.keep hk (fun k hk => hf k (h.loT k hk)), h.lo, h.loL, h.loT⟩
theorem Grew.keeps {w w' : World} {A A' : Option Addr} {c c' : Nat} (h : Grew w w' A c A' c') : Keeps (rowB A) w w' := by
  rcases h with ⟨_, _, h⟩ | ⟨_, h⟩
  · exact h
  · exact h.mono (fun _ _ h => h.elim)
theorem Grew.lo {w w' : World} {A A' : Option Addr} {c c' B0 : Nat} (h : Grew w w' A c A' c') (hA : ∀ k, rowB A k → B0 ≤ k) (hB : B0 ≤ w.heap.size) : ∀ k, rowB A' k → B0 ≤ k := by
  rcases h with ⟨rfl, _, _⟩ | ⟨h, _⟩
  · exact hA
  · exact fun k hk => Nat.le_trans hB (h k hk)
theorem slice_ones {A : Option Addr} {n c : Nat} : ∀ u ∈ [Value.slice A n c], u.oneCell' = true := by intro u hu; simp only [List.mem_singleton] at hu; rw [hu]; rfl
/-- The bag's own blocks. -/
def bagF (g : Nat) (AL AT : Option Addr) (k : Nat) : Prop := k = g ∨ rowB AL k ∨ rowB AT k
theorem BagAt.low {w : World} {B0 g cL cT : Nat} {AL AT : Option Addr} {LL TL : List Ld} (h : BagAt w B0 g AL cL AT cT LL TL) : ∀ k, k < B0 → ¬ bagF g AL AT k := by
  rintro k hk (rfl | hr | hr)
  · have := h.lo; omega
  · have := h.loL k hr; omega
  · have := h.loT k hr; omega
theorem BagAt.lt {w : World} {B0 g cL cT : Nat} {AL AT : Option Addr} {LL TL : List Ld} (h : BagAt w B0 g AL cL AT cT LL TL) : ∀ k, bagF g AL AT k → k < w.heap.size := by
  rintro k (rfl | hr | hr)
  · exact h.blk.lt
  · exact h.limbs.lt hr
  · exact h.terms.lt hr
/-- What the bag's blocks are now: as they were, or new. -/
def BagMoved (w : World) (AL AT AL' AT' : Option Addr) : Prop := Moved w AL AL' ∧ Moved w AT AT'
theorem BagMoved.f {w : World} {g : Nat} {AL AT AL' AT' : Option Addr} (h : BagMoved w AL AT AL' AT') : ∀ k, k < w.heap.size → bagF g AL' AT' k → bagF g AL AT k := by
  rintro k hk (rfl | hr | hr)
  · exact .inl rfl
  · rcases h.1 k hr with h1 | h1
    · exact .inr (.inl h1)
    · omega
  · rcases h.2 k hr with h1 | h1
    · exact .inr (.inr h1)
    · omega
theorem BagMoved.trans {w w' : World} {AL AT AL' AT' AL2 AT2 : Option Addr} (h : BagMoved w AL AT AL' AT') (hs : w.heap.size ≤ w'.heap.size) (h2 : BagMoved w' AL' AT' AL2 AT2) : BagMoved w AL AT AL2 AT2 := ⟨h.1.trans hs h2.1, h.2.trans hs h2.2⟩
theorem BagMoved.same (w : World) (AL AT : Option Addr) : BagMoved w AL AT AL AT := ⟨Moved.same _ _, Moved.same _ _⟩
theorem Grew.moved {w w' : World} {A A' : Option Addr} {c c' : Nat} (h : Grew w w' A c A' c') : Moved w A A' := by
  rcases h with ⟨rfl, _, _⟩ | ⟨h, _⟩
  · exact Moved.same _ _
  · exact Moved.new h
def BagPost (w : World) (B0 g : Nat) (AL AT : Option Addr) (LL TL : List Ld) (e : Ending) (w' : World) : Prop := ∃ AL' cL AT' cT, e = .returned (.tuple #[]) ∧ BagAt w' B0 g AL' cL AT' cT LL TL ∧ BagMoved w AL AT AL' AT' ∧ Keeps (bagF g AL AT) w w'
set_option maxRecDepth 100000 in
set_option maxHeartbeats 2000000 in
theorem put_limbs (w : World) (B0 g : Nat) (AL : Option Addr) (cL : Nat) (AT : Option Addr) (cT : Nat) (LL TL : List Ld) (A : Option Addr) (n c : Nat) (h : BagAt w B0 g AL cL AT cT LL TL) (hl : LL.length ≤ 1000000) :
    Calls Try.prog 74 #[.pointer (some ⟨g, 0, none⟩), .slice A n c] w (BagPost w B0 g AL AT (LL ++ [⟨A, n, c⟩]) TL) := by
  obtain ⟨j0, hj0, hy0, hy1, hy2⟩ := info_parts Try.infoGL31
  have H := hide h
  have b0 : w.cell? ⟨g, 0, none⟩ = some (.slice AL LL.length cL) := h.blk.cell 0
  have HBD := hide (show LL.length + 1 ≤ maxLen ∧ (LL.length + 1) * 24 ≤ 140737488355328 from by unfold maxLen; omega)
  have HS := hide (h.limbs.fresh ((Keeps.refl NoB w).alloc (.cells #[.slice A n c] 31)))
  clear h
  go_enter Try.func74, Try.ntmps74
  go_wp2_with (at_builtin; refine wpList_append_grew _ rfl (.tmp 8) (.tmp 10) 69 rfl 31 j0 _ 1 24 Try.underlying69 hj0 hy0 hy1 hy2 rfl (by omega) AL LL.length cL (heads LL) rfl HS.out (fun _ => True) true (some ⟨_, 0, none⟩) 1 1 [.slice A n c] rfl (one_reads1 (Blk.new _ 31 #[.slice A n c])) (by omega) slice_ones HBD.out.1 HBD.out.2 ?_)
  intro A2 c2 w2 h1 h2
  have HG := hide (H.out.blk.lt)
  have hk0 : Keeps NoB w (w.alloc (.cells #[.slice A n c] 31)) := (Keeps.refl NoB w).alloc _
  have hk2 : Keeps (rowB AL) w w2 := hk0.trans' h2.keeps (fun _ _ h => h.elim) (fun _ _ h => h)
  have hng : ¬ rowB AL g := H.out.limbs.ne H.out.blk (by decide)
  have hblk := hide (H.out.blk.keep hk2 hng)
  have ht := hide (H.out.terms.keep hk2 (fun k hk => slab_apart H.out.terms H.out.limbs (by decide) k hk))
  have hlo := hide (h2.lo H.out.loL (by have := HG.out; have := H.out.lo; have := hk0.size; omega))
  have hng2 := hide (h1.ne hblk.out (by decide) : ¬ rowB A2 g)
  have hk2' := hide (hk2.mono (fun k _ hk => .inr (.inl hk)) : Keeps (bagF g AL AT) w w2)
  have hmv := hide (show Moved w AL A2 from fun k hk => by
    rcases h2.moved k hk with h | h
    · exact .inl h
    · exact .inr (Nat.le_trans hk0.size h))
  have HS1 := hide h1
  have b0 : w2.cell? ⟨g, 0, none⟩ = some (.slice AL LL.length cL) := hblk.out.cell 0
  have f0 : w2.frozen? ⟨g, 0, none⟩ = false := hblk.out.free 0
  clear h1 h2 hk0 hk2 hng
  go_wp2
  go_end0
  have hks : Keeps (fun k => k = g) w2 (w2.setCell ⟨g, 0, none⟩ (.slice A2 (LL.length + 1) c2)) := (Keeps.refl (fun k => k = g) w2).setCell (p := ⟨g, 0, none⟩) (.inl rfl) _
  have hb2 := hblk.out.put 0 (.slice A2 (LL.length + 1) c2)
  refine ⟨A2, c2, AT, cT, rfl, ⟨?_, ?_, ht.out.keep hks (fun k hk e => by subst e; exact ht.out.ne hblk.out (by decide) hk), H.out.lo, hlo.out, H.out.loT⟩, ⟨hmv.out, Moved.same _ _⟩, hk2'.out.trans' hks (fun _ _ h => h) (fun k _ e => .inl e)⟩
  · rw [List.length_append]; exact hb2
  · rw [List.length_append, heads_snoc]
    exact HS1.out.keep hks (fun k hk e => by subst e; exact hng2.out hk)
end Go.Proofs.Ytmkidkfofbnjgaa
namespace Go.Proofs.Ytmkidkfofbnjgaa
open Go.RowKit

/-- Lists in blocks of their own, from lo on and below hi, that lie apart. -/
structure Lot (w : World) (e : TypeId) (size lo hi : Nat) (Ls : List Ld) : Prop where
  each : ∀ x ∈ Ls, ∃ xs, RowO w e size lo hi x.A x.n x.c xs
  apart : Ls.Pairwise (fun x y => ∀ b, rowB x.A b → ¬ rowB y.A b)
theorem Lot.nil {w : World} {e : TypeId} {size lo hi : Nat} : Lot w e size lo hi [] := ⟨fun _ h => (by cases h), List.Pairwise.nil⟩
theorem Lot.one {w : World} {e : TypeId} {size lo hi n c : Nat} {A : Option Addr} {xs : List Value} (h : RowO w e size lo hi A n c xs) : Lot w e size lo hi [⟨A, n, c⟩] :=
  ⟨fun x hx => by simp only [List.mem_singleton] at hx; subst hx; exact ⟨xs, h⟩, List.pairwise_singleton _ _⟩
theorem Lot.more {w : World} {e : TypeId} {size lo hi lo' hi' : Nat} {Ls : List Ld} (h : Lot w e size lo hi Ls) (h1 : lo' ≤ lo) (h2 : hi ≤ hi') : Lot w e size lo' hi' Ls :=
  ⟨fun x hx => by obtain ⟨xs, h3⟩ := h.each x hx; exact ⟨xs, h3.more h1 h2⟩, h.apart⟩
theorem Lot.keep {w w' : World} {e : TypeId} {size lo hi : Nat} {Ls : List Ld} {fp : Nat → Prop} (h : Lot w e size lo hi Ls) (hk : Keeps fp w w') (hf : ∀ k, lo ≤ k → k < hi → ¬ fp k) : Lot w' e size lo hi Ls :=
  ⟨fun x hx => by obtain ⟨xs, h3⟩ := h.each x hx; exact ⟨xs, h3.keep hk hf⟩, h.apart⟩
theorem Lot.append {w : World} {e : TypeId} {size lo m hi : Nat} {Ls Ms : List Ld} (h : Lot w e size lo m Ls) (h2 : Lot w e size m hi Ms) (h3 : lo ≤ m) (h4 : m ≤ hi) : Lot w e size lo hi (Ls ++ Ms) := by
  refine ⟨fun x hx => ?_, ?_⟩
  · rcases List.mem_append.1 hx with hx | hx
    · obtain ⟨xs, h5⟩ := h.each x hx; exact ⟨xs, h5.more (Nat.le_refl _) h4⟩
    · obtain ⟨xs, h5⟩ := h2.each x hx; exact ⟨xs, h5.more h3 (Nat.le_refl _)⟩
  · rw [List.pairwise_append]
    refine ⟨h.apart, h2.apart, fun x hx y hy b hb hb2 => ?_⟩
    obtain ⟨xs, h5⟩ := h.each x hx
    obtain ⟨ys, h6⟩ := h2.each y hy
    have := (h5.2.1 b hb).2
    have := (h6.2.1 b hb2).1
    omega
mutual
/-- No term's digits are more than memory holds, with room for some more. -/
def thinT : Tm → Prop
  | .mk _ _ limbs _ _ items tail => limbs.length ≤ 35184372087808 ∧ thinTs items ∧ thinTs tail
def thinTs : List Tm → Prop
  | [] => True
  | t :: ts => thinT t ∧ thinTs ts
end
def BagPut (w : World) (B0 g : Nat) (AL AT : Option Addr) (LL TL : List Ld) (lo hi a b : Nat) (e : Ending) (w' : World) : Prop := ∃ AL' cL AT' cT LL' TL', e = .returned (.tuple #[]) ∧ BagAt w' B0 g AL' cL AT' cT (LL ++ LL') (TL ++ TL') ∧ Lot w' 92 1 lo hi LL' ∧ Lot w' 33 7 lo hi TL' ∧ ((∀ x ∈ LL', x.n ≤ 35184372087808) ∧ (∀ x ∈ TL', x.n ≤ 100000) ∧ LL'.length ≤ a ∧ TL'.length ≤ b) ∧ BagMoved w AL AT AL' AT' ∧ Keeps (bagF g AL AT) w w'
def PutSaid (M : Nat) : Prop := ∀ (ts : List Tm), Tm.size.sizes ts ≤ M → ∀ (css : List (List Value)) (A : Option Addr) (n c : Nat) (w : World) (lo m hi B0 g : Nat) (AL : Option Addr) (cL : Nat) (AT : Option Addr) (cT : Nat) (LL TL : List Ld),
  RowO w 33 7 lo m A n c css.flatten → OsIn w m hi css ts → thinTs ts → hi ≤ B0 → BagAt w B0 g AL cL AT cT LL TL → LL.length + Tm.size.sizes ts ≤ 100000 → TL.length + 2 * Tm.size.sizes ts + 1 ≤ 100000 →
  Calls Try.prog 40 #[.pointer (some ⟨g, 0, none⟩), .slice A n c] w (BagPut w B0 g AL AT LL TL lo hi (Tm.size.sizes ts) (2 * Tm.size.sizes ts + 1))
set_option maxRecDepth 100000 in
set_option maxHeartbeats 1000000 in
theorem one_term (M : Nat) (IH : PutSaid M) (t : Tm) (hM : t.size ≤ M + 1) (w : World) (lo hi B0 g : Nat) (AL : Option Addr) (cL : Nat) (AT : Option Addr) (cT : Nat) (LL TL : List Ld) (kd : Int) (ng : Bool) (la : Option Addr) (ln lc : Nat) (tx : ByteArray) (nm : Int) (ia : Option Addr) (im ic : Nat) (ta : Option Addr) (tn tc : Nat)
    (ht : OIn w lo hi [.int .u8 kd, .bool ng, .slice la ln lc, .string tx, .int .i64 nm, .slice ia im ic, .slice ta tn tc] t) (hth : thinT t) (hB : hi ≤ B0) (hb : BagAt w B0 g AL cL AT cT LL TL) (h1 : LL.length + t.size ≤ 100000) (h2 : TL.length + 2 * t.size ≤ 100000) :
    Calls Try.prog 51 #[.pointer (some ⟨g, 0, none⟩), .agg #[.int .u8 kd, .bool ng, .slice la ln lc, .string tx, .int .i64 nm, .slice ia im ic, .slice ta tn tc]] w (BagPut w B0 g AL AT LL TL lo hi t.size (2 * t.size)) := by
  obtain ⟨k, neg, limbs, text, num, items, tail⟩ := t
  unfold thinT at hth
  unfold OIn at ht
  obtain ⟨_, _, _, _, _, _, _, _, _, css, dss, m1, m2, m3, m4, e, hro, hl, ⟨hi1, hi2⟩, ⟨ht1, ht2⟩⟩ := ht
  simp only [List.cons.injEq, Value.int.injEq, Value.bool.injEq, Value.slice.injEq, Value.string.injEq, true_and, and_true] at e
  obtain ⟨rfl, rfl, ⟨rfl, rfl, rfl⟩, rfl, rfl, ⟨rfl, rfl, rfl⟩, rfl, rfl, rfl⟩ := e
  have hsz : (Tm.mk kd ng limbs tx nm items tail).size = 1 + Tm.size.sizes items + Tm.size.sizes tail := by rw [Tm.size]
  rw [hsz] at hM h1 h2 ⊢
  have q1 := hl.2.2; have q2 := hi1.2.2; have q3 := hi2.le; have q4 := ht1.2.2; have q5 := ht2.le
  have hll : limbs.length = ln := by have := hl.1.1; simpa using this
  have hk0 : Keeps NoB w (w.alloc (.cells #[.int .u8 kd, .bool ng, .slice la ln lc, .string tx, .int .i64 nm, .slice ia im ic, .slice ta tn tc] 33)) := (Keeps.refl NoB w).alloc _
  have HQ := hide (And.intro q1 (And.intro q2 (And.intro q3 (And.intro q4 q5)))); have HT := hide hth; have HLL := hide hll
  have HX := hide (Blk.new w 33 #[.int .u8 kd, .bool ng, .slice la ln lc, .string tx, .int .i64 nm, .slice ia im ic, .slice ta tn tc])
  have HXG := hide (show B0 ≤ w.heap.size from by have := hb.blk.lt; have := hb.lo; omega)
  have HL := hide (hl.keep hk0 (fun _ _ _ => id)); have HI1 := hide (hi1.keep hk0 (fun _ _ _ => id)); have HI2 := hide (OsIn.keep hk0 hi2 (fun _ _ _ => id)); have HT1 := hide (ht1.keep hk0 (fun _ _ _ => id)); have HT2 := hide (OsIn.keep hk0 ht2 (fun _ _ _ => id))
  have HB := hide (hb.keep hk0 (fun _ _ => id)); have HK0 := hide (hk0.mono (fun _ _ h => h.elim) : Keeps (bagF g AL AT) w _); have HBB := hide hB; have H1 := hide h1; have H2 := hide h2; have HIH := hide IH; have HM := hide hM
  have HXF := hide (show ¬ bagF g AL AT w.heap.size from fun h => by have := hb.lt _ h; omega)
  clear hl hi1 hi2 ht1 ht2 hb hk0 hB h1 h2 IH hM q1 q2 q3 q4 q5 hro hth hsz hll
  go_enter Try.func51, Try.ntmps51
  go_upto_region 1 with fail
  have HXL := hide HX.out.lt
  generalize w.alloc (.cells #[.int .u8 kd, .bool ng, .slice la ln lc, .string tx, .int .i64 nm, .slice ia im ic, .slice ta tn tc] 33) = w0 at *
  have x0 : w0.cell? ⟨w.heap.size, 0, none⟩ = some (.int .u8 kd) := HX.out.cell 0; have x1 : w0.cell? ⟨w.heap.size, 1, none⟩ = some (.bool ng) := HX.out.cell 1; have x2 : w0.cell? ⟨w.heap.size, 2, none⟩ = some (.slice la ln lc) := HX.out.cell 2; have x3 : w0.cell? ⟨w.heap.size, 3, none⟩ = some (.string tx) := HX.out.cell 3; have x4 : w0.cell? ⟨w.heap.size, 4, none⟩ = some (.int .i64 nm) := HX.out.cell 4; have x5 : w0.cell? ⟨w.heap.size, 5, none⟩ = some (.slice ia im ic) := HX.out.cell 5; have x6 : w0.cell? ⟨w.heap.size, 6, none⟩ = some (.slice ta tn tc) := HX.out.cell 6
  have HLW := hide (show hi ≤ B0 ∧ (∀ k, k < B0 → ¬ bagF g AL AT k) from ⟨HBB.out, HB.out.low⟩)
  go_upto_region 2 with
    first
    | (go_at_call 74
       refine (put_limbs w0 B0 g AL cL AT cT LL TL la ln lc HB.out (by have := H1.out; omega)).mono ?_
       rintro e w1 ⟨AL1, cL1, AT1, cT1, rfl, hb1, hm1, hk1⟩
       have HB1 := hide hb1; have HK1 := hide hk1; have HM1 := hide hm1
       have HX1 := hide (HX.out.keep hk1 HXF.out)
       have y0 : w1.cell? ⟨w.heap.size, 0, none⟩ = some (.int .u8 kd) := HX1.out.cell 0; have y1 : w1.cell? ⟨w.heap.size, 1, none⟩ = some (.bool ng) := HX1.out.cell 1; have y2 : w1.cell? ⟨w.heap.size, 2, none⟩ = some (.slice la ln lc) := HX1.out.cell 2; have y3 : w1.cell? ⟨w.heap.size, 3, none⟩ = some (.string tx) := HX1.out.cell 3; have y4 : w1.cell? ⟨w.heap.size, 4, none⟩ = some (.int .i64 nm) := HX1.out.cell 4; have y5 : w1.cell? ⟨w.heap.size, 5, none⟩ = some (.slice ia im ic) := HX1.out.cell 5; have y6 : w1.cell? ⟨w.heap.size, 6, none⟩ = some (.slice ta tn tc) := HX1.out.cell 6
       clear hb1 hk1 hm1)
    | fail
  have HLW1 := hide (show ∀ k, k < B0 → ¬ bagF g AL1 AT1 k from HB1.out.low)
  have HXF1 := hide (show ¬ bagF g AL1 AT1 w.heap.size from fun h => HXF.out (HM1.out.f _ HXL.out h))
  go_upto_region 3 with
    first
    | (go_at_call 40
       refine (HIH.out items (by have := HM.out; omega) css ia im ic w1 m1 m2 m3 B0 g AL1 cL1 AT1 cT1 _ TL (HI1.out.keep HK1.out (fun k h1 h2 => HLW.out.2 k (by have := HLW.out.1; have := HQ.out; omega))) (OsIn.keep HK1.out HI2.out (fun k h1 h2 => HLW.out.2 k (by have := HLW.out.1; have := HQ.out; omega))) HT.out.2.1 (by have := HLW.out.1; have := HQ.out; omega) HB1.out (by rw [List.length_append]; have := H1.out; show LL.length + 1 + _ ≤ _; omega) (by have := H2.out; omega)).mono ?_
       rintro e w2 ⟨AL2, cL2, AT2, cT2, LLi, TLi, rfl, hb2, hll2, htl2, hn2, hm2, hk2⟩
       have HB2 := hide hb2; have HK2 := hide hk2; have HM2 := hide hm2; have HLL2 := hide hll2; have HTL2 := hide htl2; have HN2 := hide hn2
       have HX2 := hide (HX1.out.keep hk2 HXF1.out)
       have z0 : w2.cell? ⟨w.heap.size, 0, none⟩ = some (.int .u8 kd) := HX2.out.cell 0; have z1 : w2.cell? ⟨w.heap.size, 1, none⟩ = some (.bool ng) := HX2.out.cell 1; have z2 : w2.cell? ⟨w.heap.size, 2, none⟩ = some (.slice la ln lc) := HX2.out.cell 2; have z3 : w2.cell? ⟨w.heap.size, 3, none⟩ = some (.string tx) := HX2.out.cell 3; have z4 : w2.cell? ⟨w.heap.size, 4, none⟩ = some (.int .i64 nm) := HX2.out.cell 4; have z5 : w2.cell? ⟨w.heap.size, 5, none⟩ = some (.slice ia im ic) := HX2.out.cell 5; have z6 : w2.cell? ⟨w.heap.size, 6, none⟩ = some (.slice ta tn tc) := HX2.out.cell 6
       clear hb2 hk2 hm2 hll2 htl2 hn2)
    | fail
  have HXF2 := hide (show ¬ bagF g AL2 AT2 w.heap.size from fun h => HXF1.out (HM2.out.f _ HX1.out.lt h))
  have hkk := hide (HK1.out.trans' HK2.out (fun _ _ h => h) (fun k hk h => HM1.out.f k hk h) : Keeps (bagF g AL AT) w0 w2)
  go_wp2_with
    first
    | (go_at_call 40
       refine (HIH.out tail (by have := HM.out; omega) dss ta tn tc w2 m3 m4 hi B0 g AL2 cL2 AT2 cT2 _ _ (HT1.out.keep hkk.out (fun k h1 h2 => HLW.out.2 k (by have := HLW.out.1; have := HQ.out; omega))) (OsIn.keep hkk.out HT2.out (fun k h1 h2 => HLW.out.2 k (by have := HLW.out.1; have := HQ.out; omega))) HT.out.2.2 (by have := HLW.out.1; omega) HB2.out (by rw [List.length_append, List.length_append]; have := H1.out; have := HN2.out.2.2.1; show LL.length + 1 + _ + _ ≤ _; omega) (by rw [List.length_append]; have := H2.out; have := HN2.out.2.2.2; omega)).mono ?_
       rintro e w3 ⟨AL3, cL3, AT3, cT3, LLt, TLt, rfl, hb3, hll3, htl3, hn3, hm3, hk3⟩
       have HB3 := hide hb3; have HK3 := hide hk3; have HM3 := hide hm3; have HLL3 := hide hll3; have HTL3 := hide htl3; have HN3 := hide hn3
       clear hb3 hk3 hm3 hll3 htl3 hn3)
    | fail
  go_end0
  have hmm := (HM1.out.trans HK1.out.size HM2.out).trans hkk.out.size HM3.out
  have hk03 : Keeps (bagF g AL AT) w0 w3 := hkk.out.trans' HK3.out (fun _ _ h => h) (fun k hk h => (HM1.out.trans HK1.out.size HM2.out).f k hk h)
  have hs0 := HK0.out.size
  have hlt : ∀ k, lo ≤ k → k < m1 → ¬ bagF g AL AT k := fun k h1 h2 => HLW.out.2 k (by have := HLW.out.1; have := HQ.out; omega)
  have hf2 : ∀ k, k < hi → ¬ bagF g AL2 AT2 k := fun k hk => HB2.out.low k (by have := HLW.out.1; omega)
  have hq := HQ.out
  refine ⟨AL3, cL3, AT3, cT3, [⟨la, ln, lc⟩] ++ (LLi ++ LLt), TLi ++ TLt, rfl, ?_, ?_, ?_, ⟨?_, ?_, ?_, ?_⟩, ⟨fun k hk => ?_, fun k hk => ?_⟩, HK0.out.trans' hk03 (fun _ _ h => h) (fun _ _ h => h)⟩
  · have h := HB3.out
    simp only [List.append_assoc] at h ⊢
    exact h
  · refine Lot.append (m := m1) (Lot.one (HL.out.keep hk03 hlt)) (Lot.append (m := m3) ((HLL2.out.keep HK3.out (fun k h1 h2 => hf2 k (by omega)))) (HLL3.out.more (Nat.le_refl _) (Nat.le_refl _)) (by omega) (by omega)) (by omega) (by omega)
  · exact (Lot.append (m := m3) (HTL2.out.keep HK3.out (fun k h1 h2 => hf2 k (by omega))) HTL3.out (by omega) (by omega)).more (by omega) (Nat.le_refl _)
  · intro x hx
    rcases List.mem_append.1 hx with hx | hx
    · simp only [List.mem_singleton] at hx; subst hx
      have := HT.out.1; have := HLL.out
      show ln ≤ _; omega
    · rcases List.mem_append.1 hx with hx | hx
      · exact HN2.out.1 x hx
      · exact HN3.out.1 x hx
  · intro x hx
    rcases List.mem_append.1 hx with hx | hx
    · exact HN2.out.2.1 x hx
    · exact HN3.out.2.1 x hx
  · simp only [List.length_append, List.length_singleton]; have := HN2.out.2.2.1; have := HN3.out.2.2.1; omega
  · simp only [List.length_append]; have := HN2.out.2.2.2; have := HN3.out.2.2.2; omega
  · rcases hmm.1 k hk with h | h
    · exact .inl h
    · exact .inr (by omega)
  · rcases hmm.2 k hk with h | h
    · exact .inl h
    · exact .inr (by omega)
end Go.Proofs.Ytmkidkfofbnjgaa
namespace Go.Proofs.Ytmkidkfofbnjgaa
open Go.RowKit

mutual
theorem OIn.term {w : World} {B : Nat → Prop} : ∀ {lo hi : Nat} {cs : List Value} {t : Tm}, OIn w lo hi cs t → smallT t → (∀ k, lo ≤ k → k < hi → B k) → TermIn w B true cs t
  | lo, hi, cs, .mk k neg limbs text num items tail, h, hs, hB => by
    unfold OIn at h
    unfold smallT at hs
    unfold TermIn
    obtain ⟨la, ln, lc, ia, im, ic, ta, tn, tc, css, dss, m1, m2, m3, m4, e, hr, h1, ⟨h2, h3⟩, ⟨h4, h5⟩⟩ := h
    obtain ⟨s1, s2, s3, s4, s5⟩ := hs
    have q1 := h1.2.2; have q2 := h2.2.2; have q3 := OsIn.le h3; have q4 := h4.2.2; have q5 := OsIn.le h5
    have l1 := OsIn.lens h3
    have l2 := OsIn.lens h5
    have e1 : css.length = im := by have := h2.1.1; rw [flat_len l1.2] at this; omega
    have e2 : dss.length = tn := by have := h4.1.1; rw [flat_len l2.2] at this; omega
    refine ⟨la, ln, lc, ia, im, ic, ta, tn, tc, css, dss, e, ⟨hr, Roomy.small (by omega) (by omega), Roomy.small (by omega) (by omega)⟩, ?_, ?_, OsIn.term h3 s4 (fun k a b => hB k (by omega) (by omega)), ?_, OsIn.term h5 s5 (fun k a b => hB k (by omega) (by omega))⟩
    · exact h1.1.reads.more (fun k _ hk => by have := h1.2.1 k hk; exact hB k (by omega) (by omega))
    · exact h2.1.reads.more (fun k _ hk => by have := h2.2.1 k hk; exact hB k (by omega) (by omega))
    · exact h4.1.reads.more (fun k _ hk => by have := h4.2.1 k hk; exact hB k (by omega) (by omega))
theorem OsIn.term {w : World} {B : Nat → Prop} : ∀ {lo hi : Nat} {css : List (List Value)} {ts : List Tm}, OsIn w lo hi css ts → smallTs ts → (∀ k, lo ≤ k → k < hi → B k) → TermsIn w B true css ts
  | lo, hi, [], [], _, _, _ => by unfold TermsIn; trivial
  | lo, hi, cs :: css, t :: ts, h, hs, hB => by
    unfold OsIn at h
    unfold smallTs at hs
    unfold TermsIn
    obtain ⟨m, h1, h2⟩ := h
    have q1 := OIn.le h1
    have q2 := OsIn.le h2
    exact ⟨OIn.term h1 hs.1 (fun k a b => hB k a (by omega)), OsIn.term h2 hs.2 (fun k a b => hB k (by omega) b)⟩
  | _, _, [], _ :: _, h, _, _ => by unfold OsIn at h; exact h.elim
  | _, _, _ :: _, [], h, _, _ => by unfold OsIn at h; exact h.elim
end
mutual
theorem smallT.thin : ∀ {t : Tm}, smallT t → thinT t
  | .mk _ _ limbs _ _ items tail, h => by
    unfold smallT at h
    unfold thinT
    exact ⟨by omega, smallTs.thin h.2.2.2.1, smallTs.thin h.2.2.2.2⟩
theorem smallTs.thin : ∀ {ts : List Tm}, smallTs ts → thinTs ts
  | [], _ => by unfold thinTs; trivial
  | t :: ts, h => by
    unfold smallTs at h
    unfold thinTs
    exact ⟨smallT.thin h.1, smallTs.thin h.2⟩
end
/-- The letters of a box, each with the blocks that are its own. -/
theorem OsIn.lts {w : World} : ∀ {css : List (List Value)} {ts : List Tm} {lo hi : Nat}, OsIn w lo hi css ts → smallTs ts → hi ≤ w.heap.size → ∃ L : List Lt, cellsOf L = css ∧ L.map (·.t) = ts ∧ (∀ x ∈ L, x.ok w ∧ lo ≤ x.lo ∧ x.hi ≤ hi) ∧ L.Pairwise (fun x y => x.hi ≤ y.lo)
  | [], [], _, _, _, _, _ => ⟨[], rfl, rfl, (fun _ h => by cases h), List.Pairwise.nil⟩
  | cs :: css, t :: ts, lo, hi, h, hs, hh => by
    unfold OsIn at h
    unfold smallTs at hs
    obtain ⟨m, h1, h2⟩ := h
    have q1 := OIn.le h1
    have q2 := OsIn.le h2
    obtain ⟨L, e1, e2, hL, hp⟩ := OsIn.lts h2 hs.2 hh
    refine ⟨⟨cs, t, lo, m⟩ :: L, by simp [e1], by simp [e2], fun x hx => ?_, List.pairwise_cons.2 ⟨fun y hy => (hL y hy).2.1, hp⟩⟩
    rcases List.mem_cons.1 hx with rfl | hx
    · exact ⟨⟨OIn.term h1 hs.1 (fun k a b => ⟨a, b⟩), q1, by show m ≤ _; omega⟩, Nat.le_refl _, q2⟩
    · obtain ⟨g1, g2, g3⟩ := hL x hx
      exact ⟨g1, by omega, g3⟩
  | [], _ :: _, _, _, h, _, _ => by unfold OsIn at h; exact h.elim
  | _ :: _, [], _, _, h, _, _ => by unfold OsIn at h; exact h.elim
/-- A box of what own has handed back. -/
theorem box_own {w : World} {lo m hi n c b i : Nat} {A : Option Addr} {css : List (List Value)} {ts : List Tm} (h1 : RowO w 33 7 lo m A n c css.flatten) (h2 : OsIn w m hi css ts) (hw : Whole w 33 7 A c) (hs : smallTs ts) (hb : Blk w b 61 #[.slice A n c, .int .i64 i, .bool true]) (hbi : hi ≤ b) :
    ∃ L, BoxAt w b (.slice A n c) L i ∧ L.map (·.t) = ts ∧ (∀ x ∈ L, lo ≤ x.lo) ∧ (∀ x ∈ L, x.hi ≤ hi) ∧ (∀ k, boxFp b (.slice A n c) k → lo ≤ k) := by
  have hlt := hb.lt
  obtain ⟨L, e1, e2, hL, hp⟩ := h2.lts hs (by omega)
  have hle := h1.2.2
  have hle2 := h2.le
  have hn : L.length = n := by
    have h3 := h1.1.1
    rw [← e1, flat_len (k := 7) (by rw [e1]; exact h2.lens.2)] at h3
    simp only [cellsOf, List.length_map] at h3; omega
  have hg : ∀ g, (Value.slice A n c).ownBlock = some g → rowB A g := by
    intro g hg
    rcases hw with rfl | ⟨g', cur, rfl, _, _⟩
    · cases hg
    · injection hg with hg; subst hg; exact ⟨0, rfl⟩
  have hrow : w.ownsRow 0 33 7 (.slice A n c) L.length (cellsOf L).flatten := by
    rw [hn, e1]
    exact hw.own h1.1 (fun _ _ => Nat.zero_le _)
  refine ⟨L, ⟨hb, hrow, fun x hx => (hL x hx).1, fun x hx => ⟨.inr (by have := (hL x hx).2.2; omega), fun g hgg => .inl ?_⟩, hp⟩, e2, fun x hx => by have := (hL x hx).2.1; omega, fun x hx => (hL x hx).2.2, ?_⟩
  · have := (h1.2.1 g (hg g hgg)).2; have := (hL x hx).2.1; omega
  · rintro k (rfl | hk)
    · omega
    · exact (h1.2.1 k (hg k hk)).1
end Go.Proofs.Ytmkidkfofbnjgaa
