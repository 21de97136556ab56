/- Lent terms beside the terms they are of: what both sides tell, alike. -/
import Derived.Test.YtfehciiidmgopaaRCompare
import Derived.Test.YtfehciiidmgopaaRLike
import Derived.Test.YtfehciiidmgopaaSame
import Derived.Test.YtfehciiidmgopaaTmKepts
import Derived.Test.YtfehciiidmgopaaAwake
namespace Go.Proofs.Ytfehciiidmgopaa
open Go.RowKit



/-- What a term says, at the top. -/
structure Ct where
  kd : Int
  ng : Bool
  l : List Nat
  tx : ByteArray
  nm : Int
  im : Nat
  tm : Nat
def Ct.right (C : Ct) : Bool := rightB C.kd C.ng C.l C.tx C.nm C.im C.tm
def Ct.val (C : Ct) : Int := if C.ng then -(nat C.l : Int) else nat C.l
def TermL (w : World) (B : Nat → Prop) (C : Ct) (cs : Array Value) : Prop := ∃ (la : Option Addr) (ln lc : Nat) (ia : Option Addr) (ic : Nat) (ta : Option Addr) (tc : Nat),
  cs = #[.int .u8 C.kd, .bool C.ng, .slice la ln lc, .string C.tx, .int .i64 C.nm, .slice ia C.im ic, .slice ta C.tm tc] ∧ LimbsIn w B la ln lc C.l ∧ C.im ≤ 140737488355328 ∧ C.tm ≤ 140737488355328
theorem TermL.keep {w w' : World} {B : Nat → Prop} {C : Ct} {cs : Array Value} (h : TermL w B C cs) (hk : Keeps NoB w w') : TermL w' B C cs := by
  obtain ⟨la, ln, lc, ia, ic, ta, tc, e, hl, h1⟩ := h
  exact ⟨la, ln, lc, ia, ic, ta, tc, e, hl.keep hk, h1⟩
theorem TermL.term {w : World} {B : Nat → Prop} {C : Ct} {cs : Array Value} (h : TermL w B C cs) : TermA w B C.right cs := by
  obtain ⟨la, ln, lc, ia, ic, ta, tc, rfl, hl, hi, ht⟩ := h
  exact ⟨C.kd, C.ng, la, ln, lc, C.tx, C.nm, ia, C.im, ic, ta, C.tm, tc, C.l, rfl, hl, hi, ht, rfl⟩
theorem TermL.int {w : World} {B : Nat → Prop} {C : Ct} {cs : Array Value} (h : TermL w B C cs) (hr : C.right = true) : ∃ ng A n c ia ta ic tc, cs = #[.int .u8 1, .bool ng, .slice A n c, .string { data := #[] }, .int .i64 0, .slice ia 0 ic, .slice ta 0 tc] ∧ IA w B ng A n c C.val := by
  obtain ⟨la, ln, lc, ia, ic, ta, tc, rfl, hl, hi, ht⟩ := h
  obtain ⟨h1, h2, h3, h4, h5, hI, _, _⟩ := right_IA hr hl
  refine ⟨C.ng, la, ln, lc, ia, ta, ic, tc, ?_, hI⟩
  rw [h1, h2, h3, h4, h5]; rfl

def IntL (w : World) (n : Int) (ok : Bool) (e : Ending) (w' : World) : Prop := e = .returned (.tuple #[.int .i64 n, .bool ok]) ∧ Keeps NoB w w'
def NumL (w : World) (n : Int) (e : Ending) (w' : World) : Prop := e = .returned (.int .i64 n) ∧ Keeps NoB w w'
section
variable {w : World} {Bx By Ba Bb : Nat → Prop} {C D : Ct} {xs ys es fs : Array Value}
theorem add_alike (hx : TermL w Bx C xs) (hy : TermL w By D ys) (ha : TermL w Ba C es) (hb : TermL w Bb D fs) : ∃ kd ng l ok, ∀ w1, Keeps NoB w w1 →
    Calls Try.prog 25 #[.agg xs, .agg ys] w1 (LikeP w1 kd ng l ok) ∧ Calls Try.prog 29 #[.agg es, .agg fs] w1 (LikeP w1 kd ng l ok) := by
  cases hr : C.right with
  | false =>
    have h1 := hx.term; have h2 := ha.term
    rw [hr] at h1 h2
    exact ⟨_, _, _, _, fun w1 hk => ⟨(add_bad1 (h1.keep hk) (hy.term.keep hk)).mono (no_like w1), (radd_bad1 (h2.keep hk) (hb.term.keep hk)).mono (no_like w1)⟩⟩
  | true => cases hs : D.right with
    | false =>
      have h1 := hx.term; have h2 := ha.term; have h3 := hy.term; have h4 := hb.term
      rw [hr] at h1 h2; rw [hs] at h3 h4
      exact ⟨_, _, _, _, fun w1 hk => ⟨(add_bad2 (h1.keep hk) (h3.keep hk)).mono (no_like w1), (radd_bad2 (h2.keep hk) (h4.keep hk)).mono (no_like w1)⟩⟩
    | true =>
      obtain ⟨_, _, _, _, _, _, _, _, rfl, i1⟩ := hx.int hr
      obtain ⟨_, _, _, _, _, _, _, _, rfl, i2⟩ := hy.int hs
      obtain ⟨_, _, _, _, _, _, _, _, rfl, i3⟩ := ha.int hr
      obtain ⟨_, _, _, _, _, _, _, _, rfl, i4⟩ := hb.int hs
      obtain ⟨kd, ngz, l, ok, hl⟩ := any_like (C.val + D.val)
      exact ⟨kd, ngz, l, ok, fun w1 hk => ⟨(add_any _ _ _ _ _ _ _ _ _ _ _ _ _ _ _ _ _ _ w1 _ _ (i1.keep hk) (i2.keep hk)).mono (hl w1), (radd_any _ _ _ _ _ _ _ _ _ _ _ _ _ _ _ _ _ _ w1 _ _ (i3.keep hk) (i4.keep hk)).mono (hl w1)⟩⟩
theorem sub_alike (hx : TermL w Bx C xs) (hy : TermL w By D ys) (ha : TermL w Ba C es) (hb : TermL w Bb D fs) : ∃ kd ng l ok, ∀ w1, Keeps NoB w w1 →
    Calls Try.prog 27 #[.agg xs, .agg ys] w1 (LikeP w1 kd ng l ok) ∧ Calls Try.prog 30 #[.agg es, .agg fs] w1 (LikeP w1 kd ng l ok) := by
  cases hs : D.right with
  | false =>
    have h3 := hy.term; have h4 := hb.term
    rw [hs] at h3 h4
    exact ⟨_, _, _, _, fun w1 hk => ⟨(sub_bad2 (hx.term.keep hk) (h3.keep hk)).mono (no_like w1), (rsub_bad2 (ha.term.keep hk) (h4.keep hk)).mono (no_like w1)⟩⟩
  | true =>
    obtain ⟨_, _, _, _, _, _, _, _, rfl, i2⟩ := hy.int hs
    obtain ⟨_, _, _, _, _, _, _, _, rfl, i4⟩ := hb.int hs
    cases hr : C.right with
    | false =>
      have h1 := hx.term; have h2 := ha.term
      rw [hr] at h1 h2
      exact ⟨_, _, _, _, fun w1 hk => ⟨(sub_bad1 _ _ _ _ _ _ _ _ _ w1 _ _ (h1.keep hk) (i2.keep hk)).mono (no_like w1), (rsub_bad1 _ _ _ _ _ _ _ _ _ w1 _ _ (h2.keep hk) (i4.keep hk)).mono (no_like w1)⟩⟩
    | true =>
      obtain ⟨_, _, _, _, _, _, _, _, rfl, i1⟩ := hx.int hr
      obtain ⟨_, _, _, _, _, _, _, _, rfl, i3⟩ := ha.int hr
      obtain ⟨kd, ngz, l, ok, hl⟩ := any_like (C.val - D.val)
      exact ⟨kd, ngz, l, ok, fun w1 hk => ⟨(sub_any _ _ _ _ _ _ _ _ _ _ _ _ _ _ _ _ _ _ w1 _ _ (i1.keep hk) (i2.keep hk)).mono (hl w1), (rsub_any _ _ _ _ _ _ _ _ _ _ _ _ _ _ _ _ _ _ w1 _ _ (i3.keep hk) (i4.keep hk)).mono (hl w1)⟩⟩
theorem int_both (ng : Bool) (A ia ta : Option Addr) (n c ic tc : Nat) (z : Int) (w : World) (B : Nat → Prop) (h : IA w B ng A n c z) :
    Calls Try.prog 22 #[.agg #[.int .u8 1, .bool ng, .slice A n c, .string { data := #[] }, .int .i64 0, .slice ia 0 ic, .slice ta 0 tc]] w (IntL w (int64 z) (small64 z)) := by
  by_cases hl : n ≤ 2
  · exact int_few ng A ia ta n c ic tc z w B h hl
  · have hs : small64 z = false := by
      cases hb : small64 z with
      | false => rfl
      | true =>
        have h1 := limbs_few (small_len hb)
        rw [h.limbs.len] at h1
        exact absurd h1 hl
    refine (int_long ng A ia ta n c ic tc z w B h (by omega)).mono ?_
    rintro e w' ⟨rfl, hk⟩
    unfold IntL int64
    rw [hs]
    exact ⟨rfl, hk⟩
theorem int_alike (hx : TermL w Bx C xs) (ha : TermL w Ba C es) : ∃ n ok, ∀ w1, Keeps NoB w w1 → Calls Try.prog 22 #[.agg xs] w1 (IntL w1 n ok) ∧ Calls Try.prog 31 #[.agg es] w1 (IntL w1 n ok) := by
  cases hr : C.right with
  | false =>
    have h1 := hx.term; have h2 := ha.term
    rw [hr] at h1 h2
    exact ⟨0, false, fun w1 hk => ⟨int_bad (h1.keep hk), rint_bad (h2.keep hk)⟩⟩
  | true =>
    obtain ⟨_, _, _, _, _, _, _, _, rfl, i1⟩ := hx.int hr
    obtain ⟨_, _, _, _, _, _, _, _, rfl, i3⟩ := ha.int hr
    exact ⟨_, _, fun w1 hk => ⟨int_both _ _ _ _ _ _ _ _ _ w1 _ (i1.keep hk), rint_any _ _ _ _ _ _ _ _ _ w1 _ (i3.keep hk)⟩⟩
theorem compare_alike (hx : TermL w Bx C xs) (hy : TermL w By D ys) (ha : TermL w Ba C es) (hb : TermL w Bb D fs) : ∃ n, ∀ w1, Keeps NoB w w1 →
    Calls Try.prog 23 #[.agg xs, .agg ys] w1 (NumL w1 n) ∧ Calls Try.prog 32 #[.agg es, .agg fs] w1 (NumL w1 n) := by
  cases hr : C.right with
  | false =>
    have h1 := hx.term; have h2 := ha.term
    rw [hr] at h1 h2
    exact ⟨_, fun w1 hk => ⟨compare_bad1 (h1.keep hk) (hy.term.keep hk), rcompare_bad1 (h2.keep hk) (hb.term.keep hk)⟩⟩
  | true => cases hs : D.right with
    | false =>
      have h1 := hx.term; have h2 := ha.term; have h3 := hy.term; have h4 := hb.term
      rw [hr] at h1 h2; rw [hs] at h3 h4
      exact ⟨_, fun w1 hk => ⟨compare_bad2 (h1.keep hk) (h3.keep hk), rcompare_bad2 (h2.keep hk) (h4.keep hk)⟩⟩
    | true =>
      obtain ⟨_, _, _, _, _, _, _, _, rfl, i1⟩ := hx.int hr
      obtain ⟨_, _, _, _, _, _, _, _, rfl, i2⟩ := hy.int hs
      obtain ⟨_, _, _, _, _, _, _, _, rfl, i3⟩ := ha.int hr
      obtain ⟨_, _, _, _, _, _, _, _, rfl, i4⟩ := hb.int hs
      exact ⟨_, fun w1 hk => ⟨compare_any _ _ _ _ _ _ _ _ _ _ _ _ _ _ _ _ _ _ w1 _ _ (i1.keep hk) (i2.keep hk), rcompare_any _ _ _ _ _ _ _ _ _ _ _ _ _ _ _ _ _ _ w1 _ _ (i3.keep hk) (i4.keep hk)⟩⟩
end
/-! ### Lent -/
/-- A lent term, all its blocks within P. -/
def LentAt (w : World) (P : Nat → Prop) (t : Tm) (cs : Array Value) : Prop := ∃ lo hi, LIn w lo hi cs.toList t ∧ ∀ k, lo ≤ k → k < hi → P k ∧ k < w.heap.size
theorem LentAt.keep {w w' : World} {P : Nat → Prop} {t : Tm} {cs : Array Value} (h : LentAt w P t cs) (hk : Keeps NoB w w') : LentAt w' P t cs := by
  obtain ⟨lo, hi, hl, hp⟩ := h
  exact ⟨lo, hi, LIn.keep hk hl (fun _ _ _ => id), fun k h1 h2 => ⟨(hp k h1 h2).1, Nat.lt_of_lt_of_le (hp k h1 h2).2 hk.size⟩⟩
theorem LentAt.far {w w' : World} {P fp : Nat → Prop} {t : Tm} {cs : Array Value} (h : LentAt w P t cs) (hk : Keeps fp w w') (hf : ∀ k, P k → ¬ fp k) : LentAt w' P t cs := by
  obtain ⟨lo, hi, hl, hp⟩ := h
  exact ⟨lo, hi, LIn.keep hk hl (fun k h1 h2 => hf k (hp k h1 h2).1), fun k h1 h2 => ⟨(hp k h1 h2).1, Nat.lt_of_lt_of_le (hp k h1 h2).2 hk.size⟩⟩
theorem LentAt.more {w : World} {P P' : Nat → Prop} {t : Tm} {cs : Array Value} (h : LentAt w P t cs) (hP : ∀ k, k < w.heap.size → P k → P' k) : LentAt w P' t cs := by
  obtain ⟨lo, hi, hl, hp⟩ := h
  exact ⟨lo, hi, hl, fun k h1 h2 => ⟨hP k (hp k h1 h2).2 (hp k h1 h2).1, (hp k h1 h2).2⟩⟩
/-- A term that came in: es a tree, and at the top. -/
structure ArgT (w : World) (B : Nat → Prop) (t : Tm) (C : Ct) (cs : Array Value) : Prop where
  tree : TermIn w B false cs.toList t
  top : TermL w B C cs
  low : ∀ x ∈ C.l, x < B32
  is : ∃ items tail, t = .mk C.kd C.ng (C.l.map fun (x : Nat) => (x : Int)) C.tx C.nm items tail ∧ items.length = C.im ∧ tail.length = C.tm
theorem ArgT.keep {w w' : World} {B : Nat → Prop} {t : Tm} {C : Ct} {cs : Array Value} (h : ArgT w B t C cs) (hk : Keeps NoB w w') : ArgT w' B t C cs :=
  ⟨TermIn.keep hk (fun _ _ => id) _ _ h.tree, h.top.keep hk, h.low, h.is⟩
theorem ArgT.lent {w w' : World} {B P : Nat → Prop} {t : Tm} {C : Ct} {cs ds : Array Value} (h : ArgT w B t C cs) (hd : LentAt w' P t ds) : TermL w' P C ds := by
  obtain ⟨items, tail, rfl, hi, ht⟩ := h.is
  obtain ⟨lo, hi', hl, hp⟩ := hd
  unfold LIn at hl
  obtain ⟨la, ln, lc, g, im, ic, g', tn, tc, css, dss, m1, m2, e, ⟨s1, s2, s3⟩, ⟨g0, e0, a1, a2, a3, a4, a5⟩, ⟨b1, b2, b3, b4, b5⟩, ⟨c1, c2, c3, c4, c5⟩⟩ := hl
  have q1 := LsIn.le b5; have q2 := LsIn.le c5
  have l1 := (LsIn.lens b5).1; have l2 := (LsIn.lens c5).1
  have him : im = C.im := by rw [← b3, l1, hi]
  have htn : tn = C.tm := by rw [← c3, l2, ht]
  subst e0
  have hln : C.l.length = ln := by rw [List.length_map] at a4; exact a4
  refine ⟨some ⟨g0, 0, none⟩, ln, lc, some ⟨g, 0, none⟩, ic, some ⟨g', 0, none⟩, tc, ?_, ⟨⟨true, ?_⟩, h.low, by omega, by unfold Roomy at s1; unfold maxLen; omega⟩, by unfold Roomy at s2; omega, by unfold Roomy at s3; omega⟩
  · apply Array.toList_inj.1
    rw [e, him, htn]
  · have h1 := (Slab.part a5 (i := ln) (by omega)).more (B' := P) (fun k _ ⟨o, ek⟩ => by injection ek with ek; injection ek with ek; subst ek; exact (hp _ (by omega) (by omega)).1)
    rw [take_front (by simp [hln])] at h1
    unfold u32s
    rwa [List.map_map] at h1
theorem lent_any {w : World} {B : Nat → Prop} {t : Tm} {C : Ct} {cs : Array Value} (h : ArgT w B t C cs) : Calls Try.prog 28 #[.agg cs] w fun e w' => ∃ (ng : Bool) (la ia ta : Option Addr) (kd nm : Int) (ln lc im ic tm tc : Nat) (tx : ByteArray), e = .returned (.agg #[.int .u8 kd, .bool ng, .slice la ln lc, .string tx, .int .i64 nm, .slice ia im ic, .slice ta tm tc]) ∧ LentAt w' (fun k => w.heap.size ≤ k) t #[.int .u8 kd, .bool ng, .slice la ln lc, .string tx, .int .i64 nm, .slice ia im ic, .slice ta tm tc] ∧ Keeps NoB w w' := by
  obtain ⟨kd, ng, la, ln, lc, tx, nm, ia, im, ic, ta, tn, tc, e, _⟩ := h.tree.cells
  have h1 := h.tree
  rw [e] at h1
  have h2 := lentTerm_any t w B false kd nm ng la ia ta ln lc im ic tn tc tx h1
  have e2 : cs = #[.int .u8 kd, .bool ng, .slice la ln lc, .string tx, .int .i64 nm, .slice ia im ic, .slice ta tn tc] := Array.toList_inj.1 e
  rw [e2]
  refine h2.mono ?_
  rintro e w' ⟨kd, ng, la, ln, lc, tx, nm, ia, im, ic, ta, tn, tc, rfl, hl, hk⟩
  exact ⟨ng, la, ia, ta, kd, nm, ln, lc, im, ic, tn, tc, tx, rfl, ⟨w.heap.size, w'.heap.size, hl, fun k h1 h2 => ⟨h1, h2⟩⟩, hk⟩
theorem kept_any {w : World} {B P : Nat → Prop} {t : Tm} {C : Ct} {cs ds : Array Value} (h : ArgT w B t C cs) (hd : LentAt w P t ds) : Calls Try.prog 34 #[.agg ds, .agg cs] w fun e w' => e = .returned (.bool true) ∧ Keeps NoB w w' := by
  obtain ⟨kd, ng, la, ln, lc, tx, nm, ia, im, ic, ta, tn, tc, e, _⟩ := h.tree.cells
  have h1 := h.tree
  obtain ⟨lo, hi, hl, hp⟩ := hd
  obtain ⟨kd', ng', la', ln', lc', tx', nm', ia', im', ic', ta', tn', tc', e', _⟩ := (LIn.term (B := fun _ => True) hl (fun _ _ _ => trivial)).cells
  have e2 : cs = #[.int .u8 kd, .bool ng, .slice la ln lc, .string tx, .int .i64 nm, .slice ia im ic, .slice ta tn tc] := Array.toList_inj.1 e
  have e3 : ds = #[.int .u8 kd', .bool ng', .slice la' ln' lc', .string tx', .int .i64 nm', .slice ia' im' ic', .slice ta' tn' tc'] := Array.toList_inj.1 e'
  rw [e] at h1; rw [e'] at hl
  rw [e2, e3]
  exact keptTerm_any t w lo hi B false kd' nm' ng' la' ia' ta' ln' lc' im' ic' tn' tc' tx' kd nm ng la ia ta ln lc im ic tn tc tx hl h1

/-- Behind the lending. -/
structure SumsSt (wv : World) (gx gy : Nat) (t u : Tm) (xs ys : Array Value) (wx : World) : Prop where
  keep : Keeps NoB wv wx
  bx : Blk wx gx 26 xs
  by' : Blk wx gy 26 ys
  lx : LentAt wx (fun k => ¬ k = gx ∧ ¬ k = gy) t xs
  ly : LentAt wx (fun k => ¬ k = gx ∧ ¬ k = gy) u ys
theorem reads_eq {w : World} {B B' : Nat → Prop} {F F' : Bool} {A : Option Addr} {n : Nat} {xs ys : List Value} (h : Reads w B F 1 A n xs) (h' : Reads w B' F' 1 A n ys) : xs = ys := by
  have h1 := h.1; have h2 := h'.1
  apply List.ext_getElem (by omega)
  intro i hi hj
  obtain ⟨ad, e, _, _, _, hc⟩ := h.2 (by omega)
  obtain ⟨ad', e', _, _, _, hc'⟩ := h'.2 (by omega)
  rw [e] at e'; injection e' with e'; subst e'
  have q := (hc i _ (List.getElem?_eq_getElem hi)).1
  have q' := (hc' i _ (List.getElem?_eq_getElem hj)).1
  rw [q] at q'; injection q'
theorem arg_of {w : World} {B : Nat → Prop} {kd nm : Int} {ng : Bool} {la ia ta : Option Addr} {ln lc im ic tm tc : Nat} {tx : ByteArray} {l : List Nat} {t : Tm} (hl : LimbsIn w B la ln lc l) (hi : im ≤ 140737488355328) (ht : tm ≤ 140737488355328)
    (h : TermIn w B false [.int .u8 kd, .bool ng, .slice la ln lc, .string tx, .int .i64 nm, .slice ia im ic, .slice ta tm tc] t) : ∃ C, ArgT w B t C #[.int .u8 kd, .bool ng, .slice la ln lc, .string tx, .int .i64 nm, .slice ia im ic, .slice ta tm tc] := by
  obtain ⟨limbs, items, tail, css, dss, e, _, h1, h2, _, h3, _, _, h4, _⟩ := term_open h
  obtain ⟨F, hr⟩ := hl.reads
  have hx := reads_eq h1 hr
  have hx2 : limbs = l.map fun (x : Nat) => (x : Int) := by
    unfold u32s at hx
    have hlen : limbs.length = l.length := by have := congrArg List.length hx; simpa using this
    apply List.ext_getElem (by simpa using hlen)
    intro i hi hj
    have q : (limbs.map (Value.int .u32))[i]? = (l.map fun (x : Nat) => Value.int .u32 (x : Int))[i]? := by rw [hx]
    rw [List.getElem?_map, List.getElem?_map, List.getElem?_eq_getElem hi, List.getElem?_eq_getElem (by omega)] at q
    simp only [Option.map_some, Option.some.injEq, Value.int.injEq, true_and] at q
    rw [q, List.getElem_map]
  refine ⟨⟨kd, ng, l, tx, nm, im, tm⟩, h, ⟨la, ln, lc, ia, ic, ta, tc, rfl, hl, hi, ht⟩, hl.low, items, tail, by rw [e, hx2], h3, h4⟩
end Go.Proofs.Ytfehciiidmgopaa
