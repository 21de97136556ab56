/- pigeonholekit: the bag: do all its lists lie apart. Printed by mkmapart.py. pigeonholekit: ApartTerms: lists of terms, each with all lists within it in blocks of its own. -/
import Derived.Test.YtmkidkfofbnjgaaBag3Jn
import Derived.Test.YtmkidkfofbnjgaaFlatsJn
import Derived.Test.YtmkidkfofbnjgaaFlatTermsJn
namespace Go.Proofs.Ytmkidkfofbnjgaa
open Go.RowKit

/-- Lists, by their number. -/
def ldOf (Ls : List Ld) (k : Nat) : Ld := (Ls[k]?).getD ⟨none, 0, 0⟩
theorem ldOf_at {Ls : List Ld} {k : Nat} (h : k < Ls.length) : ldOf Ls k = Ls[k] := by unfold ldOf; rw [List.getElem?_eq_getElem h]; rfl
theorem ldOf_mem {Ls : List Ld} {k : Nat} (h : k < Ls.length) : ldOf Ls k ∈ Ls := by rw [ldOf_at h]; exact List.getElem_mem h
theorem ldOf_cells (Ls : List Ld) : cellsL (ldOf Ls) Ls.length = heads Ls := by
  apply List.ext_getElem?
  intro i
  by_cases h : i < Ls.length
  · rw [cellsL_at h, ldOf_at h]; unfold heads; rw [List.getElem?_map, List.getElem?_eq_getElem h]; rfl
  · rw [List.getElem?_eq_none (by simp only [cellsL, List.length_map, List.length_range]; omega), List.getElem?_eq_none (by rw [heads_len]; omega)]
theorem Lot.p1 {S : Kd} {w : World} {lo hi cO : Nat} {Ls : List Ld} {O : Option Addr} (h : Lot w S.e S.sz lo hi Ls) (ho : Slab w S.E 1 O Ls.length cO (heads Ls)) (hne : S.e ≠ S.E) : P1 S w w Ls.length O cO (ldOf Ls) (fun _ => 0) := by
  refine ⟨by rw [ldOf_cells]; exact ho, fun k hk => ?_, fun k j hk hj hkj b => ?_, Keeps.refl _ _, hne⟩
  · obtain ⟨xs, hr⟩ := h.each _ (ldOf_mem hk)
    exact ⟨xs, hr.1, fun j hj => absurd hj (Nat.not_lt_zero _)⟩
  · have hp := List.pairwise_iff_getElem.1 h.apart
    rw [ldOf_at hk, ldOf_at hj]
    rcases Nat.lt_or_gt_of_ne hkj with h1 | h1
    · exact hp k j hk hj h1 b
    · exact fun hb hb2 => hp j k hj hk h1 b hb2 hb
theorem Lot.fp {w : World} {e : TypeId} {sz lo hi : Nat} {Ls : List Ld} (h : Lot w e sz lo hi Ls) : ∀ b, fpL (ldOf Ls) Ls.length b → lo ≤ b ∧ b < hi := by
  rintro b ⟨k, hk, hr⟩
  obtain ⟨xs, h1⟩ := h.each _ (ldOf_mem hk)
  exact h1.2.1 b hr
/-- Lists of another kind are not touched. -/
theorem Lot.other {w w' : World} {e e2 : TypeId} {sz sz2 lo hi lo2 hi2 : Nat} {Ls Ms : List Ld} (h : Lot w e sz lo hi Ls) (h2 : Lot w e2 sz2 lo2 hi2 Ms) (hne : e ≠ e2) (hk : Keeps (fpL (ldOf Ms) Ms.length) w w') : Lot w' e sz lo hi Ls := by
  refine ⟨fun x hx => ?_, h.apart⟩
  obtain ⟨xs, h3⟩ := h.each x hx
  refine ⟨xs, h3.1.keep hk ?_, h3.2⟩
  rintro b hb ⟨k, hk2, hr⟩
  obtain ⟨ys, h4⟩ := h2.each _ (ldOf_mem hk2)
  exact slab_apart h3.1 h4.1 hne b hb hr

set_option maxRecDepth 100000 in
set_option maxHeartbeats 8000000 in
theorem apart_any (B0 g : Nat) (AL : Option Addr) (cL : Nat) (AT : Option Addr) (cT : Nat) (LL TL : List Ld) (lo hi : Nat) (w : World) (hb : BagAt w B0 g AL cL AT cT LL TL) (hl : Lot w 92 1 lo hi LL) (ht : Lot w 33 7 lo hi TL) (hhi : hi ≤ B0)
    (h1 : LL.length ≤ 100000) (h2 : TL.length ≤ 100000) (hn1 : ∀ x ∈ LL, x.n ≤ 35184372087808) (hn2 : ∀ x ∈ TL, x.n ≤ 100000) :
    Calls Try.prog 41 #[.pointer (some ⟨g, 0, none⟩)] w fun e w' => e = .returned (.bool true) ∧ Keeps (fun k => lo ≤ k ∧ k < hi) w w' := by
  have HB := hide hb; have HL := hide hl; have HT := hide ht; have HN1 := hide hn1; have HN2 := hide hn2; have HHI := hide hhi
  have HK := hide (Keeps.refl (fun k => lo ≤ k ∧ k < hi) w)
  have c0 : w.cell? ⟨g, 0, none⟩ = some (.slice AL LL.length cL) := hb.blk.cell 0
  clear hb hl ht hn1 hn2 hhi
  go_enter Try.func41, Try.ntmps41
  go_wp2_with fail
  refine (flat52 LL.length cL AL (ldOf LL) w (Lot.p1 (S := KL) HL.out HB.out.limbs (by decide)) h1 (fun k hk => HN1.out _ (ldOf_mem hk))).mono ?_
  rintro e w0 ⟨rfl, hk⟩
  have HT := hide (HT.out.other HL.out (by decide) hk)
  have HK := hide (HK.out.trans' hk (fun _ _ h => h) (fun k _ h => HL.out.fp k h) : Keeps (fun k => lo ≤ k ∧ k < hi) w w0)
  have HB := hide (HB.out.keep hk (fun k h1 h2 => by have := (HL.out.fp k h2).2; have := HHI.out; omega))
  have c1 : w0.cell? ⟨g, 1, none⟩ = some (.slice none 0 0) := HB.out.blk.cell 1
  clear hk c0
  clear HL
  go_wp2_with fail
  refine (flat53 _).mono ?_
  rintro e w1 ⟨rfl, hk⟩
  have HK := hide (HK.out.trans' hk (fun _ _ h => h) (fun _ _ h => h.elim) : Keeps (fun k => lo ≤ k ∧ k < hi) w w1)
  have HB := hide (HB.out.keep hk (fun _ _ => id))
  have HT := hide (HT.out.keep hk (fun _ _ _ => id))
  have c2 : w1.cell? ⟨g, 2, none⟩ = some (.slice none 0 0) := HB.out.blk.cell 2
  clear hk c1
  go_wp2_with fail
  refine (flat54 _).mono ?_
  rintro e w2 ⟨rfl, hk⟩
  have HK := hide (HK.out.trans' hk (fun _ _ h => h) (fun _ _ h => h.elim) : Keeps (fun k => lo ≤ k ∧ k < hi) w w2)
  have HB := hide (HB.out.keep hk (fun _ _ => id))
  have HT := hide (HT.out.keep hk (fun _ _ _ => id))
  have c3 : w2.cell? ⟨g, 3, none⟩ = some (.slice none 0 0) := HB.out.blk.cell 3
  clear hk c2
  go_wp2_with fail
  refine (flat55 _).mono ?_
  rintro e w3 ⟨rfl, hk⟩
  have HK := hide (HK.out.trans' hk (fun _ _ h => h) (fun _ _ h => h.elim) : Keeps (fun k => lo ≤ k ∧ k < hi) w w3)
  have HB := hide (HB.out.keep hk (fun _ _ => id))
  have HT := hide (HT.out.keep hk (fun _ _ _ => id))
  have c4 : w3.cell? ⟨g, 4, none⟩ = some (.slice none 0 0) := HB.out.blk.cell 4
  clear hk c3
  go_wp2_with fail
  refine (flat56 _).mono ?_
  rintro e w4 ⟨rfl, hk⟩
  have HK := hide (HK.out.trans' hk (fun _ _ h => h) (fun _ _ h => h.elim) : Keeps (fun k => lo ≤ k ∧ k < hi) w w4)
  have HB := hide (HB.out.keep hk (fun _ _ => id))
  have HT := hide (HT.out.keep hk (fun _ _ _ => id))
  have c5 : w4.cell? ⟨g, 5, none⟩ = some (.slice none 0 0) := HB.out.blk.cell 5
  clear hk c4
  go_wp2_with fail
  refine (flat57 _).mono ?_
  rintro e w5 ⟨rfl, hk⟩
  have HK := hide (HK.out.trans' hk (fun _ _ h => h) (fun _ _ h => h.elim) : Keeps (fun k => lo ≤ k ∧ k < hi) w w5)
  have HB := hide (HB.out.keep hk (fun _ _ => id))
  have HT := hide (HT.out.keep hk (fun _ _ _ => id))
  have c6 : w5.cell? ⟨g, 6, none⟩ = some (.slice none 0 0) := HB.out.blk.cell 6
  clear hk c5
  go_wp2_with fail
  refine (flat58 _).mono ?_
  rintro e w6 ⟨rfl, hk⟩
  have HK := hide (HK.out.trans' hk (fun _ _ h => h) (fun _ _ h => h.elim) : Keeps (fun k => lo ≤ k ∧ k < hi) w w6)
  have HB := hide (HB.out.keep hk (fun _ _ => id))
  have HT := hide (HT.out.keep hk (fun _ _ _ => id))
  have c7 : w6.cell? ⟨g, 7, none⟩ = some (.slice AT TL.length cT) := HB.out.blk.cell 7
  clear hk c6
  go_wp2_with fail
  refine (flat59 TL.length cT AT (ldOf TL) w6 (Lot.p1 (S := KT) HT.out HB.out.terms (by decide)) h2 (fun k hk => HN2.out _ (ldOf_mem hk))).mono ?_
  rintro e w7 ⟨rfl, hk⟩
  have HK := hide (HK.out.trans' hk (fun _ _ h => h) (fun k _ h => HT.out.fp k h) : Keeps (fun k => lo ≤ k ∧ k < hi) w w7)
  have HB := hide (HB.out.keep hk (fun k h1 h2 => by have := (HT.out.fp k h2).2; have := HHI.out; omega))
  have c8 : w7.cell? ⟨g, 8, none⟩ = some (.slice none 0 0) := HB.out.blk.cell 8
  clear hk c7
  clear HT
  go_wp2_with fail
  refine (flat60 _).mono ?_
  rintro e w8 ⟨rfl, hk⟩
  have HK := hide (HK.out.trans' hk (fun _ _ h => h) (fun _ _ h => h.elim) : Keeps (fun k => lo ≤ k ∧ k < hi) w w8)
  have HB := hide (HB.out.keep hk (fun _ _ => id))
  have c9 : w8.cell? ⟨g, 9, none⟩ = some (.slice none 0 0) := HB.out.blk.cell 9
  clear hk c8
  go_wp2_with fail
  refine (flat61 _).mono ?_
  rintro e w9 ⟨rfl, hk⟩
  have HK := hide (HK.out.trans' hk (fun _ _ h => h) (fun _ _ h => h.elim) : Keeps (fun k => lo ≤ k ∧ k < hi) w w9)
  have HB := hide (HB.out.keep hk (fun _ _ => id))
  have c10 : w9.cell? ⟨g, 10, none⟩ = some (.slice none 0 0) := HB.out.blk.cell 10
  clear hk c9
  go_wp2_with fail
  refine (flat62 _).mono ?_
  rintro e w10 ⟨rfl, hk⟩
  have HK := hide (HK.out.trans' hk (fun _ _ h => h) (fun _ _ h => h.elim) : Keeps (fun k => lo ≤ k ∧ k < hi) w w10)
  have HB := hide (HB.out.keep hk (fun _ _ => id))
  have c11 : w10.cell? ⟨g, 11, none⟩ = some (.slice none 0 0) := HB.out.blk.cell 11
  clear hk c10
  go_wp2_with fail
  refine (flat63 _).mono ?_
  rintro e w11 ⟨rfl, hk⟩
  have HK := hide (HK.out.trans' hk (fun _ _ h => h) (fun _ _ h => h.elim) : Keeps (fun k => lo ≤ k ∧ k < hi) w w11)
  have HB := hide (HB.out.keep hk (fun _ _ => id))
  have c12 : w11.cell? ⟨g, 12, none⟩ = some (.slice none 0 0) := HB.out.blk.cell 12
  clear hk c11
  go_wp2_with fail
  refine (flat64 _).mono ?_
  rintro e w12 ⟨rfl, hk⟩
  have HK := hide (HK.out.trans' hk (fun _ _ h => h) (fun _ _ h => h.elim) : Keeps (fun k => lo ≤ k ∧ k < hi) w w12)
  have HB := hide (HB.out.keep hk (fun _ _ => id))
  have c13 : w12.cell? ⟨g, 13, none⟩ = some (.slice none 0 0) := HB.out.blk.cell 13
  clear hk c12
  go_wp2_with fail
  refine (flat65 _).mono ?_
  rintro e w13 ⟨rfl, hk⟩
  have HK := hide (HK.out.trans' hk (fun _ _ h => h) (fun _ _ h => h.elim) : Keeps (fun k => lo ≤ k ∧ k < hi) w w13)
  have HB := hide (HB.out.keep hk (fun _ _ => id))
  have c14 : w13.cell? ⟨g, 14, none⟩ = some (.slice none 0 0) := HB.out.blk.cell 14
  clear hk c13
  go_wp2_with fail
  refine (flat66 _).mono ?_
  rintro e w14 ⟨rfl, hk⟩
  have HK := hide (HK.out.trans' hk (fun _ _ h => h) (fun _ _ h => h.elim) : Keeps (fun k => lo ≤ k ∧ k < hi) w w14)
  have HB := hide (HB.out.keep hk (fun _ _ => id))
  have c15 : w14.cell? ⟨g, 15, none⟩ = some (.slice none 0 0) := HB.out.blk.cell 15
  clear hk c14
  go_wp2_with fail
  refine (flat67 _).mono ?_
  rintro e w15 ⟨rfl, hk⟩
  have HK := hide (HK.out.trans' hk (fun _ _ h => h) (fun _ _ h => h.elim) : Keeps (fun k => lo ≤ k ∧ k < hi) w w15)
  have HB := hide (HB.out.keep hk (fun _ _ => id))
  have c16 : w15.cell? ⟨g, 16, none⟩ = some (.slice none 0 0) := HB.out.blk.cell 16
  clear hk c15
  go_wp2_with fail
  refine (flat68 _).mono ?_
  rintro e w16 ⟨rfl, hk⟩
  have HK := hide (HK.out.trans' hk (fun _ _ h => h) (fun _ _ h => h.elim) : Keeps (fun k => lo ≤ k ∧ k < hi) w w16)
  have HB := hide (HB.out.keep hk (fun _ _ => id))
  have c17 : w16.cell? ⟨g, 17, none⟩ = some (.slice none 0 0) := HB.out.blk.cell 17
  clear hk c16
  go_wp2_with fail
  refine (flat69 _).mono ?_
  rintro e w17 ⟨rfl, hk⟩
  have HK := hide (HK.out.trans' hk (fun _ _ h => h) (fun _ _ h => h.elim) : Keeps (fun k => lo ≤ k ∧ k < hi) w w17)
  have HB := hide (HB.out.keep hk (fun _ _ => id))
  have c18 : w17.cell? ⟨g, 18, none⟩ = some (.slice none 0 0) := HB.out.blk.cell 18
  clear hk c17
  go_wp2_with fail
  refine (flat70 _).mono ?_
  rintro e w18 ⟨rfl, hk⟩
  have HK := hide (HK.out.trans' hk (fun _ _ h => h) (fun _ _ h => h.elim) : Keeps (fun k => lo ≤ k ∧ k < hi) w w18)
  have HB := hide (HB.out.keep hk (fun _ _ => id))
  have c19 : w18.cell? ⟨g, 19, none⟩ = some (.slice none 0 0) := HB.out.blk.cell 19
  clear hk c18
  go_wp2_with fail
  refine (flat71 _).mono ?_
  rintro e w19 ⟨rfl, hk⟩
  have HK := hide (HK.out.trans' hk (fun _ _ h => h) (fun _ _ h => h.elim) : Keeps (fun k => lo ≤ k ∧ k < hi) w w19)
  have HB := hide (HB.out.keep hk (fun _ _ => id))
  clear hk c19
  go_wp2_with fail
  go_ret
  exact ⟨rfl, HK.out⟩
end Go.Proofs.Ytmkidkfofbnjgaa
namespace Go.Proofs.Ytmkidkfofbnjgaa
open Go.RowKit

/-- A list of terms, where it and what is within it lies. -/
structure Rw where
  A : Option Addr
  n : Nat
  c : Nat
  css : List (List Value)
  ts : List Tm
  lo : Nat
  m : Nat
  hi : Nat
def Rw.ok (w : World) (x : Rw) : Prop := RowO w 33 7 x.lo x.m x.A x.n x.c x.css.flatten ∧ OsIn w x.m x.hi x.css x.ts ∧ thinTs x.ts ∧ Tm.size.sizes x.ts ≤ 10000
theorem Rw.ok.keep {w w' : World} {x : Rw} {fp : Nat → Prop} (h : x.ok w) (hk : Keeps fp w w') (hf : ∀ k, x.lo ≤ k → k < x.hi → ¬ fp k) : x.ok w' := by
  obtain ⟨h1, h2, h3, h4⟩ := h
  have q1 := h1.2.2; have q2 := h2.le
  exact ⟨h1.keep hk (fun k a b => hf k a (by omega)), OsIn.keep hk h2 (fun k a b => hf k (by omega) b), h3, h4⟩
theorem Rw.ok.le {w : World} {x : Rw} (h : x.ok w) : x.lo ≤ x.hi := by have := h.1.2.2; have := h.2.1.le; omega
/-- The bag, when k of the lists are in. -/
structure ApT (w wx : World) (B0 g lo hi k : Nat) : Prop where
  ex : ∃ AL cL AT cT LL TL, BagAt wx B0 g AL cL AT cT LL TL ∧ Lot wx 92 1 lo hi LL ∧ Lot wx 33 7 lo hi TL ∧ ((∀ x ∈ LL, x.n ≤ 35184372087808) ∧ (∀ x ∈ TL, x.n ≤ 100000) ∧ LL.length ≤ k * 10000 ∧ TL.length ≤ k * 20001) ∧ Keeps (fun b => B0 ≤ b) w wx
theorem BagAt.high {w : World} {B0 g cL cT : Nat} {AL AT : Option Addr} {LL TL : List Ld} (h : BagAt w B0 g AL cL AT cT LL TL) : ∀ k, bagF g AL AT k → B0 ≤ k := fun k hk => by
  rcases Nat.lt_or_ge k B0 with h1 | h1
  · exact absurd hk (h.low k h1)
  · exact h1

theorem ApT.put {w wx : World} {B0 g lo hi k : Nat} (h : ApT w wx B0 g lo hi k) (x : Rw) (hx : x.ok w) (h1 : hi ≤ x.lo) (h0 : lo ≤ hi) (h2 : x.hi ≤ B0) (hk1 : k ≤ 1) :
    Calls Try.prog 40 #[.pointer (some ⟨g, 0, none⟩), .slice x.A x.n x.c] wx fun e w' => e = .returned (.tuple #[]) ∧ ApT w w' B0 g lo x.hi (k + 1) := by
  obtain ⟨AL, cL, AT, cT, LL, TL, hb, hl, ht, ⟨n1, n2, n3, n4⟩, hk⟩ := h.ex
  have hle := hx.le
  obtain ⟨r1, r2, r3, r4⟩ := hx.keep hk (fun j a b hj => by omega)
  refine (put_terms (Tm.size.sizes x.ts) x.ts (Nat.le_refl _) x.css x.A x.n x.c wx x.lo x.m x.hi B0 g AL cL AT cT LL TL r1 r2 r3 h2 hb (by omega) (by omega)).mono ?_
  rintro e w' ⟨AL', cL', AT', cT', LL', TL', rfl, hb', hl', ht', ⟨m1, m2, m3, m4⟩, hmv, hk'⟩
  have hk2 : Keeps (fun b => B0 ≤ b) wx w' := hk'.mono (fun k _ h => hb.high k h)
  refine ⟨rfl, AL', cL', AT', cT', LL ++ LL', TL ++ TL', hb', ?_, ?_, ⟨?_, ?_, ?_, ?_⟩, hk.trans' hk2 (fun _ _ h => h) (fun _ _ h => h)⟩
  · exact Lot.append (m := hi) (hl.keep hk2 (fun j a b hj => by omega)) (hl'.more h1 (Nat.le_refl _)) h0 (by omega)
  · exact Lot.append (m := hi) (ht.keep hk2 (fun j a b hj => by omega)) (ht'.more h1 (Nat.le_refl _)) h0 (by omega)
  · intro y hy
    rcases List.mem_append.1 hy with hy | hy
    · exact n1 y hy
    · exact m1 y hy
  · intro y hy
    rcases List.mem_append.1 hy with hy | hy
    · exact n2 y hy
    · exact m2 y hy
  · rw [List.length_append]; omega
  · rw [List.length_append]; omega
theorem ApT.all {w wx : World} {B0 g lo hi k : Nat} (h : ApT w wx B0 g lo hi k) (hk : k ≤ 2) (h2 : hi ≤ B0) :
    Calls Try.prog 41 #[.pointer (some ⟨g, 0, none⟩)] wx fun e w' => e = .returned (.bool true) ∧ Keeps (fun b => lo ≤ b ∧ b < hi ∨ B0 ≤ b) w w' := by
  obtain ⟨AL, cL, AT, cT, LL, TL, hb, hl, ht, ⟨n1, n2, n3, n4⟩, hk⟩ := h.ex
  refine (apart_any B0 g AL cL AT cT LL TL lo hi wx hb hl ht h2 (by omega) (by omega) n1 n2).mono ?_
  rintro e w' ⟨rfl, hk'⟩
  exact ⟨rfl, hk.trans' hk' (fun _ _ h => .inr h) (fun _ _ h => .inl h)⟩

set_option maxRecDepth 100000 in
set_option maxHeartbeats 4000000 in
theorem apart_two (ga : Nat) (x y : Rw) (w : World) (hb : Blk w ga 25 #[.slice x.A x.n x.c, .slice y.A y.n y.c]) (hx : x.ok w) (hy : y.ok w) (hxy : x.hi ≤ y.lo) (hhi : y.hi ≤ w.heap.size) :
    Calls Try.prog 31 #[.slice (some ⟨ga, 0, none⟩) 2 2] w fun e w' => e = .returned (.bool true) ∧ Keeps (fun k => x.lo ≤ k ∧ k < y.hi) w w' := by
  have HX := hide hx; have HY := hide hy; have HXY := hide hxy; have HHI := hide hhi
  have HXL := hide hx.le; have HYL := hide hy.le
  have HGA := hide hb.lt
  have HA := hide hb
  have HI0 := hide (show ApT w (w.alloc (.cells (bagC none 0 0 none 0 0) 89)) w.heap.size w.heap.size x.lo x.lo 0 from
    ⟨none, 0, none, 0, [], [], ⟨Blk.new w 89 _, Slab.nil _ _ _, Slab.nil _ _ _, Nat.le_refl _, (fun k ⟨o, e⟩ => by cases e), (fun k ⟨o, e⟩ => by cases e)⟩, Lot.nil, Lot.nil, ⟨(fun _ h => by cases h), (fun _ h => by cases h), Nat.zero_le _, Nat.zero_le _⟩, ((Keeps.refl NoB w).alloc _).mono (fun _ _ h => h.elim)⟩)
  unfold bagC at HI0
  clear hb hx hy hxy hhi
  go_enter Try.func31, Try.ntmps31
  go_wp2_with fail
  go_loopg [4] 2 (fun g s4 wx => ∃ (k hi : Nat), k ≤ 2 ∧ g = 2 - k ∧ s4 = .int .i64 k ∧ ApT w wx w.heap.size w.heap.size x.lo hi k ∧ (k = 0 ∧ hi = x.lo ∨ k = 1 ∧ hi = x.hi ∨ k = 2 ∧ hi = y.hi))
  case atStart => exact ⟨0, x.lo, by omega, rfl, rfl, HI0.out, .inl ⟨rfl, rfl⟩⟩
  case round =>
    obtain ⟨k, hi, hk, rfl, rfl, hap, hcase⟩ := hrel
    have HAP := hide hap
    have HKW := hide (show Keeps (fun b => w.heap.size ≤ b) w wr from by obtain ⟨_, _, _, _, _, _, _, _, _, _, h⟩ := hap.ex; exact h)
    clear hap
    rcases hcase with ⟨rfl, rfl⟩ | ⟨rfl, rfl⟩ | ⟨rfl, rfl⟩
    · have c0 : wr.cell? ⟨ga, 0, none⟩ = some (.slice x.A x.n x.c) := (HA.out.keep HKW.out (fun h => by have := HGA.out; omega)).cell 0
      go_wp2_with
        first
        | (go_at_call 40
           refine (HAP.out.put x HX.out (Nat.le_refl _) (Nat.le_refl _) (by have := HXY.out; have := HYL.out; have := HHI.out; omega) (by omega)).mono ?_
           rintro e w2 ⟨rfl, h2⟩
           have H2 := hide h2
           clear h2)
        | fail
      go_roundg 1
      case measure => omega
      case rel => exact ⟨1, x.hi, by omega, rfl, by go_num, H2.out, .inr (.inl ⟨rfl, rfl⟩)⟩
    · have c0 : wr.cell? ⟨ga, 1, none⟩ = some (.slice y.A y.n y.c) := (HA.out.keep HKW.out (fun h => by have := HGA.out; omega)).cell 1
      go_wp2_with
        first
        | (go_at_call 40
           refine (HAP.out.put y HY.out HXY.out HXL.out HHI.out (by omega)).mono ?_
           rintro e w2 ⟨rfl, h2⟩
           have H2 := hide h2
           clear h2)
        | fail
      go_roundg 0
      case measure => omega
      case rel => exact ⟨2, y.hi, by omega, rfl, by go_num, H2.out, .inr (.inr ⟨rfl, rfl⟩)⟩
    · go_wp2_with
        first
        | (go_at_call 41
           refine (HAP.out.all (by omega) HHI.out).mono ?_
           rintro e w2 ⟨rfl, h2⟩
           have H2 := hide h2
           clear h2)
        | fail
      go_ret
      refine ⟨rfl, ⟨H2.out.os, H2.out.tape, H2.out.output, H2.out.size, fun k hk hn => H2.out.block k hk ?_⟩⟩
      rintro (h | h)
      · exact hn h
      · omega
end Go.Proofs.Ytmkidkfofbnjgaa
