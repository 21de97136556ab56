/- The document's box: Skip, Next. -/
import Derived.Test.YtmkidkfofbnjgaaSmall
import Derived.Test.YtmkidkfofbnjgaaSameTs
import Derived.Test.YtmkidkfofbnjgaaSeq
import Derived.Test.YtmkidkfofbnjgaaSlab
import Derived.Deep.QuietTactic
import Derived.BigQuiet
namespace Go.Proofs.Ytmkidkfofbnjgaa
open Go.RowKit

/-- The document's box: block r; its row; its terms, in blocks of B. -/
structure RefAt (w : World) (r : Nat) (A : Option Addr) (c : Nat) (css : List (List Value)) (ts : List Tm) (B : Nat → Prop) (i : Nat) : Prop where
  blk : Blk w r 27 #[.slice A css.length c, .int .i64 i]
  row : Slab w 33 7 A css.length c css.flatten
  ok : TermsIn w B false css ts

abbrev refFp (r : Nat) (A : Option Addr) : Nat → Prop := fun k => k = r ∨ rowB A k

theorem RefAt.sep {w : World} {r c i : Nat} {A : Option Addr} {css : List (List Value)} {ts : List Tm} {B : Nat → Prop} (h : RefAt w r A c css ts B i) : ¬ rowB A r := h.row.ne h.blk (by decide)

theorem RefAt.keep {w w' : World} {r c i : Nat} {A : Option Addr} {css : List (List Value)} {ts : List Tm} {B fp : Nat → Prop} (h : RefAt w r A c css ts B i) (hk : Keeps fp w w') (h1 : ∀ k, refFp r A k → ¬ fp k) (h2 : ∀ k, B k → ¬ fp k) : RefAt w' r A c css ts B i :=
  ⟨h.blk.keep hk (h1 r (.inl rfl)), h.row.keep hk (fun g hg => h1 g (.inr hg)), TermsIn.keep hk h2 _ _ h.ok⟩

theorem RefAt.fresh {w w' : World} {r c i : Nat} {A : Option Addr} {css : List (List Value)} {ts : List Tm} {B : Nat → Prop} (h : RefAt w r A c css ts B i) (hk : Keeps NoB w w') : RefAt w' r A c css ts B i := h.keep hk (fun _ _ => id) (fun _ _ => id)

/-- The cells of the k-th, where they lie, the reading's blocks and the terms' apart. -/
theorem cells_at2 {w : World} {B B' : Nat → Prop} {F F' : Bool} {ts : List Tm} {css : List (List Value)} {A : Option Addr} {n : Nat} (hr : Reads w B F 7 A n css.flatten) (ht : TermsIn w B' F' css ts) (k : Nat) (hk : k < n) :
    ∃ b o kd ng la ln lc tx nm ia im ic ta tn tc t, A = some ⟨b, o, none⟩ ∧ ts[k]? = some t ∧ css[k]? = some [.int .u8 kd, .bool ng, .slice la ln lc, .string tx, .int .i64 nm, .slice ia im ic, .slice ta tn tc] ∧ TermIn w B' F' [.int .u8 kd, .bool ng, .slice la ln lc, .string tx, .int .i64 nm, .slice ia im ic, .slice ta tn tc] t ∧
      w.cell? ⟨b, o + k * 7, none⟩ = some (.int .u8 kd) ∧ w.cell? ⟨b, o + k * 7 + 1, none⟩ = some (.bool ng) ∧ w.cell? ⟨b, o + k * 7 + 2, none⟩ = some (.slice la ln lc) ∧ w.cell? ⟨b, o + k * 7 + 3, none⟩ = some (.string tx) ∧
      w.cell? ⟨b, o + k * 7 + 4, none⟩ = some (.int .i64 nm) ∧ w.cell? ⟨b, o + k * 7 + 5, none⟩ = some (.slice ia im ic) ∧ w.cell? ⟨b, o + k * 7 + 6, none⟩ = some (.slice ta tn tc) := by
  obtain ⟨hl, h7⟩ := ht.lens
  have hn : css.length = n := by have h1 := hr.1; rw [flat_len h7] at h1; omega
  obtain ⟨kd, ng, la, ln, lc, tx, nm, ia, im, ic, ta, tn, tc, limbs, items, tail, dss, ess, hcs, htk, hroom, hrl, hri, hti, hrt, htt, hsz⟩ := TermsIn.at ht k (by omega)
  have hg := TermsIn.get ht k (by omega) (by omega)
  obtain ⟨_, e1⟩ := List.getElem?_eq_some_iff.1 hcs
  obtain ⟨_, e2⟩ := List.getElem?_eq_some_iff.1 htk
  rw [e1, e2] at hg
  obtain ⟨⟨b, o, sp⟩, hA, hs, _, _, hc⟩ := hr.2 (by omega)
  simp only at hs
  subst hs hA
  obtain ⟨g0, g1, g2, g3, g4, g5, g6⟩ := flat_cells h7 hcs
  exact ⟨b, o, kd, ng, la, ln, lc, tx, nm, ia, im, ic, ta, tn, tc, _, rfl, htk, hcs, hg, (hc _ _ g0).1, (hc _ _ g1).1, (hc _ _ g2).1, (hc _ _ g3).1, (hc _ _ g4).1, (hc _ _ g5).1, (hc _ _ g6).1⟩

set_option maxRecDepth 100000 in
theorem ref_skip_yes (r : Nat) (A : Option Addr) (c : Nat) (css : List (List Value)) (ts : List Tm) (B : Nat → Prop) (i : Nat) (w : World) (h : RefAt w r A c css ts B i) (hi : i < css.length) (hl : css.length ≤ 1048576) (hB : ¬ B r) :
    Calls Try.prog 15 #[.pointer (some ⟨r, 0, none⟩)] w fun e w' => e = .returned (.int .i64 0) ∧ RefAt w' r A c css ts B (i + 1) ∧ Keeps (fun k => k = r) w w' := by
  have H := hide h
  have c0 : w.cell? ⟨r, 0, none⟩ = some (.slice A css.length c) := h.blk.cell 0
  have c1 : w.cell? ⟨r, 1, none⟩ = some (.int .i64 i) := h.blk.cell 1
  have f1 : w.frozen? ⟨r, 1, none⟩ = false := h.blk.free 1
  have hz : (i : Int) < css.length := by omega
  have hz2 : (css.length : Int) ≤ 1048576 := by omega
  clear h
  go_enter Try.func15, Try.ntmps15
  go_wp2_with (go_quiet (fail))
  go_ret
  have hk : Keeps (fun k => k = r) w ((w.drewN nq).setCell ⟨r, 1, none⟩ (.int .i64 ((i : Int) + 1))) := ((Keeps.refl (fun k => k = r) w).drewN nq).setCell (p := ⟨r, 1, none⟩) (.inl rfl) _
  refine ⟨rfl, ⟨?_, H.out.row.keep hk (fun k hk e => H.out.sep (e ▸ hk)), TermsIn.keep hk (fun k hk e => hB (e ▸ hk)) _ _ H.out.ok⟩, hk⟩
  have hb : Blk (w.drewN nq) r 27 #[.slice A css.length c, .int .i64 i] := H.out.blk
  have := hb.put 1 (.int .i64 ((i : Int) + 1))
  simpa using this

set_option maxRecDepth 100000 in
theorem ref_skip_no (r : Nat) (A : Option Addr) (c : Nat) (css : List (List Value)) (ts : List Tm) (B : Nat → Prop) (i : Nat) (w : World) (h : RefAt w r A c css ts B i) (hi : css.length ≤ i) :
    Calls Try.prog 15 #[.pointer (some ⟨r, 0, none⟩)] w fun e w' => e = .returned (.int .i64 6) ∧ Keeps NoB w w' := by
  have c0 : w.cell? ⟨r, 0, none⟩ = some (.slice A css.length c) := h.blk.cell 0
  have c1 : w.cell? ⟨r, 1, none⟩ = some (.int .i64 i) := h.blk.cell 1
  have hz : (css.length : Int) ≤ i := by omega
  clear h
  go_enter Try.func15, Try.ntmps15
  go_wp2_with (go_quiet (fail))
  go_ret
  exact ⟨rfl, (Keeps.refl NoB w).drewN nq⟩

set_option maxRecDepth 100000 in
theorem ref_next_no (r : Nat) (A : Option Addr) (c : Nat) (css : List (List Value)) (ts : List Tm) (B : Nat → Prop) (i : Nat) (w : World) (h : RefAt w r A c css ts B i) (hi : css.length ≤ i) :
    Calls Try.prog 34 #[.pointer (some ⟨r, 0, none⟩)] w fun e w' => e = .returned (.tuple #[.agg zeroT, .bool false]) ∧ Keeps NoB w w' := by
  have HK := hide ((Keeps.refl NoB w).alloc (.cells #[.int .u8 0, .bool false, .slice none 0 0, .string { data := #[] }, .int .i64 0, .slice none 0 0, .slice none 0 0] 33))
  have h2 := h.fresh ((Keeps.refl NoB w).alloc (.cells #[.int .u8 0, .bool false, .slice none 0 0, .string { data := #[] }, .int .i64 0, .slice none 0 0, .slice none 0 0] 33))
  have hb := Blk.new w 33 #[.int .u8 0, .bool false, .slice none 0 0, .string { data := #[] }, .int .i64 0, .slice none 0 0, .slice none 0 0]
  have hz : (css.length : Int) ≤ i := by omega
  clear h
  go_enter Try.func34, Try.ntmps34
  go_wp2_with fail
  generalize w.alloc (.cells #[.int .u8 0, .bool false, .slice none 0 0, .string { data := #[] }, .int .i64 0, .slice none 0 0, .slice none 0 0] 33) = w1 at *
  have c0 : w1.cell? ⟨r, 0, none⟩ = some (.slice A css.length c) := h2.blk.cell 0
  have c1 : w1.cell? ⟨r, 1, none⟩ = some (.int .i64 i) := h2.blk.cell 1
  have z0 : w1.cell? ⟨w.heap.size, 0, none⟩ = some (.int .u8 0) := hb.cell 0
  have fz0 : w1.frozen? ⟨w.heap.size, 0, none⟩ = false := hb.free 0
  have z1 : w1.cell? ⟨w.heap.size, 1, none⟩ = some (.bool false) := hb.cell 1
  have fz1 : w1.frozen? ⟨w.heap.size, 1, none⟩ = false := hb.free 1
  have z2 : w1.cell? ⟨w.heap.size, 2, none⟩ = some (.slice none 0 0) := hb.cell 2
  have fz2 : w1.frozen? ⟨w.heap.size, 2, none⟩ = false := hb.free 2
  have z3 : w1.cell? ⟨w.heap.size, 3, none⟩ = some (.string { data := #[] }) := hb.cell 3
  have fz3 : w1.frozen? ⟨w.heap.size, 3, none⟩ = false := hb.free 3
  have z4 : w1.cell? ⟨w.heap.size, 4, none⟩ = some (.int .i64 0) := hb.cell 4
  have fz4 : w1.frozen? ⟨w.heap.size, 4, none⟩ = false := hb.free 4
  have z5 : w1.cell? ⟨w.heap.size, 5, none⟩ = some (.slice none 0 0) := hb.cell 5
  have fz5 : w1.frozen? ⟨w.heap.size, 5, none⟩ = false := hb.free 5
  have z6 : w1.cell? ⟨w.heap.size, 6, none⟩ = some (.slice none 0 0) := hb.cell 6
  have fz6 : w1.frozen? ⟨w.heap.size, 6, none⟩ = false := hb.free 6
  have HB := hide hb
  clear h2 hb
  go_wp2_with (go_quiet (fail))
  have hp := Blk.put7 (show Blk (w1.drewN nq) w.heap.size 33 #[.int .u8 0, .bool false, .slice none 0 0, .string { data := #[] }, .int .i64 0, .slice none 0 0, .slice none 0 0] from HB.out) (.int .u8 0) (.bool false) (.slice none 0 0) (.string { data := #[] }) (.int .i64 0) (.slice none 0 0) (.slice none 0 0)
  have hkp : Keeps NoB w ((((((((w1.drewN nq).setCell ⟨w.heap.size, 0, none⟩ (.int .u8 0)).setCell ⟨w.heap.size, 1, none⟩ (.bool false)).setCell ⟨w.heap.size, 2, none⟩ (.slice none 0 0)).setCell ⟨w.heap.size, 3, none⟩ (.string { data := #[] })).setCell ⟨w.heap.size, 4, none⟩ (.int .i64 0)).setCell ⟨w.heap.size, 5, none⟩ (.slice none 0 0)).setCell ⟨w.heap.size, 6, none⟩ (.slice none 0 0)) := ((((((((HK.out.drewN nq).setCell (p := ⟨w.heap.size, 0, none⟩) (.inr (Nat.le_refl _)) (.int .u8 0)).setCell (p := ⟨w.heap.size, 1, none⟩) (.inr (Nat.le_refl _)) (.bool false)).setCell (p := ⟨w.heap.size, 2, none⟩) (.inr (Nat.le_refl _)) (.slice none 0 0)).setCell (p := ⟨w.heap.size, 3, none⟩) (.inr (Nat.le_refl _)) (.string { data := #[] })).setCell (p := ⟨w.heap.size, 4, none⟩) (.inr (Nat.le_refl _)) (.int .i64 0)).setCell (p := ⟨w.heap.size, 5, none⟩) (.inr (Nat.le_refl _)) (.slice none 0 0)).setCell (p := ⟨w.heap.size, 6, none⟩) (.inr (Nat.le_refl _)) (.slice none 0 0))
  clear z0 z1 z2 z3 z4 z5 z6 fz0 fz1 fz2 fz3 fz4 fz5 fz6 c0 c1
  generalize ((((((((w1.drewN nq).setCell ⟨w.heap.size, 0, none⟩ (.int .u8 0)).setCell ⟨w.heap.size, 1, none⟩ (.bool false)).setCell ⟨w.heap.size, 2, none⟩ (.slice none 0 0)).setCell ⟨w.heap.size, 3, none⟩ (.string { data := #[] })).setCell ⟨w.heap.size, 4, none⟩ (.int .i64 0)).setCell ⟨w.heap.size, 5, none⟩ (.slice none 0 0)).setCell ⟨w.heap.size, 6, none⟩ (.slice none 0 0)) = w7 at *
  have d0 : w7.cell? ⟨w.heap.size, 0, none⟩ = some (.int .u8 0) := hp.cell 0
  have d1 : w7.cell? ⟨w.heap.size, 1, none⟩ = some (.bool false) := hp.cell 1
  have d2 : w7.cell? ⟨w.heap.size, 2, none⟩ = some (.slice none 0 0) := hp.cell 2
  have d3 : w7.cell? ⟨w.heap.size, 3, none⟩ = some (.string { data := #[] }) := hp.cell 3
  have d4 : w7.cell? ⟨w.heap.size, 4, none⟩ = some (.int .i64 0) := hp.cell 4
  have d5 : w7.cell? ⟨w.heap.size, 5, none⟩ = some (.slice none 0 0) := hp.cell 5
  have d6 : w7.cell? ⟨w.heap.size, 6, none⟩ = some (.slice none 0 0) := hp.cell 6
  refine bodyPost_ret (v := .tuple #[.agg #[.int .u8 0, .bool false, .slice none 0 0, .string { data := #[] }, .int .i64 0, .slice none 0 0, .slice none 0 0], .bool false]) (by simp [results, Try.results34, go_sem, d0, d1, d2, d3, d4, d5, d6]) rfl ?_
  exact ⟨rfl, hkp⟩

set_option maxRecDepth 100000 in
theorem ref_next_yes (r : Nat) (A : Option Addr) (c : Nat) (css : List (List Value)) (ts : List Tm) (t : Tm) (B : Nat → Prop) (i : Nat) (w : World) (h : RefAt w r A c css ts B i) (hi : i < css.length) (ht : ts[i]? = some t) (hl : css.length ≤ 1048576) :
    Calls Try.prog 34 #[.pointer (some ⟨r, 0, none⟩)] w fun e w' => ∃ kd ng la ln lc tx nm ia im ic ta tn tc, e = .returned (.tuple #[.agg #[.int .u8 kd, .bool ng, .slice la ln lc, .string tx, .int .i64 nm, .slice ia im ic, .slice ta tn tc], .bool true]) ∧ TermIn w' B false [.int .u8 kd, .bool ng, .slice la ln lc, .string tx, .int .i64 nm, .slice ia im ic, .slice ta tn tc] t ∧ css[i]? = some [.int .u8 kd, .bool ng, .slice la ln lc, .string tx, .int .i64 nm, .slice ia im ic, .slice ta tn tc] ∧ Keeps NoB w w' := by
  obtain ⟨b, o, kd, ng, la, ln, lc, tx, nm, ia, im, ic, ta, tn, tc, t', hA, ht', hcs, htt, f0, f1, f2, f3, f4, f5, f6⟩ := cells_at2 h.row.reads h.ok i hi
  subst hA
  obtain rfl : t' = t := Option.some.inj (ht'.symm.trans ht)
  have HCS := hide hcs; have HTT := hide htt
  clear ht' hcs htt
  have HK := hide ((Keeps.refl NoB w).alloc (.cells #[.int .u8 0, .bool false, .slice none 0 0, .string { data := #[] }, .int .i64 0, .slice none 0 0, .slice none 0 0] 33))
  have h2 := h.fresh ((Keeps.refl NoB w).alloc (.cells #[.int .u8 0, .bool false, .slice none 0 0, .string { data := #[] }, .int .i64 0, .slice none 0 0, .slice none 0 0] 33))
  have hb := Blk.new w 33 #[.int .u8 0, .bool false, .slice none 0 0, .string { data := #[] }, .int .i64 0, .slice none 0 0, .slice none 0 0]
  have hbn : r < w.heap.size := h.blk.lt
  have hgn : ∀ g, rowB (some ⟨b, o, none⟩) g → g < w.heap.size := fun g hg => h.row.lt hg
  have hz : (i : Int) < css.length := by omega
  have hz0 : (0 : Int) ≤ i := by omega
  clear h
  go_enter Try.func34, Try.ntmps34
  go_wp2_with fail
  generalize w.alloc (.cells #[.int .u8 0, .bool false, .slice none 0 0, .string { data := #[] }, .int .i64 0, .slice none 0 0, .slice none 0 0] 33) = w1 at *
  have c0 : w1.cell? ⟨r, 0, none⟩ = some (.slice (some ⟨b, o, none⟩) css.length c) := h2.blk.cell 0
  have c1 : w1.cell? ⟨r, 1, none⟩ = some (.int .i64 i) := h2.blk.cell 1
  have z0 : w1.cell? ⟨w.heap.size, 0, none⟩ = some (.int .u8 0) := hb.cell 0
  have fz0 : w1.frozen? ⟨w.heap.size, 0, none⟩ = false := hb.free 0
  have z1 : w1.cell? ⟨w.heap.size, 1, none⟩ = some (.bool false) := hb.cell 1
  have fz1 : w1.frozen? ⟨w.heap.size, 1, none⟩ = false := hb.free 1
  have z2 : w1.cell? ⟨w.heap.size, 2, none⟩ = some (.slice none 0 0) := hb.cell 2
  have fz2 : w1.frozen? ⟨w.heap.size, 2, none⟩ = false := hb.free 2
  have z3 : w1.cell? ⟨w.heap.size, 3, none⟩ = some (.string { data := #[] }) := hb.cell 3
  have fz3 : w1.frozen? ⟨w.heap.size, 3, none⟩ = false := hb.free 3
  have z4 : w1.cell? ⟨w.heap.size, 4, none⟩ = some (.int .i64 0) := hb.cell 4
  have fz4 : w1.frozen? ⟨w.heap.size, 4, none⟩ = false := hb.free 4
  have z5 : w1.cell? ⟨w.heap.size, 5, none⟩ = some (.slice none 0 0) := hb.cell 5
  have fz5 : w1.frozen? ⟨w.heap.size, 5, none⟩ = false := hb.free 5
  have z6 : w1.cell? ⟨w.heap.size, 6, none⟩ = some (.slice none 0 0) := hb.cell 6
  have fz6 : w1.frozen? ⟨w.heap.size, 6, none⟩ = false := hb.free 6
  have H2 := hide h2; have HB := hide hb; have HT := hide ht; have HGN := hide hgn
  clear h2 hb ht hgn
  have HC := hide (And.intro c0 (And.intro c1 (And.intro (HK.out.cell id f0) (And.intro (HK.out.cell id f1) (And.intro (HK.out.cell id f2) (And.intro (HK.out.cell id f3) (And.intro (HK.out.cell id f4) (And.intro (HK.out.cell id f5) (HK.out.cell id f6)))))))))
  go_wp2_with (go_quiet (fail))
  refine order_begin (fun W => Keeps NoB w1 W) (fun j => !(j == 10)) (by kernel_rfl) 12 rfl ?_
  have HS : Keeps NoB w1 (w1.drewN nq).drew := ((Keeps.refl NoB w1).drewN nq).drew
  clear c0 c1 f0 f1 f2 f3 f4 f5 f6 z0 z1 z2 z3 z4 z5 z6 fz0 fz1 fz2 fz3 fz4 fz5 fz6
  generalize (w1.drewN nq).drew = W0 at *
  refine order_pure (i := 0) rfl (by kernel_rfl) (fun _ _ _ h => h) (.inl ⟨rfl, fun _ => by go_simp; rfl⟩) ?_
  try simp only [Act.put, List.setIfInBounds_toArray, List.set_cons_succ, List.set_cons_zero]
  refine order_pure (i := 1) rfl (by kernel_rfl) (fun _ _ _ h => h) (.inl ⟨rfl, fun _ => by go_simp; rfl⟩) ?_
  try simp only [Act.put, List.setIfInBounds_toArray, List.set_cons_succ, List.set_cons_zero]
  refine order_pure (i := 2) rfl (by kernel_rfl) (fun _ _ _ h => h) (.inl ⟨rfl, fun _ => by go_simp; rfl⟩) ?_
  try simp only [Act.put, List.setIfInBounds_toArray, List.set_cons_succ, List.set_cons_zero]
  refine order_held (i := 3) rfl (by kernel_rfl) (fun _ _ _ h => h) (.inl ⟨rfl, fun W hW => by
    have q0 : W.cell? ⟨r, 0, none⟩ = some (.slice (some ⟨b, o, none⟩) css.length c) := hW.cell id HC.out.1
    go_simp; rfl⟩) HS ?_
  try simp only [Act.put, List.setIfInBounds_toArray, List.set_cons_succ, List.set_cons_zero]
  refine order_pure (i := 4) rfl (by kernel_rfl) (fun _ _ _ h => h) (.inl ⟨rfl, fun _ => by go_simp; rfl⟩) ?_
  try simp only [Act.put, List.setIfInBounds_toArray, List.set_cons_succ, List.set_cons_zero]
  refine order_pure (i := 5) rfl (by kernel_rfl) (fun _ _ _ h => h) (.inl ⟨rfl, fun _ => by go_simp; rfl⟩) ?_
  try simp only [Act.put, List.setIfInBounds_toArray, List.set_cons_succ, List.set_cons_zero]
  refine order_pure (i := 6) rfl (by kernel_rfl) (fun _ _ _ h => h) (.inl ⟨rfl, fun _ => by go_simp; rfl⟩) ?_
  try simp only [Act.put, List.setIfInBounds_toArray, List.set_cons_succ, List.set_cons_zero]
  refine order_held (i := 7) rfl (by kernel_rfl) (fun _ _ _ h => h) (.inl ⟨rfl, fun W hW => by
    have q0 : W.cell? ⟨r, 1, none⟩ = some (.int .i64 i) := hW.cell id HC.out.2.1
    go_simp; rfl⟩) HS ?_
  try simp only [Act.put, List.setIfInBounds_toArray, List.set_cons_succ, List.set_cons_zero]
  refine order_pure (i := 8) rfl (by kernel_rfl) (fun _ _ _ h => h) (.inl ⟨rfl, fun _ => by go_simp; rfl⟩) ?_
  try simp only [Act.put, List.setIfInBounds_toArray, List.set_cons_succ, List.set_cons_zero]
  refine order_held (i := 9) rfl (by kernel_rfl) (fun _ _ _ h => h) (.inl ⟨rfl, fun W hW => by
    have q0 : W.cell? ⟨b, o + i * 7, none⟩ = some (.int .u8 kd) := hW.cell id HC.out.2.2.1
    have q1 : W.cell? ⟨b, o + i * 7 + 1, none⟩ = some (.bool ng) := hW.cell id HC.out.2.2.2.1
    have q2 : W.cell? ⟨b, o + i * 7 + 2, none⟩ = some (.slice la ln lc) := hW.cell id HC.out.2.2.2.2.1
    have q3 : W.cell? ⟨b, o + i * 7 + 3, none⟩ = some (.string tx) := hW.cell id HC.out.2.2.2.2.2.1
    have q4 : W.cell? ⟨b, o + i * 7 + 4, none⟩ = some (.int .i64 nm) := hW.cell id HC.out.2.2.2.2.2.2.1
    have q5 : W.cell? ⟨b, o + i * 7 + 5, none⟩ = some (.slice ia im ic) := hW.cell id HC.out.2.2.2.2.2.2.2.1
    have q6 : W.cell? ⟨b, o + i * 7 + 6, none⟩ = some (.slice ta tn tc) := hW.cell id HC.out.2.2.2.2.2.2.2.2
    go_simp; rfl⟩) HS ?_
  try simp only [Act.put, List.setIfInBounds_toArray, List.set_cons_succ, List.set_cons_zero]
  have hB0 : Blk W0 w.heap.size 33 #[.int .u8 0, .bool false, .slice none 0 0, .string { data := #[] }, .int .i64 0, .slice none 0 0, .slice none 0 0] := HB.out.keep HS id
  have z0 : W0.cell? ⟨w.heap.size, 0, none⟩ = some (.int .u8 0) := hB0.cell 0
  have fz0 : W0.frozen? ⟨w.heap.size, 0, none⟩ = false := hB0.free 0
  have z1 : W0.cell? ⟨w.heap.size, 1, none⟩ = some (.bool false) := hB0.cell 1
  have fz1 : W0.frozen? ⟨w.heap.size, 1, none⟩ = false := hB0.free 1
  have z2 : W0.cell? ⟨w.heap.size, 2, none⟩ = some (.slice none 0 0) := hB0.cell 2
  have fz2 : W0.frozen? ⟨w.heap.size, 2, none⟩ = false := hB0.free 2
  have z3 : W0.cell? ⟨w.heap.size, 3, none⟩ = some (.string { data := #[] }) := hB0.cell 3
  have fz3 : W0.frozen? ⟨w.heap.size, 3, none⟩ = false := hB0.free 3
  have z4 : W0.cell? ⟨w.heap.size, 4, none⟩ = some (.int .i64 0) := hB0.cell 4
  have fz4 : W0.frozen? ⟨w.heap.size, 4, none⟩ = false := hB0.free 4
  have z5 : W0.cell? ⟨w.heap.size, 5, none⟩ = some (.slice none 0 0) := hB0.cell 5
  have fz5 : W0.frozen? ⟨w.heap.size, 5, none⟩ = false := hB0.free 5
  have z6 : W0.cell? ⟨w.heap.size, 6, none⟩ = some (.slice none 0 0) := hB0.cell 6
  have fz6 : W0.frozen? ⟨w.heap.size, 6, none⟩ = false := hB0.free 6
  have HB0 := hide hB0; clear hB0
  refine order_one (i := 10) rfl (by kernel_rfl) (fun K hK => ?_)
  go_simp
  refine hK _ _ (fun h => absurd h (by decide)) ?_
  clear hK
  try simp only [Act.put, List.setIfInBounds_toArray, List.set_cons_succ, List.set_cons_zero]
  clear z0 z1 z2 z3 z4 z5 z6 fz0 fz1 fz2 fz3 fz4 fz5 fz6
  have hp := Blk.put7 HB0.out (.int .u8 kd) (.bool ng) (.slice la ln lc) (.string tx) (.int .i64 nm) (.slice ia im ic) (.slice ta tn tc)
  have hkp : Keeps NoB w (((((((W0.setCell ⟨w.heap.size, 0, none⟩ (.int .u8 kd)).setCell ⟨w.heap.size, 1, none⟩ (.bool ng)).setCell ⟨w.heap.size, 2, none⟩ (.slice la ln lc)).setCell ⟨w.heap.size, 3, none⟩ (.string tx)).setCell ⟨w.heap.size, 4, none⟩ (.int .i64 nm)).setCell ⟨w.heap.size, 5, none⟩ (.slice ia im ic)).setCell ⟨w.heap.size, 6, none⟩ (.slice ta tn tc)) := ((((((((HK.out.trans' HS (fun _ _ => id) (fun _ _ => id) : Keeps NoB w W0).setCell (p := ⟨w.heap.size, 0, none⟩) (.inr (Nat.le_refl _)) (.int .u8 kd)).setCell (p := ⟨w.heap.size, 1, none⟩) (.inr (Nat.le_refl _)) (.bool ng)).setCell (p := ⟨w.heap.size, 2, none⟩) (.inr (Nat.le_refl _)) (.slice la ln lc)).setCell (p := ⟨w.heap.size, 3, none⟩) (.inr (Nat.le_refl _)) (.string tx)).setCell (p := ⟨w.heap.size, 4, none⟩) (.inr (Nat.le_refl _)) (.int .i64 nm)).setCell (p := ⟨w.heap.size, 5, none⟩) (.inr (Nat.le_refl _)) (.slice ia im ic)).setCell (p := ⟨w.heap.size, 6, none⟩) (.inr (Nat.le_refl _)) (.slice ta tn tc))
  generalize (((((((W0.setCell ⟨w.heap.size, 0, none⟩ (.int .u8 kd)).setCell ⟨w.heap.size, 1, none⟩ (.bool ng)).setCell ⟨w.heap.size, 2, none⟩ (.slice la ln lc)).setCell ⟨w.heap.size, 3, none⟩ (.string tx)).setCell ⟨w.heap.size, 4, none⟩ (.int .i64 nm)).setCell ⟨w.heap.size, 5, none⟩ (.slice ia im ic)).setCell ⟨w.heap.size, 6, none⟩ (.slice ta tn tc)) = w7 at *
  have HP := hide hp; have HKP := hide hkp; clear hp hkp HS
  refine order_pure (i := 11) rfl (by kernel_rfl) (fun _ _ _ h => h) (.inl ⟨rfl, fun _ => by go_simp; rfl⟩) ?_
  try simp only [Act.put, List.setIfInBounds_toArray, List.set_cons_succ, List.set_cons_zero]
  refine order_done (by kernel_rfl) ?_
  go_wp2
  have d0 : w7.cell? ⟨w.heap.size, 0, none⟩ = some (.int .u8 kd) := HP.out.cell 0
  have d1 : w7.cell? ⟨w.heap.size, 1, none⟩ = some (.bool ng) := HP.out.cell 1
  have d2 : w7.cell? ⟨w.heap.size, 2, none⟩ = some (.slice la ln lc) := HP.out.cell 2
  have d3 : w7.cell? ⟨w.heap.size, 3, none⟩ = some (.string tx) := HP.out.cell 3
  have d4 : w7.cell? ⟨w.heap.size, 4, none⟩ = some (.int .i64 nm) := HP.out.cell 4
  have d5 : w7.cell? ⟨w.heap.size, 5, none⟩ = some (.slice ia im ic) := HP.out.cell 5
  have d6 : w7.cell? ⟨w.heap.size, 6, none⟩ = some (.slice ta tn tc) := HP.out.cell 6
  refine bodyPost_ret (v := .tuple #[.agg #[.int .u8 kd, .bool ng, .slice la ln lc, .string tx, .int .i64 nm, .slice ia im ic, .slice ta tn tc], .bool true]) (by simp [results, Try.results34, go_sem, d0, d1, d2, d3, d4, d5, d6]) rfl ?_
  exact ⟨kd, ng, la, ln, lc, tx, nm, ia, im, ic, ta, tn, tc, rfl, TermIn.keep HKP.out (fun _ _ => id) _ _ HTT.out, HCS.out, HKP.out⟩
end Go.Proofs.Ytmkidkfofbnjgaa
