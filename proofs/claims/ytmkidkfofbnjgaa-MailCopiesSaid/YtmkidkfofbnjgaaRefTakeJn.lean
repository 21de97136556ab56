/- The document's box: Skip, Next. The document's box: Put. The document's box: Take. -/
import Derived.Test.YtmkidkfofbnjgaaSmallJn
import Derived.Test.YtmkidkfofbnjgaaSameTsJn
import Derived.Test.YtmkidkfofbnjgaaSeqJn
import Derived.Test.YtmkidkfofbnjgaaMoreJn
import Derived.Deep.QuietTactic
import Derived.BigQuiet
namespace Go.Proofs.Ytmkidkfofbnjgaa
open Go.RowKit

/-- The document's box: block r; its row; its terms, in blocks of B. -/
structure RefAt (w : World) (r : Nat) (A : Option Addr) (c : Nat) (css : List (List Value)) (ts : List Tm) (B : Nat → Prop) (i : Nat) : Prop where
  blk : Blk w r 27 #[.slice A css.length c, .int .i64 i]
  row : Slab w 33 7 A css.length c css.flatten
  ok : TermsIn w B false css ts

abbrev refFp (r : Nat) (A : Option Addr) : Nat → Prop := fun k => k = r ∨ rowB A k

theorem RefAt.sep {w : World} {r c i : Nat} {A : Option Addr} {css : List (List Value)} {ts : List Tm} {B : Nat → Prop} (h : RefAt w r A c css ts B i) : ¬ rowB A r := h.row.ne h.blk (by decide)

theorem RefAt.keep {w w' : World} {r c i : Nat} {A : Option Addr} {css : List (List Value)} {ts : List Tm} {B fp : Nat → Prop} (h : RefAt w r A c css ts B i) (hk : Keeps fp w w') (h1 : ∀ k, refFp r A k → ¬ fp k) (h2 : ∀ k, B k → ¬ fp k) : RefAt w' r A c css ts B i :=
  ⟨h.blk.keep hk (h1 r (.inl rfl)), h.row.keep hk (fun g hg => h1 g (.inr hg)), TermsIn.keep hk h2 _ _ h.ok⟩

theorem RefAt.fresh {w w' : World} {r c i : Nat} {A : Option Addr} {css : List (List Value)} {ts : List Tm} {B : Nat → Prop} (h : RefAt w r A c css ts B i) (hk : Keeps NoB w w') : RefAt w' r A c css ts B i := h.keep hk (fun _ _ => id) (fun _ _ => id)

/-- The cells of the k-th, where they lie, the reading's blocks and the terms' apart. -/
theorem cells_at2 {w : World} {B B' : Nat → Prop} {F F' : Bool} {ts : List Tm} {css : List (List Value)} {A : Option Addr} {n : Nat} (hr : Reads w B F 7 A n css.flatten) (ht : TermsIn w B' F' css ts) (k : Nat) (hk : k < n) :
    ∃ b o kd ng la ln lc tx nm ia im ic ta tn tc t, A = some ⟨b, o, none⟩ ∧ ts[k]? = some t ∧ css[k]? = some [.int .u8 kd, .bool ng, .slice la ln lc, .string tx, .int .i64 nm, .slice ia im ic, .slice ta tn tc] ∧ TermIn w B' F' [.int .u8 kd, .bool ng, .slice la ln lc, .string tx, .int .i64 nm, .slice ia im ic, .slice ta tn tc] t ∧
      w.cell? ⟨b, o + k * 7, none⟩ = some (.int .u8 kd) ∧ w.cell? ⟨b, o + k * 7 + 1, none⟩ = some (.bool ng) ∧ w.cell? ⟨b, o + k * 7 + 2, none⟩ = some (.slice la ln lc) ∧ w.cell? ⟨b, o + k * 7 + 3, none⟩ = some (.string tx) ∧
      w.cell? ⟨b, o + k * 7 + 4, none⟩ = some (.int .i64 nm) ∧ w.cell? ⟨b, o + k * 7 + 5, none⟩ = some (.slice ia im ic) ∧ w.cell? ⟨b, o + k * 7 + 6, none⟩ = some (.slice ta tn tc) := by
  obtain ⟨hl, h7⟩ := ht.lens
  have hn : css.length = n := by have h1 := hr.1; rw [flat_len h7] at h1; omega
  obtain ⟨kd, ng, la, ln, lc, tx, nm, ia, im, ic, ta, tn, tc, limbs, items, tail, dss, ess, hcs, htk, hroom, hrl, hri, hti, hrt, htt, hsz⟩ := TermsIn.at ht k (by omega)
  have hg := TermsIn.get ht k (by omega) (by omega)
  obtain ⟨_, e1⟩ := List.getElem?_eq_some_iff.1 hcs
  obtain ⟨_, e2⟩ := List.getElem?_eq_some_iff.1 htk
  rw [e1, e2] at hg
  obtain ⟨⟨b, o, sp⟩, hA, hs, _, _, hc⟩ := hr.2 (by omega)
  simp only at hs
  subst hs hA
  obtain ⟨g0, g1, g2, g3, g4, g5, g6⟩ := flat_cells h7 hcs
  exact ⟨b, o, kd, ng, la, ln, lc, tx, nm, ia, im, ic, ta, tn, tc, _, rfl, htk, hcs, hg, (hc _ _ g0).1, (hc _ _ g1).1, (hc _ _ g2).1, (hc _ _ g3).1, (hc _ _ g4).1, (hc _ _ g5).1, (hc _ _ g6).1⟩

set_option maxRecDepth 100000 in
theorem ref_skip_yes (r : Nat) (A : Option Addr) (c : Nat) (css : List (List Value)) (ts : List Tm) (B : Nat → Prop) (i : Nat) (w : World) (h : RefAt w r A c css ts B i) (hi : i < css.length) (hl : css.length ≤ 1048576) (hB : ¬ B r) :
    Calls Try.prog 15 #[.pointer (some ⟨r, 0, none⟩)] w fun e w' => e = .returned (.int .i64 0) ∧ RefAt w' r A c css ts B (i + 1) ∧ Keeps (fun k => k = r) w w' := by
  have H := hide h
  have c0 : w.cell? ⟨r, 0, none⟩ = some (.slice A css.length c) := h.blk.cell 0
  have c1 : w.cell? ⟨r, 1, none⟩ = some (.int .i64 i) := h.blk.cell 1
  have f1 : w.frozen? ⟨r, 1, none⟩ = false := h.blk.free 1
  have hz : (i : Int) < css.length := by omega
  have hz2 : (css.length : Int) ≤ 1048576 := by omega
  clear h
  go_enter Try.func15, Try.ntmps15
  go_wp2_with (go_quiet (fail))
  go_ret
  have hk : Keeps (fun k => k = r) w ((w.drewN nq).setCell ⟨r, 1, none⟩ (.int .i64 ((i : Int) + 1))) := ((Keeps.refl (fun k => k = r) w).drewN nq).setCell (p := ⟨r, 1, none⟩) (.inl rfl) _
  refine ⟨rfl, ⟨?_, H.out.row.keep hk (fun k hk e => H.out.sep (e ▸ hk)), TermsIn.keep hk (fun k hk e => hB (e ▸ hk)) _ _ H.out.ok⟩, hk⟩
  have hb : Blk (w.drewN nq) r 27 #[.slice A css.length c, .int .i64 i] := H.out.blk
  have := hb.put 1 (.int .i64 ((i : Int) + 1))
  simpa using this

set_option maxRecDepth 100000 in
theorem ref_skip_no (r : Nat) (A : Option Addr) (c : Nat) (css : List (List Value)) (ts : List Tm) (B : Nat → Prop) (i : Nat) (w : World) (h : RefAt w r A c css ts B i) (hi : css.length ≤ i) :
    Calls Try.prog 15 #[.pointer (some ⟨r, 0, none⟩)] w fun e w' => e = .returned (.int .i64 6) ∧ Keeps NoB w w' := by
  have c0 : w.cell? ⟨r, 0, none⟩ = some (.slice A css.length c) := h.blk.cell 0
  have c1 : w.cell? ⟨r, 1, none⟩ = some (.int .i64 i) := h.blk.cell 1
  have hz : (css.length : Int) ≤ i := by omega
  clear h
  go_enter Try.func15, Try.ntmps15
  go_wp2_with (go_quiet (fail))
  go_ret
  exact ⟨rfl, (Keeps.refl NoB w).drewN nq⟩

set_option maxRecDepth 100000 in
theorem ref_next_no (r : Nat) (A : Option Addr) (c : Nat) (css : List (List Value)) (ts : List Tm) (B : Nat → Prop) (i : Nat) (w : World) (h : RefAt w r A c css ts B i) (hi : css.length ≤ i) :
    Calls Try.prog 34 #[.pointer (some ⟨r, 0, none⟩)] w fun e w' => e = .returned (.tuple #[.agg zeroT, .bool false]) ∧ Keeps NoB w w' := by
  have HK := hide ((Keeps.refl NoB w).alloc (.cells #[.int .u8 0, .bool false, .slice none 0 0, .string { data := #[] }, .int .i64 0, .slice none 0 0, .slice none 0 0] 33))
  have h2 := h.fresh ((Keeps.refl NoB w).alloc (.cells #[.int .u8 0, .bool false, .slice none 0 0, .string { data := #[] }, .int .i64 0, .slice none 0 0, .slice none 0 0] 33))
  have hb := Blk.new w 33 #[.int .u8 0, .bool false, .slice none 0 0, .string { data := #[] }, .int .i64 0, .slice none 0 0, .slice none 0 0]
  have hz : (css.length : Int) ≤ i := by omega
  clear h
  go_enter Try.func34, Try.ntmps34
  go_wp2_with fail
  generalize w.alloc (.cells #[.int .u8 0, .bool false, .slice none 0 0, .string { data := #[] }, .int .i64 0, .slice none 0 0, .slice none 0 0] 33) = w1 at *
  have c0 : w1.cell? ⟨r, 0, none⟩ = some (.slice A css.length c) := h2.blk.cell 0
  have c1 : w1.cell? ⟨r, 1, none⟩ = some (.int .i64 i) := h2.blk.cell 1
  have z0 : w1.cell? ⟨w.heap.size, 0, none⟩ = some (.int .u8 0) := hb.cell 0
  have fz0 : w1.frozen? ⟨w.heap.size, 0, none⟩ = false := hb.free 0
  have z1 : w1.cell? ⟨w.heap.size, 1, none⟩ = some (.bool false) := hb.cell 1
  have fz1 : w1.frozen? ⟨w.heap.size, 1, none⟩ = false := hb.free 1
  have z2 : w1.cell? ⟨w.heap.size, 2, none⟩ = some (.slice none 0 0) := hb.cell 2
  have fz2 : w1.frozen? ⟨w.heap.size, 2, none⟩ = false := hb.free 2
  have z3 : w1.cell? ⟨w.heap.size, 3, none⟩ = some (.string { data := #[] }) := hb.cell 3
  have fz3 : w1.frozen? ⟨w.heap.size, 3, none⟩ = false := hb.free 3
  have z4 : w1.cell? ⟨w.heap.size, 4, none⟩ = some (.int .i64 0) := hb.cell 4
  have fz4 : w1.frozen? ⟨w.heap.size, 4, none⟩ = false := hb.free 4
  have z5 : w1.cell? ⟨w.heap.size, 5, none⟩ = some (.slice none 0 0) := hb.cell 5
  have fz5 : w1.frozen? ⟨w.heap.size, 5, none⟩ = false := hb.free 5
  have z6 : w1.cell? ⟨w.heap.size, 6, none⟩ = some (.slice none 0 0) := hb.cell 6
  have fz6 : w1.frozen? ⟨w.heap.size, 6, none⟩ = false := hb.free 6
  have HB := hide hb
  clear h2 hb
  go_wp2_with (go_quiet (fail))
  have hp := Blk.put7 (show Blk (w1.drewN nq) w.heap.size 33 #[.int .u8 0, .bool false, .slice none 0 0, .string { data := #[] }, .int .i64 0, .slice none 0 0, .slice none 0 0] from HB.out) (.int .u8 0) (.bool false) (.slice none 0 0) (.string { data := #[] }) (.int .i64 0) (.slice none 0 0) (.slice none 0 0)
  have hkp : Keeps NoB w ((((((((w1.drewN nq).setCell ⟨w.heap.size, 0, none⟩ (.int .u8 0)).setCell ⟨w.heap.size, 1, none⟩ (.bool false)).setCell ⟨w.heap.size, 2, none⟩ (.slice none 0 0)).setCell ⟨w.heap.size, 3, none⟩ (.string { data := #[] })).setCell ⟨w.heap.size, 4, none⟩ (.int .i64 0)).setCell ⟨w.heap.size, 5, none⟩ (.slice none 0 0)).setCell ⟨w.heap.size, 6, none⟩ (.slice none 0 0)) := ((((((((HK.out.drewN nq).setCell (p := ⟨w.heap.size, 0, none⟩) (.inr (Nat.le_refl _)) (.int .u8 0)).setCell (p := ⟨w.heap.size, 1, none⟩) (.inr (Nat.le_refl _)) (.bool false)).setCell (p := ⟨w.heap.size, 2, none⟩) (.inr (Nat.le_refl _)) (.slice none 0 0)).setCell (p := ⟨w.heap.size, 3, none⟩) (.inr (Nat.le_refl _)) (.string { data := #[] })).setCell (p := ⟨w.heap.size, 4, none⟩) (.inr (Nat.le_refl _)) (.int .i64 0)).setCell (p := ⟨w.heap.size, 5, none⟩) (.inr (Nat.le_refl _)) (.slice none 0 0)).setCell (p := ⟨w.heap.size, 6, none⟩) (.inr (Nat.le_refl _)) (.slice none 0 0))
  clear z0 z1 z2 z3 z4 z5 z6 fz0 fz1 fz2 fz3 fz4 fz5 fz6 c0 c1
  generalize ((((((((w1.drewN nq).setCell ⟨w.heap.size, 0, none⟩ (.int .u8 0)).setCell ⟨w.heap.size, 1, none⟩ (.bool false)).setCell ⟨w.heap.size, 2, none⟩ (.slice none 0 0)).setCell ⟨w.heap.size, 3, none⟩ (.string { data := #[] })).setCell ⟨w.heap.size, 4, none⟩ (.int .i64 0)).setCell ⟨w.heap.size, 5, none⟩ (.slice none 0 0)).setCell ⟨w.heap.size, 6, none⟩ (.slice none 0 0)) = w7 at *
  have d0 : w7.cell? ⟨w.heap.size, 0, none⟩ = some (.int .u8 0) := hp.cell 0
  have d1 : w7.cell? ⟨w.heap.size, 1, none⟩ = some (.bool false) := hp.cell 1
  have d2 : w7.cell? ⟨w.heap.size, 2, none⟩ = some (.slice none 0 0) := hp.cell 2
  have d3 : w7.cell? ⟨w.heap.size, 3, none⟩ = some (.string { data := #[] }) := hp.cell 3
  have d4 : w7.cell? ⟨w.heap.size, 4, none⟩ = some (.int .i64 0) := hp.cell 4
  have d5 : w7.cell? ⟨w.heap.size, 5, none⟩ = some (.slice none 0 0) := hp.cell 5
  have d6 : w7.cell? ⟨w.heap.size, 6, none⟩ = some (.slice none 0 0) := hp.cell 6
  refine bodyPost_ret (v := .tuple #[.agg #[.int .u8 0, .bool false, .slice none 0 0, .string { data := #[] }, .int .i64 0, .slice none 0 0, .slice none 0 0], .bool false]) (by simp [results, Try.results34, go_sem, d0, d1, d2, d3, d4, d5, d6]) rfl ?_
  exact ⟨rfl, hkp⟩

set_option maxRecDepth 100000 in
theorem ref_next_yes (r : Nat) (A : Option Addr) (c : Nat) (css : List (List Value)) (ts : List Tm) (t : Tm) (B : Nat → Prop) (i : Nat) (w : World) (h : RefAt w r A c css ts B i) (hi : i < css.length) (ht : ts[i]? = some t) (hl : css.length ≤ 1048576) :
    Calls Try.prog 34 #[.pointer (some ⟨r, 0, none⟩)] w fun e w' => ∃ kd ng la ln lc tx nm ia im ic ta tn tc, e = .returned (.tuple #[.agg #[.int .u8 kd, .bool ng, .slice la ln lc, .string tx, .int .i64 nm, .slice ia im ic, .slice ta tn tc], .bool true]) ∧ TermIn w' B false [.int .u8 kd, .bool ng, .slice la ln lc, .string tx, .int .i64 nm, .slice ia im ic, .slice ta tn tc] t ∧ css[i]? = some [.int .u8 kd, .bool ng, .slice la ln lc, .string tx, .int .i64 nm, .slice ia im ic, .slice ta tn tc] ∧ Keeps NoB w w' := by
  obtain ⟨b, o, kd, ng, la, ln, lc, tx, nm, ia, im, ic, ta, tn, tc, t', hA, ht', hcs, htt, f0, f1, f2, f3, f4, f5, f6⟩ := cells_at2 h.row.reads h.ok i hi
  subst hA
  obtain rfl : t' = t := Option.some.inj (ht'.symm.trans ht)
  have HCS := hide hcs; have HTT := hide htt
  clear ht' hcs htt
  have HK := hide ((Keeps.refl NoB w).alloc (.cells #[.int .u8 0, .bool false, .slice none 0 0, .string { data := #[] }, .int .i64 0, .slice none 0 0, .slice none 0 0] 33))
  have h2 := h.fresh ((Keeps.refl NoB w).alloc (.cells #[.int .u8 0, .bool false, .slice none 0 0, .string { data := #[] }, .int .i64 0, .slice none 0 0, .slice none 0 0] 33))
  have hb := Blk.new w 33 #[.int .u8 0, .bool false, .slice none 0 0, .string { data := #[] }, .int .i64 0, .slice none 0 0, .slice none 0 0]
  have hbn : r < w.heap.size := h.blk.lt
  have hgn : ∀ g, rowB (some ⟨b, o, none⟩) g → g < w.heap.size := fun g hg => h.row.lt hg
  have hz : (i : Int) < css.length := by omega
  have hz0 : (0 : Int) ≤ i := by omega
  clear h
  go_enter Try.func34, Try.ntmps34
  go_wp2_with fail
  generalize w.alloc (.cells #[.int .u8 0, .bool false, .slice none 0 0, .string { data := #[] }, .int .i64 0, .slice none 0 0, .slice none 0 0] 33) = w1 at *
  have c0 : w1.cell? ⟨r, 0, none⟩ = some (.slice (some ⟨b, o, none⟩) css.length c) := h2.blk.cell 0
  have c1 : w1.cell? ⟨r, 1, none⟩ = some (.int .i64 i) := h2.blk.cell 1
  have z0 : w1.cell? ⟨w.heap.size, 0, none⟩ = some (.int .u8 0) := hb.cell 0
  have fz0 : w1.frozen? ⟨w.heap.size, 0, none⟩ = false := hb.free 0
  have z1 : w1.cell? ⟨w.heap.size, 1, none⟩ = some (.bool false) := hb.cell 1
  have fz1 : w1.frozen? ⟨w.heap.size, 1, none⟩ = false := hb.free 1
  have z2 : w1.cell? ⟨w.heap.size, 2, none⟩ = some (.slice none 0 0) := hb.cell 2
  have fz2 : w1.frozen? ⟨w.heap.size, 2, none⟩ = false := hb.free 2
  have z3 : w1.cell? ⟨w.heap.size, 3, none⟩ = some (.string { data := #[] }) := hb.cell 3
  have fz3 : w1.frozen? ⟨w.heap.size, 3, none⟩ = false := hb.free 3
  have z4 : w1.cell? ⟨w.heap.size, 4, none⟩ = some (.int .i64 0) := hb.cell 4
  have fz4 : w1.frozen? ⟨w.heap.size, 4, none⟩ = false := hb.free 4
  have z5 : w1.cell? ⟨w.heap.size, 5, none⟩ = some (.slice none 0 0) := hb.cell 5
  have fz5 : w1.frozen? ⟨w.heap.size, 5, none⟩ = false := hb.free 5
  have z6 : w1.cell? ⟨w.heap.size, 6, none⟩ = some (.slice none 0 0) := hb.cell 6
  have fz6 : w1.frozen? ⟨w.heap.size, 6, none⟩ = false := hb.free 6
  have H2 := hide h2; have HB := hide hb; have HT := hide ht; have HGN := hide hgn
  clear h2 hb ht hgn
  have HC := hide (And.intro c0 (And.intro c1 (And.intro (HK.out.cell id f0) (And.intro (HK.out.cell id f1) (And.intro (HK.out.cell id f2) (And.intro (HK.out.cell id f3) (And.intro (HK.out.cell id f4) (And.intro (HK.out.cell id f5) (HK.out.cell id f6)))))))))
  go_wp2_with (go_quiet (fail))
  refine order_begin (fun W => Keeps NoB w1 W) (fun j => !(j == 10)) (by kernel_rfl) 12 rfl ?_
  have HS : Keeps NoB w1 (w1.drewN nq).drew := ((Keeps.refl NoB w1).drewN nq).drew
  clear c0 c1 f0 f1 f2 f3 f4 f5 f6 z0 z1 z2 z3 z4 z5 z6 fz0 fz1 fz2 fz3 fz4 fz5 fz6
  generalize (w1.drewN nq).drew = W0 at *
  refine order_pure (i := 0) rfl (by kernel_rfl) (fun _ _ _ h => h) (.inl ⟨rfl, fun _ => by go_simp; rfl⟩) ?_
  try simp only [Act.put, List.setIfInBounds_toArray, List.set_cons_succ, List.set_cons_zero]
  refine order_pure (i := 1) rfl (by kernel_rfl) (fun _ _ _ h => h) (.inl ⟨rfl, fun _ => by go_simp; rfl⟩) ?_
  try simp only [Act.put, List.setIfInBounds_toArray, List.set_cons_succ, List.set_cons_zero]
  refine order_pure (i := 2) rfl (by kernel_rfl) (fun _ _ _ h => h) (.inl ⟨rfl, fun _ => by go_simp; rfl⟩) ?_
  try simp only [Act.put, List.setIfInBounds_toArray, List.set_cons_succ, List.set_cons_zero]
  refine order_held (i := 3) rfl (by kernel_rfl) (fun _ _ _ h => h) (.inl ⟨rfl, fun W hW => by
    have q0 : W.cell? ⟨r, 0, none⟩ = some (.slice (some ⟨b, o, none⟩) css.length c) := hW.cell id HC.out.1
    go_simp; rfl⟩) HS ?_
  try simp only [Act.put, List.setIfInBounds_toArray, List.set_cons_succ, List.set_cons_zero]
  refine order_pure (i := 4) rfl (by kernel_rfl) (fun _ _ _ h => h) (.inl ⟨rfl, fun _ => by go_simp; rfl⟩) ?_
  try simp only [Act.put, List.setIfInBounds_toArray, List.set_cons_succ, List.set_cons_zero]
  refine order_pure (i := 5) rfl (by kernel_rfl) (fun _ _ _ h => h) (.inl ⟨rfl, fun _ => by go_simp; rfl⟩) ?_
  try simp only [Act.put, List.setIfInBounds_toArray, List.set_cons_succ, List.set_cons_zero]
  refine order_pure (i := 6) rfl (by kernel_rfl) (fun _ _ _ h => h) (.inl ⟨rfl, fun _ => by go_simp; rfl⟩) ?_
  try simp only [Act.put, List.setIfInBounds_toArray, List.set_cons_succ, List.set_cons_zero]
  refine order_held (i := 7) rfl (by kernel_rfl) (fun _ _ _ h => h) (.inl ⟨rfl, fun W hW => by
    have q0 : W.cell? ⟨r, 1, none⟩ = some (.int .i64 i) := hW.cell id HC.out.2.1
    go_simp; rfl⟩) HS ?_
  try simp only [Act.put, List.setIfInBounds_toArray, List.set_cons_succ, List.set_cons_zero]
  refine order_pure (i := 8) rfl (by kernel_rfl) (fun _ _ _ h => h) (.inl ⟨rfl, fun _ => by go_simp; rfl⟩) ?_
  try simp only [Act.put, List.setIfInBounds_toArray, List.set_cons_succ, List.set_cons_zero]
  refine order_held (i := 9) rfl (by kernel_rfl) (fun _ _ _ h => h) (.inl ⟨rfl, fun W hW => by
    have q0 : W.cell? ⟨b, o + i * 7, none⟩ = some (.int .u8 kd) := hW.cell id HC.out.2.2.1
    have q1 : W.cell? ⟨b, o + i * 7 + 1, none⟩ = some (.bool ng) := hW.cell id HC.out.2.2.2.1
    have q2 : W.cell? ⟨b, o + i * 7 + 2, none⟩ = some (.slice la ln lc) := hW.cell id HC.out.2.2.2.2.1
    have q3 : W.cell? ⟨b, o + i * 7 + 3, none⟩ = some (.string tx) := hW.cell id HC.out.2.2.2.2.2.1
    have q4 : W.cell? ⟨b, o + i * 7 + 4, none⟩ = some (.int .i64 nm) := hW.cell id HC.out.2.2.2.2.2.2.1
    have q5 : W.cell? ⟨b, o + i * 7 + 5, none⟩ = some (.slice ia im ic) := hW.cell id HC.out.2.2.2.2.2.2.2.1
    have q6 : W.cell? ⟨b, o + i * 7 + 6, none⟩ = some (.slice ta tn tc) := hW.cell id HC.out.2.2.2.2.2.2.2.2
    go_simp; rfl⟩) HS ?_
  try simp only [Act.put, List.setIfInBounds_toArray, List.set_cons_succ, List.set_cons_zero]
  have hB0 : Blk W0 w.heap.size 33 #[.int .u8 0, .bool false, .slice none 0 0, .string { data := #[] }, .int .i64 0, .slice none 0 0, .slice none 0 0] := HB.out.keep HS id
  have z0 : W0.cell? ⟨w.heap.size, 0, none⟩ = some (.int .u8 0) := hB0.cell 0
  have fz0 : W0.frozen? ⟨w.heap.size, 0, none⟩ = false := hB0.free 0
  have z1 : W0.cell? ⟨w.heap.size, 1, none⟩ = some (.bool false) := hB0.cell 1
  have fz1 : W0.frozen? ⟨w.heap.size, 1, none⟩ = false := hB0.free 1
  have z2 : W0.cell? ⟨w.heap.size, 2, none⟩ = some (.slice none 0 0) := hB0.cell 2
  have fz2 : W0.frozen? ⟨w.heap.size, 2, none⟩ = false := hB0.free 2
  have z3 : W0.cell? ⟨w.heap.size, 3, none⟩ = some (.string { data := #[] }) := hB0.cell 3
  have fz3 : W0.frozen? ⟨w.heap.size, 3, none⟩ = false := hB0.free 3
  have z4 : W0.cell? ⟨w.heap.size, 4, none⟩ = some (.int .i64 0) := hB0.cell 4
  have fz4 : W0.frozen? ⟨w.heap.size, 4, none⟩ = false := hB0.free 4
  have z5 : W0.cell? ⟨w.heap.size, 5, none⟩ = some (.slice none 0 0) := hB0.cell 5
  have fz5 : W0.frozen? ⟨w.heap.size, 5, none⟩ = false := hB0.free 5
  have z6 : W0.cell? ⟨w.heap.size, 6, none⟩ = some (.slice none 0 0) := hB0.cell 6
  have fz6 : W0.frozen? ⟨w.heap.size, 6, none⟩ = false := hB0.free 6
  have HB0 := hide hB0; clear hB0
  refine order_one (i := 10) rfl (by kernel_rfl) (fun K hK => ?_)
  go_simp
  refine hK _ _ (fun h => absurd h (by decide)) ?_
  clear hK
  try simp only [Act.put, List.setIfInBounds_toArray, List.set_cons_succ, List.set_cons_zero]
  clear z0 z1 z2 z3 z4 z5 z6 fz0 fz1 fz2 fz3 fz4 fz5 fz6
  have hp := Blk.put7 HB0.out (.int .u8 kd) (.bool ng) (.slice la ln lc) (.string tx) (.int .i64 nm) (.slice ia im ic) (.slice ta tn tc)
  have hkp : Keeps NoB w (((((((W0.setCell ⟨w.heap.size, 0, none⟩ (.int .u8 kd)).setCell ⟨w.heap.size, 1, none⟩ (.bool ng)).setCell ⟨w.heap.size, 2, none⟩ (.slice la ln lc)).setCell ⟨w.heap.size, 3, none⟩ (.string tx)).setCell ⟨w.heap.size, 4, none⟩ (.int .i64 nm)).setCell ⟨w.heap.size, 5, none⟩ (.slice ia im ic)).setCell ⟨w.heap.size, 6, none⟩ (.slice ta tn tc)) := ((((((((HK.out.trans' HS (fun _ _ => id) (fun _ _ => id) : Keeps NoB w W0).setCell (p := ⟨w.heap.size, 0, none⟩) (.inr (Nat.le_refl _)) (.int .u8 kd)).setCell (p := ⟨w.heap.size, 1, none⟩) (.inr (Nat.le_refl _)) (.bool ng)).setCell (p := ⟨w.heap.size, 2, none⟩) (.inr (Nat.le_refl _)) (.slice la ln lc)).setCell (p := ⟨w.heap.size, 3, none⟩) (.inr (Nat.le_refl _)) (.string tx)).setCell (p := ⟨w.heap.size, 4, none⟩) (.inr (Nat.le_refl _)) (.int .i64 nm)).setCell (p := ⟨w.heap.size, 5, none⟩) (.inr (Nat.le_refl _)) (.slice ia im ic)).setCell (p := ⟨w.heap.size, 6, none⟩) (.inr (Nat.le_refl _)) (.slice ta tn tc))
  generalize (((((((W0.setCell ⟨w.heap.size, 0, none⟩ (.int .u8 kd)).setCell ⟨w.heap.size, 1, none⟩ (.bool ng)).setCell ⟨w.heap.size, 2, none⟩ (.slice la ln lc)).setCell ⟨w.heap.size, 3, none⟩ (.string tx)).setCell ⟨w.heap.size, 4, none⟩ (.int .i64 nm)).setCell ⟨w.heap.size, 5, none⟩ (.slice ia im ic)).setCell ⟨w.heap.size, 6, none⟩ (.slice ta tn tc)) = w7 at *
  have HP := hide hp; have HKP := hide hkp; clear hp hkp HS
  refine order_pure (i := 11) rfl (by kernel_rfl) (fun _ _ _ h => h) (.inl ⟨rfl, fun _ => by go_simp; rfl⟩) ?_
  try simp only [Act.put, List.setIfInBounds_toArray, List.set_cons_succ, List.set_cons_zero]
  refine order_done (by kernel_rfl) ?_
  go_wp2
  have d0 : w7.cell? ⟨w.heap.size, 0, none⟩ = some (.int .u8 kd) := HP.out.cell 0
  have d1 : w7.cell? ⟨w.heap.size, 1, none⟩ = some (.bool ng) := HP.out.cell 1
  have d2 : w7.cell? ⟨w.heap.size, 2, none⟩ = some (.slice la ln lc) := HP.out.cell 2
  have d3 : w7.cell? ⟨w.heap.size, 3, none⟩ = some (.string tx) := HP.out.cell 3
  have d4 : w7.cell? ⟨w.heap.size, 4, none⟩ = some (.int .i64 nm) := HP.out.cell 4
  have d5 : w7.cell? ⟨w.heap.size, 5, none⟩ = some (.slice ia im ic) := HP.out.cell 5
  have d6 : w7.cell? ⟨w.heap.size, 6, none⟩ = some (.slice ta tn tc) := HP.out.cell 6
  refine bodyPost_ret (v := .tuple #[.agg #[.int .u8 kd, .bool ng, .slice la ln lc, .string tx, .int .i64 nm, .slice ia im ic, .slice ta tn tc], .bool true]) (by simp [results, Try.results34, go_sem, d0, d1, d2, d3, d4, d5, d6]) rfl ?_
  exact ⟨kd, ng, la, ln, lc, tx, nm, ia, im, ic, ta, tn, tc, rfl, TermIn.keep HKP.out (fun _ _ => id) _ _ HTT.out, HCS.out, HKP.out⟩
end Go.Proofs.Ytmkidkfofbnjgaa
namespace Go.Proofs.Ytmkidkfofbnjgaa
open Go.RowKit

/-- One term in a block of its own, as a row of one. -/
theorem one_reads33 {w : World} {vb : Nat} {v0 v1 v2 v3 v4 v5 v6 : Value} (hv : Blk w vb 33 #[v0, v1, v2, v3, v4, v5, v6]) : Reads w (fun _ => True) true 7 (some ⟨vb, 0, none⟩) 1 [v0, v1, v2, v3, v4, v5, v6] := by
  refine ⟨rfl, fun _ => ⟨_, rfl, rfl, trivial, hv.lt, fun j u hu => ⟨?_, fun _ => hv.free _⟩⟩⟩
  rw [hv.cell, ← hu]; simp

/-- The last term's cells. -/
theorem last_cells {w : World} {g o c n m : Nat} {front : List Value} {v0 v1 v2 v3 v4 v5 v6 : Value} (h : Slab w 33 7 (some ⟨g, o, none⟩) m c (front ++ [v0, v1, v2, v3, v4, v5, v6])) (hf : front.length = n * 7) (hm : m = n + 1) (j : Nat) (u : Value) (hu : [v0, v1, v2, v3, v4, v5, v6][j]? = some u) :
    w.cell? ⟨g, o + n * 7 + j, none⟩ = some u ∧ w.frozen? ⟨g, o + n * 7 + j, none⟩ = false := by
  obtain ⟨ad, hA, hs, _, _, hc⟩ := h.reads.2 (by omega)
  injection hA with hA; subst hA
  have := hc (n * 7 + j) u (by rw [List.getElem?_append_right (by omega), hf]; simpa using hu)
  exact ⟨by rw [Nat.add_assoc]; exact this.1, by rw [Nat.add_assoc]; exact this.2 rfl⟩

def RefPut (w : World) (r : Nat) (A : Option Addr) (css : List (List Value)) (ts : List Tm) (B : Nat → Prop) (i : Nat) (cs : List Value) (t : Tm) (e : Ending) (w' : World) : Prop :=
  ∃ A' c', e = .returned (.int .i64 0) ∧ RefAt w' r A' c' (css ++ [cs]) (ts ++ [t]) B i ∧ Keeps (refFp r A) w w' ∧ Moved w A A'

theorem ref_put_end {w w2 w3 w5 : World} {r c c3 i n : Nat} {A A3 : Option Addr} {css : List (List Value)} {ts : List Tm} {B : Nat → Prop} {cs : List Value} {t : Tm} {F : Bool} (h : RefAt w r A c css ts B i) (hB : ∀ k, B k → ¬ refFp r A k)
    (ht : TermIn w B F cs t) (hk2 : Keeps NoB w w2) (hk3 : Keeps (rowB A) w2 w3) (hm : Moved w2 A A3) (hn : n = css.length + 1)
    (hk5 : Keeps (refFp r A3) w3 w5) (hs5 : Slab w5 33 7 A3 n c3 (css.flatten ++ cs)) (hblk : Blk w5 r 27 #[.slice A3 n c3, .int .i64 i]) :
    RefPut w r A css ts B i cs t (.returned (.int .i64 0)) w5 := by
  subst hn
  have hs2 := hk2.size
  have hk : Keeps (refFp r A) w w5 := by
    refine (hk2.trans' hk3 (fun _ _ h => h.elim) (fun _ _ h => .inr h) : Keeps (refFp r A) w w3).trans' hk5 (fun _ _ => id) ?_
    rintro k hlt (rfl | hg)
    · exact .inl rfl
    · exact .inr ((hm k hg).elim id (fun e => by omega))
  refine ⟨A3, c3, rfl, ⟨?_, ?_, ?_⟩, hk, fun k hk => (hm k hk).imp id (fun e => Nat.le_trans hs2 e)⟩
  · rw [List.length_append]; exact hblk
  · rw [List.length_append, List.flatten_append]; simpa using hs5
  · exact TermsIn.append (TermsIn.keep hk hB _ _ h.ok) (TermsIn.one (by
      have := TermIn.keep hk hB _ _ ht
      cases F with
      | false => exact this
      | true => exact TermIn.weak _ _ this))

set_option maxRecDepth 100000 in
set_option maxHeartbeats 2000000 in
theorem ref_put (r : Nat) (A : Option Addr) (c : Nat) (css : List (List Value)) (ts : List Tm) (B : Nat → Prop) (i : Nat) (w : World) (h : RefAt w r A c css ts B i) (hl : css.length < 1024) (hB : ∀ k, B k → ¬ refFp r A k)
    (kd : Int) (ng : Bool) (la : Option Addr) (ln lc : Nat) (tx : ByteArray) (nm : Int) (ia : Option Addr) (im ic : Nat) (ta : Option Addr) (tn tc : Nat) (t : Tm) (F : Bool) (ht : TermIn w B F [.int .u8 kd, .bool ng, .slice la ln lc, .string tx, .int .i64 nm, .slice ia im ic, .slice ta tn tc] t) :
    Calls Try.prog 11 #[.pointer (some ⟨r, 0, none⟩), .agg #[.int .u8 kd, .bool ng, .slice la ln lc, .string tx, .int .i64 nm, .slice ia im ic, .slice ta tn tc]] w (RefPut w r A css ts B i [.int .u8 kd, .bool ng, .slice la ln lc, .string tx, .int .i64 nm, .slice ia im ic, .slice ta tn tc] t) := by
  obtain ⟨i0, hi0, hz0, hz1, hz2⟩ := info_parts Try.info33
  have H := hide h; have HT := hide ht; have HBB := hide hB
  have hbl : r < w.heap.size := h.blk.lt
  obtain ⟨n, hn⟩ : ∃ n, css.length = n := ⟨_, rfl⟩
  have HN := hide hn
  have HBL := hide (show Blk w r 27 #[.slice A n c, .int .i64 i] from hn ▸ h.blk)
  have HSL := hide (show Slab w 33 7 A n c css.flatten from hn ▸ h.row)
  have hz : (n : Int) < 1024 := by omega
  have hzn1 : (n : Int) < (n : Int) + 1 := by omega
  have hz0' : (0 : Int) ≤ n := by omega
  have k0 : (w.alloc (.cells #[.int .u8 kd, .bool ng, .slice la ln lc, .string tx, .int .i64 nm, .slice ia im ic, .slice ta tn tc] 33)).cell? ⟨r, 0, none⟩ = some (.slice A n c) := (HBL.out.alloc _).cell 0
  clear h ht hB hl
  go_enter Try.func11, Try.ntmps11
  go_wp2_with fail
  have HS : Blk (w.alloc (.cells #[.int .u8 kd, .bool ng, .slice la ln lc, .string tx, .int .i64 nm, .slice ia im ic, .slice ta tn tc] 33)).drew r 27 #[.slice A n c, .int .i64 i] ∧ Blk (w.alloc (.cells #[.int .u8 kd, .bool ng, .slice la ln lc, .string tx, .int .i64 nm, .slice ia im ic, .slice ta tn tc] 33)).drew w.heap.size 33 #[.int .u8 kd, .bool ng, .slice la ln lc, .string tx, .int .i64 nm, .slice ia im ic, .slice ta tn tc] := ⟨(HBL.out.alloc _).drew, Blk.new w 33 _⟩
  have HK0 := hide ((((Keeps.refl NoB w).alloc (.cells #[.int .u8 kd, .bool ng, .slice la ln lc, .string tx, .int .i64 nm, .slice ia im ic, .slice ta tn tc] 33)).drew))
  refine order_begin (fun W => Blk W r 27 #[.slice A n c, .int .i64 i] ∧ Blk W w.heap.size 33 #[.int .u8 kd, .bool ng, .slice la ln lc, .string tx, .int .i64 nm, .slice ia im ic, .slice ta tn tc]) (fun j => !(j == 12)) (by kernel_rfl) 13 rfl ?_
  clear k0
  generalize (w.alloc (.cells #[.int .u8 kd, .bool ng, .slice la ln lc, .string tx, .int .i64 nm, .slice ia im ic, .slice ta tn tc] 33)).drew = W0 at *
  refine order_pure (i := 0) rfl (by kernel_rfl) (fun _ _ _ h => h) (.inl ⟨rfl, fun _ => by go_simp; rfl⟩) ?_
  try simp only [Act.put, List.setIfInBounds_toArray, List.set_cons_succ, List.set_cons_zero]
  refine order_pure (i := 1) rfl (by kernel_rfl) (fun _ _ _ h => h) (.inl ⟨rfl, fun _ => by go_simp; rfl⟩) ?_
  try simp only [Act.put, List.setIfInBounds_toArray, List.set_cons_succ, List.set_cons_zero]
  refine order_pure (i := 2) rfl (by kernel_rfl) (fun _ _ _ h => h) (.inl ⟨rfl, fun _ => by go_simp; rfl⟩) ?_
  try simp only [Act.put, List.setIfInBounds_toArray, List.set_cons_succ, List.set_cons_zero]
  refine order_held (i := 3) rfl (by kernel_rfl) (fun _ _ _ h => h) (.inl ⟨rfl, fun W hW => by
    have q0 : W.cell? ⟨r, 0, none⟩ = some (.slice A n c) := hW.1.cell 0
    go_simp; rfl⟩) HS ?_
  try simp only [Act.put, List.setIfInBounds_toArray, List.set_cons_succ, List.set_cons_zero]
  refine order_held (i := 4) rfl (by kernel_rfl) (fun _ _ _ h => h) (.inl ⟨rfl, fun W hW => by
    have q0 : W.cell? ⟨w.heap.size, 0, none⟩ = some (.int .u8 kd) := hW.2.cell 0
    have q1 : W.cell? ⟨w.heap.size, 1, none⟩ = some (.bool ng) := hW.2.cell 1
    have q2 : W.cell? ⟨w.heap.size, 2, none⟩ = some (.slice la ln lc) := hW.2.cell 2
    have q3 : W.cell? ⟨w.heap.size, 3, none⟩ = some (.string tx) := hW.2.cell 3
    have q4 : W.cell? ⟨w.heap.size, 4, none⟩ = some (.int .i64 nm) := hW.2.cell 4
    have q5 : W.cell? ⟨w.heap.size, 5, none⟩ = some (.slice ia im ic) := hW.2.cell 5
    have q6 : W.cell? ⟨w.heap.size, 6, none⟩ = some (.slice ta tn tc) := hW.2.cell 6
    go_simp; rfl⟩) HS ?_
  try simp only [Act.put, List.setIfInBounds_toArray, List.set_cons_succ, List.set_cons_zero]
  refine order_pure (i := 5) rfl (by kernel_rfl) (fun _ _ _ h => h) (.inl ⟨rfl, fun _ => by go_simp; rfl⟩) ?_
  try simp only [Act.put, List.setIfInBounds_toArray, List.set_cons_succ, List.set_cons_zero]
  refine order_one (i := 6) rfl (by kernel_rfl) (fun K hK => ?_)
  go_simp
  refine hK _ _ (fun _ hS => ⟨hS.1.alloc _, hS.2.alloc _⟩) ?_
  clear hK
  have HS1 : Blk (W0.alloc (.cells #[.int .u8 0, .bool false, .slice none 0 0, .string { data := #[] }, .int .i64 0, .slice none 0 0, .slice none 0 0] 33)) r 27 #[.slice A n c, .int .i64 i] ∧ Blk (W0.alloc (.cells #[.int .u8 0, .bool false, .slice none 0 0, .string { data := #[] }, .int .i64 0, .slice none 0 0, .slice none 0 0] 33)) w.heap.size 33 #[.int .u8 kd, .bool ng, .slice la ln lc, .string tx, .int .i64 nm, .slice ia im ic, .slice ta tn tc] := ⟨HS.1.alloc _, HS.2.alloc _⟩
  have HK1 := hide (HK0.out.alloc (.cells #[.int .u8 0, .bool false, .slice none 0 0, .string { data := #[] }, .int .i64 0, .slice none 0 0, .slice none 0 0] 33))
  have HRD := hide (one_reads33 (Blk.new W0 33 #[.int .u8 0, .bool false, .slice none 0 0, .string { data := #[] }, .int .i64 0, .slice none 0 0, .slice none 0 0]))
  clear HS
  generalize W0.alloc (.cells #[.int .u8 0, .bool false, .slice none 0 0, .string { data := #[] }, .int .i64 0, .slice none 0 0, .slice none 0 0] 33) = W1 at *
  try simp only [Act.put, List.setIfInBounds_toArray, List.set_cons_succ, List.set_cons_zero]
  refine order_one (i := 7) rfl (by kernel_rfl) (fun K hK => ?_)
  have HSL1 := hide (HSL.out.fresh HK1.out)
  refine step_append_any _ rfl (.tmp 14) (.tmp 17) 25 rfl 33 i0 _ 7 104 Try.underlying25 hi0 hz0 ‹i0.size = 7› hz2 rfl (by omega) A n c css.flatten rfl HSL1.out (fun _ => True) true (some ⟨W0.heap.size, 0, none⟩) 1 1 [.int .u8 0, .bool false, .slice none 0 0, .string { data := #[] }, .int .i64 0, .slice none 0 0, .slice none 0 0] rfl HRD.out (by decide +kernel) (by unfold maxLen; omega) (by omega) ?_
  intro A3 c3 w3 hs3 hk3 hm3
  have HSEP := hide (HSL1.out.ne HS1.1 (by decide))
  have HS3 : Blk w3 r 27 #[.slice A n c, .int .i64 i] ∧ Blk w3 w.heap.size 33 #[.int .u8 kd, .bool ng, .slice la ln lc, .string tx, .int .i64 nm, .slice ia im ic, .slice ta tn tc] := ⟨HS1.1.keep hk3 HSEP.out, HS1.2.keep hk3 (fun hg => by have := HSL.out.lt hg; omega)⟩
  refine hK _ _ (fun _ _ => HS3) ?_
  clear hK
  obtain ⟨g3, o3, rfl⟩ : ∃ g3 o3, A3 = some ⟨g3, o3, none⟩ := by
    obtain ⟨⟨g, o, sp⟩, hA, hs, _⟩ := hs3.reads.2 (by omega)
    simp only at hs
    subst hs
    exact ⟨g, o, hA⟩
  have HSL3 := hide hs3; have HK3 := hide hk3; have HM3 := hide hm3
  have HSEP3 := hide (hs3.ne HS3.1 (by decide))
  clear hs3 hk3 hm3
  try simp only [Act.put, List.setIfInBounds_toArray, List.set_cons_succ, List.set_cons_zero]
  refine order_pure (i := 8) rfl (by kernel_rfl) (fun _ _ _ h => h) (.inl ⟨rfl, fun _ => by go_simp; rfl⟩) ?_
  try simp only [Act.put, List.setIfInBounds_toArray, List.set_cons_succ, List.set_cons_zero]
  refine order_pure (i := 10) rfl (by kernel_rfl) (fun _ _ _ h => h) (.inl ⟨rfl, fun _ => by go_simp; rfl⟩) ?_
  try simp only [Act.put, List.setIfInBounds_toArray, List.set_cons_succ, List.set_cons_zero]
  refine order_pure (i := 11) rfl (by kernel_rfl) (fun _ _ _ h => h) (.inl ⟨rfl, fun _ => by go_simp; rfl⟩) ?_
  try simp only [Act.put, List.setIfInBounds_toArray, List.set_cons_succ, List.set_cons_zero]
  have HF := hide (show css.flatten.length = n * 7 from by have := HSL.out.1; omega)
  have hsep3 : ¬ r = g3 := fun e => HSEP3.out ⟨o3, by rw [e]⟩
  have hsep4 : ¬ w.heap.size = g3 := fun e => by
    have := HM3.out g3 ⟨o3, rfl⟩
    rcases this with h | h
    · have := HSL.out.lt h; omega
    · have := HK1.out.size; have := HS1.2.lt; omega
  have HQ3 := hide hsep3; have HQ4 := hide hsep4
  clear hsep3 hsep4
  refine order_two (i := 9) (j := 12) rfl rfl (by kernel_rfl) (fun K hK => ?_) (fun K hK => ?_)
  · have hl7 := last_cells HSL3.out HF.out rfl
    have d0 : w3.cell? ⟨g3, o3 + n * 7, none⟩ = some (.int .u8 0) := (hl7 0 _ rfl).1
    have d1 : w3.cell? ⟨g3, o3 + n * 7 + 1, none⟩ = some (.bool false) := (hl7 1 _ rfl).1
    have d2 : w3.cell? ⟨g3, o3 + n * 7 + 2, none⟩ = some (.slice none 0 0) := (hl7 2 _ rfl).1
    have d3 : w3.cell? ⟨g3, o3 + n * 7 + 3, none⟩ = some (.string { data := #[] }) := (hl7 3 _ rfl).1
    have d4 : w3.cell? ⟨g3, o3 + n * 7 + 4, none⟩ = some (.int .i64 0) := (hl7 4 _ rfl).1
    have d5 : w3.cell? ⟨g3, o3 + n * 7 + 5, none⟩ = some (.slice none 0 0) := (hl7 5 _ rfl).1
    have d6 : w3.cell? ⟨g3, o3 + n * 7 + 6, none⟩ = some (.slice none 0 0) := (hl7 6 _ rfl).1
    have e0 : w3.frozen? ⟨g3, o3 + n * 7, none⟩ = false := (hl7 0 _ rfl).2
    have e1 : w3.frozen? ⟨g3, o3 + n * 7 + 1, none⟩ = false := (hl7 1 _ rfl).2
    have e2 : w3.frozen? ⟨g3, o3 + n * 7 + 2, none⟩ = false := (hl7 2 _ rfl).2
    have e3 : w3.frozen? ⟨g3, o3 + n * 7 + 3, none⟩ = false := (hl7 3 _ rfl).2
    have e4 : w3.frozen? ⟨g3, o3 + n * 7 + 4, none⟩ = false := (hl7 4 _ rfl).2
    have e5 : w3.frozen? ⟨g3, o3 + n * 7 + 5, none⟩ = false := (hl7 5 _ rfl).2
    have e6 : w3.frozen? ⟨g3, o3 + n * 7 + 6, none⟩ = false := (hl7 6 _ rfl).2
    clear hl7
    go_simp
    have HKP := hide (((((((((Keeps.refl (fun k => k = g3) w3).setCell (p := ⟨g3, o3 + n * 7, none⟩) (.inl rfl) (.int .u8 kd)).setCell (p := ⟨g3, o3 + n * 7 + 1, none⟩) (.inl rfl) (.bool ng)).setCell (p := ⟨g3, o3 + n * 7 + 2, none⟩) (.inl rfl) (.slice la ln lc)).setCell (p := ⟨g3, o3 + n * 7 + 3, none⟩) (.inl rfl) (.string tx)).setCell (p := ⟨g3, o3 + n * 7 + 4, none⟩) (.inl rfl) (.int .i64 nm)).setCell (p := ⟨g3, o3 + n * 7 + 5, none⟩) (.inl rfl) (.slice ia im ic)).setCell (p := ⟨g3, o3 + n * 7 + 6, none⟩) (.inl rfl) (.slice ta tn tc)))
    have HSL4 := hide (HSL3.out.put7 (n := n) HF.out rfl (.int .u8 kd) (.bool ng) (.slice la ln lc) (.string tx) (.int .i64 nm) (.slice ia im ic) (.slice ta tn tc))
    clear d0 d1 d2 d3 d4 d5 d6 e0 e1 e2 e3 e4 e5 e6
    generalize (((((((w3.setCell ⟨g3, o3 + n * 7, none⟩ (.int .u8 kd)).setCell ⟨g3, o3 + n * 7 + 1, none⟩ (.bool ng)).setCell ⟨g3, o3 + n * 7 + 2, none⟩ (.slice la ln lc)).setCell ⟨g3, o3 + n * 7 + 3, none⟩ (.string tx)).setCell ⟨g3, o3 + n * 7 + 4, none⟩ (.int .i64 nm)).setCell ⟨g3, o3 + n * 7 + 5, none⟩ (.slice ia im ic)).setCell ⟨g3, o3 + n * 7 + 6, none⟩ (.slice ta tn tc)) = w4 at *
    have HS4 : Blk w4 r 27 #[.slice A n c, .int .i64 i] ∧ Blk w4 w.heap.size 33 #[.int .u8 kd, .bool ng, .slice la ln lc, .string tx, .int .i64 nm, .slice ia im ic, .slice ta tn tc] := ⟨HS3.1.keep HKP.out HQ3.out, HS3.2.keep HKP.out HQ4.out⟩
    refine hK _ _ (fun _ _ => HS4) ?_
    clear hK
    try simp only [Act.put, List.setIfInBounds_toArray, List.set_cons_succ, List.set_cons_zero]
    have s2 : w4.cell? ⟨r, 0, none⟩ = some (.slice A n c) := HS4.1.cell 0
    have t2 : w4.frozen? ⟨r, 0, none⟩ = false := HS4.1.free 0
    refine order_one (i := 12) rfl (by kernel_rfl) (fun K hK => ?_)
    go_simp
    refine hK _ _ (fun h => absurd h (by decide)) ?_
    clear hK
    try simp only [Act.put, List.setIfInBounds_toArray, List.set_cons_succ, List.set_cons_zero]
    clear s2 t2
    have HB5 := hide (HS4.1.put 0 (.slice (some ⟨g3, o3, none⟩) (n + 1) c3))
    have HK5 := hide ((Keeps.refl (fun x => x = r) w4).setCell (p := ⟨r, 0, none⟩) (.inl rfl) (.slice (some ⟨g3, o3, none⟩) (n + 1) c3))
    generalize w4.setCell ⟨r, 0, none⟩ (.slice (some ⟨g3, o3, none⟩) (n + 1) c3) = w5 at *
    refine order_done (by kernel_rfl) ?_
    go_wp2
    go_ret
    exact ref_put_end H.out HBB.out HT.out HK1.out HK3.out HM3.out (by have := HN.out; omega) (HKP.out.trans' HK5.out (fun _ _ h => .inr ⟨o3, by rw [h]⟩) (fun _ _ h => .inl h)) (HSL4.out.keep HK5.out (fun k hk e => HSEP3.out (e ▸ hk))) HB5.out
  · have s2 : w3.cell? ⟨r, 0, none⟩ = some (.slice A n c) := HS3.1.cell 0
    have t2 : w3.frozen? ⟨r, 0, none⟩ = false := HS3.1.free 0
    go_simp
    refine hK _ _ (fun h => absurd h (by decide)) ?_
    clear hK
    try simp only [Act.put, List.setIfInBounds_toArray, List.set_cons_succ, List.set_cons_zero]
    clear s2 t2
    have HB5 := hide (HS3.1.put 0 (.slice (some ⟨g3, o3, none⟩) (n + 1) c3))
    have HK5 := hide ((Keeps.refl (fun x => x = r) w3).setCell (p := ⟨r, 0, none⟩) (.inl rfl) (.slice (some ⟨g3, o3, none⟩) (n + 1) c3))
    generalize w3.setCell ⟨r, 0, none⟩ (.slice (some ⟨g3, o3, none⟩) (n + 1) c3) = w4 at *
    have HSL4 := hide (HSL3.out.keep HK5.out (fun k hk e => HSEP3.out (e ▸ hk)))
    have hl7 := last_cells HSL4.out HF.out rfl
    have d0 : w4.cell? ⟨g3, o3 + n * 7, none⟩ = some (.int .u8 0) := (hl7 0 _ rfl).1
    have d1 : w4.cell? ⟨g3, o3 + n * 7 + 1, none⟩ = some (.bool false) := (hl7 1 _ rfl).1
    have d2 : w4.cell? ⟨g3, o3 + n * 7 + 2, none⟩ = some (.slice none 0 0) := (hl7 2 _ rfl).1
    have d3 : w4.cell? ⟨g3, o3 + n * 7 + 3, none⟩ = some (.string { data := #[] }) := (hl7 3 _ rfl).1
    have d4 : w4.cell? ⟨g3, o3 + n * 7 + 4, none⟩ = some (.int .i64 0) := (hl7 4 _ rfl).1
    have d5 : w4.cell? ⟨g3, o3 + n * 7 + 5, none⟩ = some (.slice none 0 0) := (hl7 5 _ rfl).1
    have d6 : w4.cell? ⟨g3, o3 + n * 7 + 6, none⟩ = some (.slice none 0 0) := (hl7 6 _ rfl).1
    have e0 : w4.frozen? ⟨g3, o3 + n * 7, none⟩ = false := (hl7 0 _ rfl).2
    have e1 : w4.frozen? ⟨g3, o3 + n * 7 + 1, none⟩ = false := (hl7 1 _ rfl).2
    have e2 : w4.frozen? ⟨g3, o3 + n * 7 + 2, none⟩ = false := (hl7 2 _ rfl).2
    have e3 : w4.frozen? ⟨g3, o3 + n * 7 + 3, none⟩ = false := (hl7 3 _ rfl).2
    have e4 : w4.frozen? ⟨g3, o3 + n * 7 + 4, none⟩ = false := (hl7 4 _ rfl).2
    have e5 : w4.frozen? ⟨g3, o3 + n * 7 + 5, none⟩ = false := (hl7 5 _ rfl).2
    have e6 : w4.frozen? ⟨g3, o3 + n * 7 + 6, none⟩ = false := (hl7 6 _ rfl).2
    clear hl7
    refine order_one (i := 9) rfl (by kernel_rfl) (fun K hK => ?_)
    go_simp
    have HKP := hide (((((((((Keeps.refl (fun k => k = g3) w4).setCell (p := ⟨g3, o3 + n * 7, none⟩) (.inl rfl) (.int .u8 kd)).setCell (p := ⟨g3, o3 + n * 7 + 1, none⟩) (.inl rfl) (.bool ng)).setCell (p := ⟨g3, o3 + n * 7 + 2, none⟩) (.inl rfl) (.slice la ln lc)).setCell (p := ⟨g3, o3 + n * 7 + 3, none⟩) (.inl rfl) (.string tx)).setCell (p := ⟨g3, o3 + n * 7 + 4, none⟩) (.inl rfl) (.int .i64 nm)).setCell (p := ⟨g3, o3 + n * 7 + 5, none⟩) (.inl rfl) (.slice ia im ic)).setCell (p := ⟨g3, o3 + n * 7 + 6, none⟩) (.inl rfl) (.slice ta tn tc)))
    have HSL5 := hide (HSL4.out.put7 (n := n) HF.out rfl (.int .u8 kd) (.bool ng) (.slice la ln lc) (.string tx) (.int .i64 nm) (.slice ia im ic) (.slice ta tn tc))
    clear d0 d1 d2 d3 d4 d5 d6 e0 e1 e2 e3 e4 e5 e6
    generalize (((((((w4.setCell ⟨g3, o3 + n * 7, none⟩ (.int .u8 kd)).setCell ⟨g3, o3 + n * 7 + 1, none⟩ (.bool ng)).setCell ⟨g3, o3 + n * 7 + 2, none⟩ (.slice la ln lc)).setCell ⟨g3, o3 + n * 7 + 3, none⟩ (.string tx)).setCell ⟨g3, o3 + n * 7 + 4, none⟩ (.int .i64 nm)).setCell ⟨g3, o3 + n * 7 + 5, none⟩ (.slice ia im ic)).setCell ⟨g3, o3 + n * 7 + 6, none⟩ (.slice ta tn tc)) = w5 at *
    refine hK _ _ (fun _ hS => ⟨hS.1.keep HKP.out HQ3.out, hS.2.keep HKP.out HQ4.out⟩) ?_
    clear hK
    try simp only [Act.put, List.setIfInBounds_toArray, List.set_cons_succ, List.set_cons_zero]
    refine order_done (by kernel_rfl) ?_
    go_wp2
    go_ret
    exact ref_put_end H.out HBB.out HT.out HK1.out HK3.out HM3.out (by have := HN.out; omega) (HK5.out.trans' HKP.out (fun _ _ h => .inl h) (fun _ _ h => .inr ⟨o3, by rw [h]⟩)) HSL5.out (HB5.out.keep HKP.out HQ3.out)
end Go.Proofs.Ytmkidkfofbnjgaa
namespace Go.Proofs.Ytmkidkfofbnjgaa
open Go.RowKit

theorem TermsIn.erase {w : World} {B : Nat → Prop} {F : Bool} : ∀ {ts : List Tm} {css : List (List Value)} (i : Nat), TermsIn w B F css ts → TermsIn w B F (css.eraseIdx i) (ts.eraseIdx i)
  | [], [], _, h => by simpa using h
  | t :: ts, cs :: css, 0, h => by unfold TermsIn at h; exact h.2
  | t :: ts, cs :: css, i + 1, h => by
    unfold TermsIn at h
    simp only [List.eraseIdx_cons_succ]
    unfold TermsIn
    exact ⟨h.1, TermsIn.erase i h.2⟩
  | [], _ :: _, _, h => by unfold TermsIn at h; exact h.elim
  | _ :: _, [], _, h => by unfold TermsIn at h; exact h.elim

theorem erase_flat {css : List (List Value)} (h7 : ∀ c ∈ css, c.length = 7) (i : Nat) : (css.eraseIdx i).flatten = css.flatten.take (i * 7) ++ css.flatten.drop ((i + 1) * 7) := by
  rw [List.eraseIdx_eq_take_drop_succ, List.flatten_append, flat_take h7, flat_drop h7]

theorem Slab.part {w : World} {e : TypeId} {size n c i : Nat} {B : Option Addr} {xs : List Value} (h : Slab w e size B n c xs) (hi : i ≤ n) : Reads w (rowB B) true size B i (xs.take (i * size)) := (h.upto hi).reads

theorem Reads.part {w : World} {B : Nat → Prop} {F : Bool} {size g o n i : Nat} {xs : List Value} (h : Reads w B F size (some ⟨g, o, none⟩) n xs) (hi : i ≤ n) : Reads w B F size (some ⟨g, o + i * size, none⟩) (n - i) (xs.drop (i * size)) := by
  refine ⟨by rw [List.length_drop, h.1, Nat.sub_mul], fun hn => ?_⟩
  obtain ⟨ad, e, hs, hb, hl, hc⟩ := h.2 (by omega)
  injection e with e; subst e
  refine ⟨_, rfl, rfl, hb, hl, fun j u hu => ?_⟩
  rw [List.getElem?_drop] at hu
  have := hc _ u hu
  simpa [Nat.add_assoc] using this

def RefTake (w : World) (r : Nat) (css : List (List Value)) (ts : List Tm) (t : Tm) (B : Nat → Prop) (i : Nat) (e : Ending) (w' : World) : Prop :=
  ∃ kd ng la ln lc tx nm ia im ic ta tn tc A' c', e = .returned (.tuple #[.agg #[.int .u8 kd, .bool ng, .slice la ln lc, .string tx, .int .i64 nm, .slice ia im ic, .slice ta tn tc], .int .i64 0]) ∧ TermIn w' B false [.int .u8 kd, .bool ng, .slice la ln lc, .string tx, .int .i64 nm, .slice ia im ic, .slice ta tn tc] t ∧ RefAt w' r A' c' (css.eraseIdx i) (ts.eraseIdx i) B 0 ∧ Keeps (fun k => k = r) w w' ∧ (∀ k, rowB A' k → w.heap.size ≤ k)

set_option maxRecDepth 100000 in
theorem ref_take_no (r : Nat) (A : Option Addr) (c : Nat) (css : List (List Value)) (ts : List Tm) (B : Nat → Prop) (i : Nat) (w : World) (h : RefAt w r A c css ts B i) (hi : css.length ≤ i) :
    Calls Try.prog 17 #[.pointer (some ⟨r, 0, none⟩)] w fun e w' => e = .returned (.tuple #[.agg zeroT, .int .i64 6]) ∧ Keeps NoB w w' := by
  have HK := hide ((Keeps.refl NoB w).alloc (.cells #[.int .u8 0, .bool false, .slice none 0 0, .string { data := #[] }, .int .i64 0, .slice none 0 0, .slice none 0 0] 33))
  have HB := hide (Blk.new w 33 #[.int .u8 0, .bool false, .slice none 0 0, .string { data := #[] }, .int .i64 0, .slice none 0 0, .slice none 0 0])
  have H := hide (h.fresh HK.out)
  clear h
  go_enter Try.func17, Try.ntmps17
  go_wp2_with fail
  generalize w.alloc (.cells #[.int .u8 0, .bool false, .slice none 0 0, .string { data := #[] }, .int .i64 0, .slice none 0 0, .slice none 0 0] 33) = w1 at *
  refine (ref_next_no r A c css ts B i w1 H.out hi).mono ?_
  rintro e w2 ⟨rfl, hk2⟩
  have HK2 := hide (HK.out.trans' hk2 (fun _ _ => id) (fun _ _ => id) : Keeps NoB w w2)
  have HB2 := hide (HB.out.keep hk2 id)
  have HB3 := hide (HB2.out.alloc (.cells zeroT 33))
  have z0 : (w2.alloc (.cells zeroT 33)).cell? ⟨w.heap.size, 0, none⟩ = some (.int .u8 0) := HB3.out.cell 0
  have z1 : (w2.alloc (.cells zeroT 33)).cell? ⟨w.heap.size, 1, none⟩ = some (.bool false) := HB3.out.cell 1
  have z2 : (w2.alloc (.cells zeroT 33)).cell? ⟨w.heap.size, 2, none⟩ = some (.slice none 0 0) := HB3.out.cell 2
  have z3 : (w2.alloc (.cells zeroT 33)).cell? ⟨w.heap.size, 3, none⟩ = some (.string { data := #[] }) := HB3.out.cell 3
  have z4 : (w2.alloc (.cells zeroT 33)).cell? ⟨w.heap.size, 4, none⟩ = some (.int .i64 0) := HB3.out.cell 4
  have z5 : (w2.alloc (.cells zeroT 33)).cell? ⟨w.heap.size, 5, none⟩ = some (.slice none 0 0) := HB3.out.cell 5
  have z6 : (w2.alloc (.cells zeroT 33)).cell? ⟨w.heap.size, 6, none⟩ = some (.slice none 0 0) := HB3.out.cell 6
  have f0 : (w2.alloc (.cells zeroT 33)).frozen? ⟨w.heap.size, 0, none⟩ = false := HB3.out.free 0
  have f1 : (w2.alloc (.cells zeroT 33)).frozen? ⟨w.heap.size, 1, none⟩ = false := HB3.out.free 1
  have f2 : (w2.alloc (.cells zeroT 33)).frozen? ⟨w.heap.size, 2, none⟩ = false := HB3.out.free 2
  have f3 : (w2.alloc (.cells zeroT 33)).frozen? ⟨w.heap.size, 3, none⟩ = false := HB3.out.free 3
  have f4 : (w2.alloc (.cells zeroT 33)).frozen? ⟨w.heap.size, 4, none⟩ = false := HB3.out.free 4
  have f5 : (w2.alloc (.cells zeroT 33)).frozen? ⟨w.heap.size, 5, none⟩ = false := HB3.out.free 5
  have f6 : (w2.alloc (.cells zeroT 33)).frozen? ⟨w.heap.size, 6, none⟩ = false := HB3.out.free 6
  clear hk2
  go_wp2_with fail
  have HZ := hide (HB3.out.put7 (.int .u8 0) (.bool false) (.slice none 0 0) (.string ByteArray.empty) (.int .i64 0) (.slice none 0 0) (.slice none 0 0))
  have HKP := hide (((((((((HK2.out.alloc (.cells zeroT 33)).setCell (p := ⟨w.heap.size, 0, none⟩) (.inr (Nat.le_refl _)) (.int .u8 0)).setCell (p := ⟨w.heap.size, 1, none⟩) (.inr (Nat.le_refl _)) (.bool false)).setCell (p := ⟨w.heap.size, 2, none⟩) (.inr (Nat.le_refl _)) (.slice none 0 0)).setCell (p := ⟨w.heap.size, 3, none⟩) (.inr (Nat.le_refl _)) (.string ByteArray.empty)).setCell (p := ⟨w.heap.size, 4, none⟩) (.inr (Nat.le_refl _)) (.int .i64 0)).setCell (p := ⟨w.heap.size, 5, none⟩) (.inr (Nat.le_refl _)) (.slice none 0 0)).setCell (p := ⟨w.heap.size, 6, none⟩) (.inr (Nat.le_refl _)) (.slice none 0 0)))
  clear z0 z1 z2 z3 z4 z5 z6 f0 f1 f2 f3 f4 f5 f6
  change bodyPost _ _ _ _ _ ((((((((w2.alloc (.cells zeroT 33)).setCell ⟨w.heap.size, 0, none⟩ (.int .u8 0)).setCell ⟨w.heap.size, 1, none⟩ (.bool false)).setCell ⟨w.heap.size, 2, none⟩ (.slice none 0 0)).setCell ⟨w.heap.size, 3, none⟩ (.string ByteArray.empty)).setCell ⟨w.heap.size, 4, none⟩ (.int .i64 0)).setCell ⟨w.heap.size, 5, none⟩ (.slice none 0 0)).setCell ⟨w.heap.size, 6, none⟩ (.slice none 0 0))
  generalize ((((((((w2.alloc (.cells zeroT 33)).setCell ⟨w.heap.size, 0, none⟩ (.int .u8 0)).setCell ⟨w.heap.size, 1, none⟩ (.bool false)).setCell ⟨w.heap.size, 2, none⟩ (.slice none 0 0)).setCell ⟨w.heap.size, 3, none⟩ (.string ByteArray.empty)).setCell ⟨w.heap.size, 4, none⟩ (.int .i64 0)).setCell ⟨w.heap.size, 5, none⟩ (.slice none 0 0)).setCell ⟨w.heap.size, 6, none⟩ (.slice none 0 0)) = w7 at *
  have d0 : w7.cell? ⟨w.heap.size, 0, none⟩ = some (.int .u8 0) := HZ.out.cell 0
  have d1 : w7.cell? ⟨w.heap.size, 1, none⟩ = some (.bool false) := HZ.out.cell 1
  have d2 : w7.cell? ⟨w.heap.size, 2, none⟩ = some (.slice none 0 0) := HZ.out.cell 2
  have d3 : w7.cell? ⟨w.heap.size, 3, none⟩ = some (.string { data := #[] }) := HZ.out.cell 3
  have d4 : w7.cell? ⟨w.heap.size, 4, none⟩ = some (.int .i64 0) := HZ.out.cell 4
  have d5 : w7.cell? ⟨w.heap.size, 5, none⟩ = some (.slice none 0 0) := HZ.out.cell 5
  have d6 : w7.cell? ⟨w.heap.size, 6, none⟩ = some (.slice none 0 0) := HZ.out.cell 6
  refine bodyPost_ret (v := .tuple #[.agg #[.int .u8 0, .bool false, .slice none 0 0, .string { data := #[] }, .int .i64 0, .slice none 0 0, .slice none 0 0], .int .i64 6]) (by simp [results, Try.results17, go_sem, d0, d1, d2, d3, d4, d5, d6]) rfl ?_
  exact ⟨rfl, HKP.out⟩

set_option maxRecDepth 100000 in
set_option maxHeartbeats 2000000 in
theorem ref_take_yes (r : Nat) (A : Option Addr) (c : Nat) (css : List (List Value)) (ts : List Tm) (t : Tm) (B : Nat → Prop) (i : Nat) (w : World) (h : RefAt w r A c css ts B i) (hi : i < css.length) (ht : ts[i]? = some t) (hl : css.length ≤ 1024) (hB : ¬ B r) :
    Calls Try.prog 17 #[.pointer (some ⟨r, 0, none⟩)] w (RefTake w r css ts t B i) := by
  obtain ⟨i0, hi0, hz0, hz1, hz2⟩ := info_parts Try.info33
  have HK := hide ((Keeps.refl NoB w).alloc (.cells #[.int .u8 0, .bool false, .slice none 0 0, .string { data := #[] }, .int .i64 0, .slice none 0 0, .slice none 0 0] 33))
  have HB := hide (Blk.new w 33 #[.int .u8 0, .bool false, .slice none 0 0, .string { data := #[] }, .int .i64 0, .slice none 0 0, .slice none 0 0])
  have H := hide (h.fresh HK.out)
  have hrl : r < w.heap.size := h.blk.lt
  have HT := hide ht; have HBR := hide hB; have HO := hide h
  clear h ht hB
  go_enter Try.func17, Try.ntmps17
  go_wp2_with fail
  generalize w.alloc (.cells #[.int .u8 0, .bool false, .slice none 0 0, .string { data := #[] }, .int .i64 0, .slice none 0 0, .slice none 0 0] 33) = w1 at *
  refine (ref_next_yes r A c css ts t B i w1 H.out hi HT.out (by omega)).mono ?_
  rintro e w2 ⟨kd, ng, la, ln, lc, tx, nm, ia, im, ic, ta, tn, tc, rfl, htt, hcs, hk2⟩
  have HK2 := hide (HK.out.trans' hk2 (fun _ _ => id) (fun _ _ => id) : Keeps NoB w w2)
  have hka : Keeps NoB w2 (w2.alloc (.cells #[.int .u8 kd, .bool ng, .slice la ln lc, .string tx, .int .i64 nm, .slice ia im ic, .slice ta tn tc] 33)) := (Keeps.refl NoB w2).alloc (.cells #[.int .u8 kd, .bool ng, .slice la ln lc, .string tx, .int .i64 nm, .slice ia im ic, .slice ta tn tc] 33)
  have HB3 := hide ((HB.out.keep hk2 id).alloc (.cells #[.int .u8 kd, .bool ng, .slice la ln lc, .string tx, .int .i64 nm, .slice ia im ic, .slice ta tn tc] 33))
  have HL3 := hide (Blk.new w2 33 #[.int .u8 kd, .bool ng, .slice la ln lc, .string tx, .int .i64 nm, .slice ia im ic, .slice ta tn tc])
  have H3 := hide ((H.out.fresh hk2).fresh hka)
  have HTT := hide (TermIn.keep hka (fun _ _ => id) _ _ htt)
  have HK3 := hide (HK2.out.alloc (.cells #[.int .u8 kd, .bool ng, .slice la ln lc, .string tx, .int .i64 nm, .slice ia im ic, .slice ta tn tc] 33))
  have HCS := hide hcs
  clear htt hcs hk2 hka H HB
  go_wp2_with fail
  generalize hq : w2.heap.size = q at *
  have hwq : w.heap.size ≤ q := by rw [← hq]; exact HK2.out.size
  generalize w2.alloc (.cells #[.int .u8 kd, .bool ng, .slice la ln lc, .string tx, .int .i64 nm, .slice ia im ic, .slice ta tn tc] 33) = W at *
  clear hq HK2 HK
  obtain ⟨n, hn⟩ : ∃ n, css.length = n := ⟨_, rfl⟩
  have HN := hide hn
  rw [hn] at hi hl
  have HROW := hide (show Slab W 33 7 A n c css.flatten from hn ▸ H3.out.row)
  have hnc : n ≤ c := HROW.out.2.1
  have HBL := hide (show Blk W r 27 #[.slice A n c, .int .i64 i] from hn ▸ H3.out.blk)
  have HF7 := hide (H3.out.ok.lens.2)
  clear hn
  obtain ⟨⟨g, o, sp⟩, hA, hs, _⟩ := HROW.out.reads.2 (by omega)
  simp only at hs
  subst hs hA
  have hsp : Hid (∃ sp, sp = (if c = i + 1 then some (⟨g, o, none⟩ : Addr) else some ⟨g, o + (i + 1) * 7, none⟩) ∧ Reads W (rowB (some ⟨g, o, none⟩)) true 7 sp (n - (i + 1)) (css.flatten.drop ((i + 1) * 7))) := hide (by
    refine ⟨_, rfl, ?_⟩
    split
    · have e : n - (i + 1) = 0 := by omega
      rw [e, List.drop_eq_nil_of_le (by rw [HROW.out.1]; omega)]
      exact Reads.zero _ _ _ _ _
    · exact Reads.part HROW.out.reads (by omega))
  obtain ⟨sp, hsp1, hsp2⟩ := hsp.out
  have HSP := hide hsp1; have HSR := hide hsp2
  clear hsp hsp1 hsp2
  refine order_begin (fun W' => Keeps NoB W W') (fun j => !(j == 25)) (by kernel_rfl) 26 rfl ?_
  have HS : Keeps NoB W W.drew := (Keeps.refl _ _).drew
  have hwr : IntKind.i64.wrap ((i : Int) + 1) = (i : Int) + 1 := IntWalk.i64_in _ (by omega)
  have hw0 : (0 : Int) ≤ (i : Int) + 1 := by omega
  have hwi0 : (0 : Int) ≤ (i : Int) := by omega
  have hw1 : ((i : Int) + 1).toNat = i + 1 := by omega
  have hkn : i ≤ n := by omega
  have hkn1 : i + 1 ≤ n := by omega
  have HC0 := hide (show W.cell? ⟨r, 0, none⟩ = some (.slice (some ⟨g, o, none⟩) n c) from HBL.out.cell 0)
  have HC1 := hide (show W.cell? ⟨r, 1, none⟩ = some (.int .i64 i) from HBL.out.cell 1)
  refine order_pure (i := 0) rfl (by kernel_rfl) (fun _ _ _ h => h) (.inl ⟨rfl, fun _ => by go_simp; rfl⟩) ?_
  try simp only [Act.put, List.setIfInBounds_toArray, List.set_cons_succ, List.set_cons_zero]
  refine order_pure (i := 2) rfl (by kernel_rfl) (fun _ _ _ h => h) (.inl ⟨rfl, fun _ => by go_simp; rfl⟩) ?_
  try simp only [Act.put, List.setIfInBounds_toArray, List.set_cons_succ, List.set_cons_zero]
  refine order_pure (i := 3) rfl (by kernel_rfl) (fun _ _ _ h => h) (.inl ⟨rfl, fun _ => by go_simp; rfl⟩) ?_
  try simp only [Act.put, List.setIfInBounds_toArray, List.set_cons_succ, List.set_cons_zero]
  refine order_pure (i := 4) rfl (by kernel_rfl) (fun _ _ _ h => h) (.inl ⟨rfl, fun _ => by go_simp; rfl⟩) ?_
  try simp only [Act.put, List.setIfInBounds_toArray, List.set_cons_succ, List.set_cons_zero]
  refine order_held (i := 5) rfl (by kernel_rfl) (fun _ _ _ h => h) (.inl ⟨rfl, fun W hW => by
    have q0 : W.cell? ⟨r, 0, none⟩ = some (.slice (some ⟨g, o, none⟩) n c) := hW.cell id HC0.out
    go_simp; rfl⟩) HS ?_
  try simp only [Act.put, List.setIfInBounds_toArray, List.set_cons_succ, List.set_cons_zero]
  refine order_pure (i := 6) rfl (by kernel_rfl) (fun _ _ _ h => h) (.inl ⟨rfl, fun _ => by go_simp; rfl⟩) ?_
  try simp only [Act.put, List.setIfInBounds_toArray, List.set_cons_succ, List.set_cons_zero]
  refine order_pure (i := 7) rfl (by kernel_rfl) (fun _ _ _ h => h) (.inl ⟨rfl, fun _ => by go_simp; rfl⟩) ?_
  try simp only [Act.put, List.setIfInBounds_toArray, List.set_cons_succ, List.set_cons_zero]
  refine order_pure (i := 8) rfl (by kernel_rfl) (fun _ _ _ h => h) (.inl ⟨rfl, fun _ => by go_simp; rfl⟩) ?_
  try simp only [Act.put, List.setIfInBounds_toArray, List.set_cons_succ, List.set_cons_zero]
  refine order_held (i := 9) rfl (by kernel_rfl) (fun _ _ _ h => h) (.inl ⟨rfl, fun W hW => by
    have q0 : W.cell? ⟨r, 1, none⟩ = some (.int .i64 i) := hW.cell id HC1.out
    go_simp; rfl⟩) HS ?_
  try simp only [Act.put, List.setIfInBounds_toArray, List.set_cons_succ, List.set_cons_zero]
  refine order_pure (i := 10) (v := .slice (some ⟨g, o, none⟩) i c) rfl (by kernel_rfl) (fun _ _ _ h => h) (.inl ⟨rfl, fun W => by go_simp <;> (intro hlt; omega)⟩) ?_
  try simp only [Act.put, List.setIfInBounds_toArray, List.set_cons_succ, List.set_cons_zero]
  refine order_pure (i := 12) rfl (by kernel_rfl) (fun _ _ _ h => h) (.inl ⟨rfl, fun _ => by go_simp; rfl⟩) ?_
  try simp only [Act.put, List.setIfInBounds_toArray, List.set_cons_succ, List.set_cons_zero]
  refine order_pure (i := 13) rfl (by kernel_rfl) (fun _ _ _ h => h) (.inl ⟨rfl, fun _ => by go_simp; rfl⟩) ?_
  try simp only [Act.put, List.setIfInBounds_toArray, List.set_cons_succ, List.set_cons_zero]
  refine order_pure (i := 14) rfl (by kernel_rfl) (fun _ _ _ h => h) (.inl ⟨rfl, fun _ => by go_simp; rfl⟩) ?_
  try simp only [Act.put, List.setIfInBounds_toArray, List.set_cons_succ, List.set_cons_zero]
  refine order_held (i := 15) rfl (by kernel_rfl) (fun _ _ _ h => h) (.inl ⟨rfl, fun W hW => by
    have q0 : W.cell? ⟨r, 0, none⟩ = some (.slice (some ⟨g, o, none⟩) n c) := hW.cell id HC0.out
    go_simp; rfl⟩) HS ?_
  try simp only [Act.put, List.setIfInBounds_toArray, List.set_cons_succ, List.set_cons_zero]
  refine order_pure (i := 16) rfl (by kernel_rfl) (fun _ _ _ h => h) (.inl ⟨rfl, fun _ => by go_simp; rfl⟩) ?_
  try simp only [Act.put, List.setIfInBounds_toArray, List.set_cons_succ, List.set_cons_zero]
  refine order_pure (i := 17) rfl (by kernel_rfl) (fun _ _ _ h => h) (.inl ⟨rfl, fun _ => by go_simp; rfl⟩) ?_
  try simp only [Act.put, List.setIfInBounds_toArray, List.set_cons_succ, List.set_cons_zero]
  refine order_pure (i := 18) rfl (by kernel_rfl) (fun _ _ _ h => h) (.inl ⟨rfl, fun _ => by go_simp; rfl⟩) ?_
  try simp only [Act.put, List.setIfInBounds_toArray, List.set_cons_succ, List.set_cons_zero]
  refine order_held (i := 19) rfl (by kernel_rfl) (fun _ _ _ h => h) (.inl ⟨rfl, fun W hW => by
    have q0 : W.cell? ⟨r, 1, none⟩ = some (.int .i64 i) := hW.cell id HC1.out
    go_simp; rfl⟩) HS ?_
  try simp only [Act.put, List.setIfInBounds_toArray, List.set_cons_succ, List.set_cons_zero]
  refine order_pure (i := 20) rfl (by kernel_rfl) (fun _ _ _ h => h) (.inl ⟨rfl, fun _ => by go_simp; rfl⟩) ?_
  try simp only [Act.put, List.setIfInBounds_toArray, List.set_cons_succ, List.set_cons_zero]
  refine order_pure (i := 21) (v := .slice sp (n - (i + 1)) (c - (i + 1))) rfl (by kernel_rfl) (fun _ _ _ h => h) (.inl ⟨rfl, fun W => by rw [HSP.out]; go_simp <;> (intro hlt; omega)⟩) ?_
  try simp only [Act.put, List.setIfInBounds_toArray, List.set_cons_succ, List.set_cons_zero]
  clear hwr hw0 hw1
  refine order_one (i := 1) rfl (by kernel_rfl) (fun K hK => ?_)
  go_simp
  have hk1 : Keeps NoB W (W.alloc (.cells #[] 33)).drew := ((Keeps.refl NoB W).alloc _).drew
  refine hK _ _ (fun _ _ => hk1) ?_
  clear hK HS
  have HM := hide (Slab.made W 33 7).drew
  have HK4 := hide hk1
  clear hk1
  try simp only [Act.put, List.setIfInBounds_toArray, List.set_cons_succ, List.set_cons_zero]
  refine order_one (i := 11) rfl (by kernel_rfl) (fun K hK => ?_)
  refine step_append_any _ rfl (.tmp 15) (.tmp 24) 25 rfl 33 i0 _ 7 104 Try.underlying25 hi0 hz0 hz1 hz2 rfl (by omega) (some ⟨W.heap.size, 0, none⟩) 0 0 [] rfl HM.out (rowB (some ⟨g, o, none⟩)) true (some ⟨g, o, none⟩) i c (css.flatten.take (i * 7)) rfl ((Slab.part HROW.out (by omega)).keep HK4.out (fun _ _ => id)) (fun u hu => TermsIn.ones _ _ H3.out.ok u (List.mem_of_mem_take hu)) (by unfold maxLen; omega) (by omega) (fun B1 c1 w4 h1 h2 h3 => ?_)
  rw [Nat.zero_add, List.nil_append] at h1
  have hk3 : Keeps NoB W w4 := HK4.out.trans' h2 (fun _ _ => id) (fun j hj ⟨o', e⟩ => by injection e with e; injection e with e; omega)
  have hB1 : ∀ j, rowB B1 j → W.heap.size ≤ j := fun j hj => by
    rcases h3 j hj with ⟨o', e⟩ | e
    · injection e with e; injection e with e; omega
    · exact Nat.le_trans HK4.out.size e
  refine hK _ _ (fun _ _ => hk3) ?_
  have HS2 := hide h1; have HK5 := hide hk3; have HB1 := hide hB1
  clear hK h1 h2 h3 hk3 hB1 HM
  rw [Nat.zero_add]
  try simp only [Act.put, List.setIfInBounds_toArray, List.set_cons_succ, List.set_cons_zero]
  refine order_one (i := 22) rfl (by kernel_rfl) (fun K hK => ?_)
  refine step_append_any _ rfl (.tmp 25) (.tmp 35) 25 rfl 33 i0 _ 7 104 Try.underlying25 hi0 hz0 hz1 hz2 rfl (by omega) B1 i c1 (css.flatten.take (i * 7)) rfl HS2.out (rowB (some ⟨g, o, none⟩)) true sp (n - (i + 1)) (c - (i + 1)) (css.flatten.drop ((i + 1) * 7)) rfl (HSR.out.keep HK5.out (fun _ _ => id)) (fun u hu => TermsIn.ones _ _ H3.out.ok u (List.mem_of_mem_drop hu)) (by unfold maxLen; omega) (by omega) (fun B2 c2 w5 h1 h2 h3 => ?_)
  have hk4 : Keeps NoB W w5 := HK5.out.trans' h2 (fun _ _ => id) (fun j hj hr => by have := HB1.out j hr; omega)
  have hB2 : ∀ j, rowB B2 j → W.heap.size ≤ j := fun j hj => (h3 j hj).elim (HB1.out j) (fun e => Nat.le_trans HK5.out.size e)
  rw [show i + (n - (i + 1)) = n - 1 from by omega] at h1 ⊢
  refine hK _ _ (fun _ _ => hk4) ?_
  have HBL5 := hide (HBL.out.keep hk4 id)
  have HK6 := hide hk4; have HS5 := hide h1; have HB2 := hide hB2
  have HZ5 := hide (HB3.out.keep hk4 id)
  have HL5 := hide (HL3.out.keep hk4 id)
  clear hK h1 h2 h3 hk4 hB2 HS2 HK5 HB1
  try simp only [Act.put, List.setIfInBounds_toArray, List.set_cons_succ, List.set_cons_zero]
  have g0 : w5.cell? ⟨r, 0, none⟩ = some (.slice (some ⟨g, o, none⟩) n c) := HBL5.out.cell 0
  have f0 : w5.frozen? ⟨r, 0, none⟩ = false := HBL5.out.free 0
  refine order_pure (i := 23) rfl (by kernel_rfl) (fun _ _ _ h => h) (.inl ⟨rfl, fun _ => by go_simp; rfl⟩) ?_
  try simp only [Act.put, List.setIfInBounds_toArray, List.set_cons_succ, List.set_cons_zero]
  refine order_pure (i := 24) rfl (by kernel_rfl) (fun _ _ _ h => h) (.inl ⟨rfl, fun _ => by go_simp; rfl⟩) ?_
  try simp only [Act.put, List.setIfInBounds_toArray, List.set_cons_succ, List.set_cons_zero]
  refine order_one (i := 25) rfl (by kernel_rfl) (fun K hK => ?_)
  go_simp
  refine hK _ _ (fun h => absurd h (by decide)) ?_
  clear hK
  try simp only [Act.put, List.setIfInBounds_toArray, List.set_cons_succ, List.set_cons_zero]
  clear g0 f0
  refine order_done (by kernel_rfl) ?_
  have HBL6 := hide (HBL5.out.put 0 (.slice B2 (n - 1) c2))
  have HK7 := hide ((Keeps.refl (fun k => k = r) w5).setCell (p := ⟨r, 0, none⟩) (.inl rfl) (.slice B2 (n - 1) c2))
  generalize w5.setCell ⟨r, 0, none⟩ (.slice B2 (n - 1) c2) = w6 at *
  have HZ6 := hide (HZ5.out.keep HK7.out (fun e => by omega))
  have HL6 := hide (HL5.out.keep HK7.out (fun e => by omega))
  have g1 : w6.cell? ⟨r, 1, none⟩ = some (.int .i64 i) := HBL6.out.cell 1
  have f1 : w6.frozen? ⟨r, 1, none⟩ = false := HBL6.out.free 1
  have l0 : w6.cell? ⟨q, 0, none⟩ = some (.int .u8 kd) := HL6.out.cell 0
  have l1 : w6.cell? ⟨q, 1, none⟩ = some (.bool ng) := HL6.out.cell 1
  have l2 : w6.cell? ⟨q, 2, none⟩ = some (.slice la ln lc) := HL6.out.cell 2
  have l3 : w6.cell? ⟨q, 3, none⟩ = some (.string tx) := HL6.out.cell 3
  have l4 : w6.cell? ⟨q, 4, none⟩ = some (.int .i64 nm) := HL6.out.cell 4
  have l5 : w6.cell? ⟨q, 5, none⟩ = some (.slice ia im ic) := HL6.out.cell 5
  have l6 : w6.cell? ⟨q, 6, none⟩ = some (.slice ta tn tc) := HL6.out.cell 6
  have p0 : w6.cell? ⟨w.heap.size, 0, none⟩ = some (.int .u8 0) := HZ6.out.cell 0
  have p1 : w6.cell? ⟨w.heap.size, 1, none⟩ = some (.bool false) := HZ6.out.cell 1
  have p2 : w6.cell? ⟨w.heap.size, 2, none⟩ = some (.slice none 0 0) := HZ6.out.cell 2
  have p3 : w6.cell? ⟨w.heap.size, 3, none⟩ = some (.string { data := #[] }) := HZ6.out.cell 3
  have p4 : w6.cell? ⟨w.heap.size, 4, none⟩ = some (.int .i64 0) := HZ6.out.cell 4
  have p5 : w6.cell? ⟨w.heap.size, 5, none⟩ = some (.slice none 0 0) := HZ6.out.cell 5
  have p6 : w6.cell? ⟨w.heap.size, 6, none⟩ = some (.slice none 0 0) := HZ6.out.cell 6
  have u0 : w6.frozen? ⟨w.heap.size, 0, none⟩ = false := HZ6.out.free 0
  have u1 : w6.frozen? ⟨w.heap.size, 1, none⟩ = false := HZ6.out.free 1
  have u2 : w6.frozen? ⟨w.heap.size, 2, none⟩ = false := HZ6.out.free 2
  have u3 : w6.frozen? ⟨w.heap.size, 3, none⟩ = false := HZ6.out.free 3
  have u4 : w6.frozen? ⟨w.heap.size, 4, none⟩ = false := HZ6.out.free 4
  have u5 : w6.frozen? ⟨w.heap.size, 5, none⟩ = false := HZ6.out.free 5
  have u6 : w6.frozen? ⟨w.heap.size, 6, none⟩ = false := HZ6.out.free 6
  go_wp2_with fail
  have HBL7 := hide (HBL6.out.put 1 (.int .i64 0))
  have HK8 := hide ((Keeps.refl (fun k => k = r) w6).setCell (p := ⟨r, 1, none⟩) (.inl rfl) (.int .i64 0))
  clear g1 f1 l0 l1 l2 l3 l4 l5 l6 p0 p1 p2 p3 p4 p5 p6 u0 u1 u2 u3 u4 u5 u6
  generalize w6.setCell ⟨r, 1, none⟩ (.int .i64 0) = w7 at *
  have HZ8 := hide ((HZ6.out.keep HK8.out (fun e => by omega)).put7 (.int .u8 kd) (.bool ng) (.slice la ln lc) (.string tx) (.int .i64 nm) (.slice ia im ic) (.slice ta tn tc))
  have HK9 := hide (((((((((Keeps.refl (fun k => k = w.heap.size) w7).setCell (p := ⟨w.heap.size, 0, none⟩) (.inl rfl) (.int .u8 kd)).setCell (p := ⟨w.heap.size, 1, none⟩) (.inl rfl) (.bool ng)).setCell (p := ⟨w.heap.size, 2, none⟩) (.inl rfl) (.slice la ln lc)).setCell (p := ⟨w.heap.size, 3, none⟩) (.inl rfl) (.string tx)).setCell (p := ⟨w.heap.size, 4, none⟩) (.inl rfl) (.int .i64 nm)).setCell (p := ⟨w.heap.size, 5, none⟩) (.inl rfl) (.slice ia im ic)).setCell (p := ⟨w.heap.size, 6, none⟩) (.inl rfl) (.slice ta tn tc)))
  generalize (((((((w7.setCell ⟨w.heap.size, 0, none⟩ (.int .u8 kd)).setCell ⟨w.heap.size, 1, none⟩ (.bool ng)).setCell ⟨w.heap.size, 2, none⟩ (.slice la ln lc)).setCell ⟨w.heap.size, 3, none⟩ (.string tx)).setCell ⟨w.heap.size, 4, none⟩ (.int .i64 nm)).setCell ⟨w.heap.size, 5, none⟩ (.slice ia im ic)).setCell ⟨w.heap.size, 6, none⟩ (.slice ta tn tc)) = w8 at *
  have d0 : w8.cell? ⟨w.heap.size, 0, none⟩ = some (.int .u8 kd) := HZ8.out.cell 0
  have d1 : w8.cell? ⟨w.heap.size, 1, none⟩ = some (.bool ng) := HZ8.out.cell 1
  have d2 : w8.cell? ⟨w.heap.size, 2, none⟩ = some (.slice la ln lc) := HZ8.out.cell 2
  have d3 : w8.cell? ⟨w.heap.size, 3, none⟩ = some (.string tx) := HZ8.out.cell 3
  have d4 : w8.cell? ⟨w.heap.size, 4, none⟩ = some (.int .i64 nm) := HZ8.out.cell 4
  have d5 : w8.cell? ⟨w.heap.size, 5, none⟩ = some (.slice ia im ic) := HZ8.out.cell 5
  have d6 : w8.cell? ⟨w.heap.size, 6, none⟩ = some (.slice ta tn tc) := HZ8.out.cell 6
  refine bodyPost_ret (v := .tuple #[.agg #[.int .u8 kd, .bool ng, .slice la ln lc, .string tx, .int .i64 nm, .slice ia im ic, .slice ta tn tc], .int .i64 0]) (by simp [results, Try.results17, go_sem, d0, d1, d2, d3, d4, d5, d6]) rfl ?_
  have k1 : Keeps (fun k => k = r) W w6 := HK6.out.trans' HK7.out (fun _ _ h => h.elim) (fun _ _ h => h)
  have k2 : Keeps (fun k => k = r) W w7 := k1.trans' HK8.out (fun _ _ h => h) (fun _ _ h => h)
  have k3 : Keeps (fun k => k = r) w w7 := HK3.out.trans' k2 (fun _ _ h => h.elim) (fun _ _ h => h)
  have k4 : Keeps (fun k => k = r) w w8 := k3.trans' HK9.out (fun _ _ h => h) (fun k hk h => by omega)
  have k5 : Keeps (fun k => k = r ∨ k = w.heap.size) W w8 := k2.trans' HK9.out (fun _ _ h => .inl h) (fun k hk h => .inr h)
  have hws : w.heap.size < W.heap.size := HB3.out.lt
  have hne : ¬ r = w.heap.size := by omega
  have hln : (css.eraseIdx i).length = n - 1 := by rw [List.length_eraseIdx_of_lt (by have := HN.out; omega), HN.out]
  have k6 : Keeps (fun k => k = r ∨ k = w.heap.size) w5 w8 := (HK7.out.trans' HK8.out (fun _ _ h => h) (fun _ _ h => h) : Keeps (fun k => k = r) w5 w7).trans' HK9.out (fun _ _ h => .inl h) (fun k hk h => .inr h)
  have hT8 := TermsIn.keep k4 (fun k hk e => HBR.out (e ▸ hk)) _ _ HO.out.ok
  have hil : i < css.length := by have := HN.out; omega
  have hit : i < ts.length := by have := HO.out.ok.lens.1; omega
  have hg := TermsIn.get hT8 i hil hit
  obtain ⟨_, e1⟩ := List.getElem?_eq_some_iff.1 HCS.out
  obtain ⟨_, e2⟩ := List.getElem?_eq_some_iff.1 HT.out
  rw [e1, e2] at hg
  refine ⟨kd, ng, la, ln, lc, tx, nm, ia, im, ic, ta, tn, tc, B2, c2, rfl, hg, ⟨?_, ?_, TermsIn.erase i hT8⟩, k4, fun k hk => by have := HB2.out k hk; omega⟩
  · rw [hln]
    have := HBL7.out.keep HK9.out hne
    simpa using this
  · rw [hln, erase_flat HF7.out]
    exact HS5.out.keep k6 (fun k hk hf => by have := HB2.out k hk; omega)
end Go.Proofs.Ytmkidkfofbnjgaa
