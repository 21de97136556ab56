/- pigeonholekit: LentTerm, LentTerms. -/
import Derived.Test.YtmkidkfofbnjgaaLentLawJn
namespace Go.Proofs.Ytmkidkfofbnjgaa
open Go.RowKit

def LentTs (w : World) (n : Nat) (ts : List Tm) (e : Ending) (w' : World) : Prop :=
  ∃ g css, e = .returned (.slice (some ⟨g, 0, none⟩) n (n + 12)) ∧ w.heap.size ≤ g ∧ css.length = n ∧ Slab w' 33 7 (some ⟨g, 0, none⟩) (n + 12) (n + 12) (css.flatten ++ marksC 12) ∧ LsIn w' (g + 1) w'.heap.size css ts ∧ Keeps NoB w w'
def LentSaid (M : Nat) : Prop := ∀ (ts : List Tm), Tm.size.sizes ts ≤ M → smallTs ts → ∀ (css : List (List Value)) (A : Option Addr) (n c : Nat) (w : World) (B : Nat → Prop) (F : Bool), n ≤ 3000 →
  Reads w B F 7 A n css.flatten → TermsIn w B F css ts → Calls Try.prog 46 #[.slice A n c] w (LentTs w n ts)
def LentPost (w : World) (t : Tm) (e : Ending) (w' : World) : Prop :=
  ∃ kd ng la ln lc tx nm ia im ic ta tn tc, e = .returned (.agg #[.int .u8 kd, .bool ng, .slice la ln lc, .string tx, .int .i64 nm, .slice ia im ic, .slice ta tn tc]) ∧ LIn w' w.heap.size w'.heap.size [.int .u8 kd, .bool ng, .slice la ln lc, .string tx, .int .i64 nm, .slice ia im ic, .slice ta tn tc] t ∧ Keeps NoB w w'

theorem term_open {w : World} {B : Nat → Prop} {F : Bool} {kd nm : Int} {ng : Bool} {la ia ta : Option Addr} {ln lc im ic tn tc : Nat} {tx : ByteArray} {t : Tm} (ht : TermIn w B F [.int .u8 kd, .bool ng, .slice la ln lc, .string tx, .int .i64 nm, .slice ia im ic, .slice ta tn tc] t) :
    ∃ limbs items tail css dss, t = .mk kd ng limbs tx nm items tail ∧ Reads w B F 1 la ln (limbs.map (Value.int .u32)) ∧ limbs.length = ln ∧ Reads w B F 7 ia im (List.flatten css) ∧ items.length = im ∧ TermsIn w B F css items ∧ Reads w B F 7 ta tn (List.flatten dss) ∧ tail.length = tn ∧ TermsIn w B F dss tail := by
  cases t
  unfold TermIn at ht
  obtain ⟨_, _, _, _, _, _, _, _, _, css, dss, e, hb, h1, h2, h3, h4, h5⟩ := ht
  simp only [List.cons.injEq, Value.int.injEq, Value.bool.injEq, Value.slice.injEq, Value.string.injEq, true_and, and_true] at e
  obtain ⟨rfl, rfl, ⟨rfl, rfl, rfl⟩, rfl, rfl, ⟨rfl, rfl, rfl⟩, rfl, rfl, rfl⟩ := e
  have l1 := h1.1
  have l2 := h2.1; rw [flat_len h3.lens.2, h3.lens.1] at l2
  have l3 := h4.1; rw [flat_len h5.lens.2, h5.lens.1] at l3
  exact ⟨_, _, _, css, dss, rfl, h1, by simpa using l1, h2, by omega, h3, h4, by omega, h5⟩

set_option maxRecDepth 100000 in
set_option maxHeartbeats 1000000 in
theorem lentTerm_of (M : Nat) (IH : Hid (LentSaid M)) (t : Tm) (hM : t.size ≤ M + 1) (hsm : smallT t) (w : World) (B : Nat → Prop) (F : Bool) (kd nm : Int) (ng : Bool) (la ia ta : Option Addr) (ln lc im ic tn tc : Nat) (tx : ByteArray) (ht : TermIn w B F [.int .u8 kd, .bool ng, .slice la ln lc, .string tx, .int .i64 nm, .slice ia im ic, .slice ta tn tc] t) :
    Calls Try.prog 36 #[.agg #[.int .u8 kd, .bool ng, .slice la ln lc, .string tx, .int .i64 nm, .slice ia im ic, .slice ta tn tc]] w (LentPost w t) := by
  obtain ⟨limbs, items, tail, css, dss, rfl, h1, l1, h2, l2, h3, h4, l3, h5⟩ := term_open ht
  have hsz : Tm.size.sizes items ≤ M ∧ Tm.size.sizes tail ≤ M := by simp only [Tm.size] at hM; omega
  unfold smallT at hsm
  obtain ⟨s1, s2, s3, s4, s5⟩ := hsm
  rw [l1] at s1; rw [l2] at s2; rw [l3] at s3
  have HL1 := hide h1; have HL2 := hide h2; have HL3 := hide h3; have HL4 := hide h4; have HL5 := hide h5; have HSZ := hide hsz; have HS4 := hide s4; have HS5 := hide s5
  have HLN := hide l1
  clear ht hM h1 h2 h3 h4 h5 hsz s4 s5 l1 l2 l3
  have hk0 := ((Keeps.refl NoB w).alloc (.cells #[.int .u8 kd, .bool ng, .slice la ln lc, .string tx, .int .i64 nm, .slice ia im ic, .slice ta tn tc] 33)).alloc (.cells #[.int .u8 0, .bool false, .slice none 0 0, .string { data := #[] }, .int .i64 0, .slice none 0 0, .slice none 0 0] 33)
  have HK0 := hide hk0
  have HBX := hide ((Blk.new w 33 #[.int .u8 kd, .bool ng, .slice la ln lc, .string tx, .int .i64 nm, .slice ia im ic, .slice ta tn tc]).alloc (.cells #[.int .u8 0, .bool false, .slice none 0 0, .string { data := #[] }, .int .i64 0, .slice none 0 0, .slice none 0 0] 33))
  have HBR := hide (show Blk ((w.alloc (.cells #[.int .u8 kd, .bool ng, .slice la ln lc, .string tx, .int .i64 nm, .slice ia im ic, .slice ta tn tc] 33)).alloc (.cells #[.int .u8 0, .bool false, .slice none 0 0, .string { data := #[] }, .int .i64 0, .slice none 0 0, .slice none 0 0] 33)) (w.heap.size + 1) 33 #[.int .u8 0, .bool false, .slice none 0 0, .string { data := #[] }, .int .i64 0, .slice none 0 0, .slice none 0 0] from by have := Blk.new (w.alloc (.cells #[.int .u8 kd, .bool ng, .slice la ln lc, .string tx, .int .i64 nm, .slice ia im ic, .slice ta tn tc] 33)) 33 #[.int .u8 0, .bool false, .slice none 0 0, .string { data := #[] }, .int .i64 0, .slice none 0 0, .slice none 0 0]; simpa using this)
  have b2 : ((w.alloc (.cells #[.int .u8 kd, .bool ng, .slice la ln lc, .string tx, .int .i64 nm, .slice ia im ic, .slice ta tn tc] 33)).alloc (.cells #[.int .u8 0, .bool false, .slice none 0 0, .string { data := #[] }, .int .i64 0, .slice none 0 0, .slice none 0 0] 33)).cell? ⟨w.heap.size, 2, none⟩ = some (.slice la ln lc) := HBX.out.cell 2
  clear hk0
  go_enter Try.func36, Try.ntmps36
  go_wp2_with fail
  generalize (w.alloc (.cells #[.int .u8 kd, .bool ng, .slice la ln lc, .string tx, .int .i64 nm, .slice ia im ic, .slice ta tn tc] 33)).alloc (.cells #[.int .u8 0, .bool false, .slice none 0 0, .string { data := #[] }, .int .i64 0, .slice none 0 0, .slice none 0 0] 33) = W0 at *
  have hw0 : w.heap.size < W0.heap.size := HBX.out.lt
  have hw1 : w.heap.size + 1 < W0.heap.size := HBR.out.lt
  refine (lentLimbs_any la ln lc limbs W0 B F (HL1.out.keep HK0.out (fun _ _ => id)) (by omega)).mono ?_
  rintro e W1 ⟨rfl, hs, hk1, hlt⟩
  have HSL := hide hs; have HK1 := hide hk1
  have HBX1 := hide (HBX.out.keep hk1 id)
  have c2 : W1.cell? ⟨w.heap.size, 2, none⟩ = some (.slice la ln lc) := HBX1.out.cell 2
  have f2 : W1.frozen? ⟨w.heap.size, 2, none⟩ = false := HBX1.out.free 2
  have d5 : (W1.setCell ⟨w.heap.size, 2, none⟩ (.slice (some ⟨W0.heap.size, 0, none⟩) ln (ln + 12))).cell? ⟨w.heap.size, 5, none⟩ = some (.slice ia im ic) := (HBX1.out.put 2 (.slice (some ⟨W0.heap.size, 0, none⟩) ln (ln + 12))).cell 5
  clear b2 hs hk1
  go_wp2_with fail
  have HBX2 := hide (HBX1.out.put 2 (.slice (some ⟨W0.heap.size, 0, none⟩) ln (ln + 12)))
  have HK2 := hide ((Keeps.refl (fun k => k = w.heap.size) W1).setCell (p := ⟨w.heap.size, 2, none⟩) (.inl rfl) (.slice (some ⟨W0.heap.size, 0, none⟩) ln (ln + 12)))
  clear c2 f2 d5
  generalize W1.setCell ⟨w.heap.size, 2, none⟩ (.slice (some ⟨W0.heap.size, 0, none⟩) ln (ln + 12)) = W2 at *
  have HKN2 := hide ((HK0.out.trans' HK1.out (fun _ _ => id) (fun _ _ => id) : Keeps NoB w W1).trans' HK2.out (fun _ _ => id) (fun k hk e => by omega) : Keeps NoB w W2)
  have HSL2 := hide (HSL.out.keep HK2.out (fun k ⟨o, e⟩ hf => by injection e with e; injection e with e; omega))
  have HBR2 := hide ((HBR.out.keep HK1.out id).keep HK2.out (fun e => by omega))
  have hs12 := HK2.out.size
  refine (IH.out items HSZ.out.1 HS4.out css ia im ic W2 B F s2 (HL2.out.keep HKN2.out (fun _ _ => id)) (TermsIn.keep HKN2.out (fun _ _ => id) _ _ HL3.out)).mono ?_
  rintro e W3 ⟨g, css', rfl, hg, hcl, hsl, hls, hk3⟩
  have HG := hide (And.intro hcl (And.intro hsl hls)); have HK3 := hide hk3
  have HBX3 := hide (HBX2.out.keep hk3 id)
  have c5 : W3.cell? ⟨w.heap.size, 5, none⟩ = some (.slice ia im ic) := HBX3.out.cell 5
  have f5 : W3.frozen? ⟨w.heap.size, 5, none⟩ = false := HBX3.out.free 5
  have d6 : (W3.setCell ⟨w.heap.size, 5, none⟩ (.slice (some ⟨g, 0, none⟩) im (im + 12))).cell? ⟨w.heap.size, 6, none⟩ = some (.slice ta tn tc) := (HBX3.out.put 5 (.slice (some ⟨g, 0, none⟩) im (im + 12))).cell 6
  clear hcl hsl hls hk3
  go_wp2_with fail
  have HBX4 := hide (HBX3.out.put 5 (.slice (some ⟨g, 0, none⟩) im (im + 12)))
  have HK4 := hide ((Keeps.refl (fun k => k = w.heap.size) W3).setCell (p := ⟨w.heap.size, 5, none⟩) (.inl rfl) (.slice (some ⟨g, 0, none⟩) im (im + 12)))
  clear c5 f5 d6
  generalize W3.setCell ⟨w.heap.size, 5, none⟩ (.slice (some ⟨g, 0, none⟩) im (im + 12)) = W4 at *
  have HKN4 := hide ((HKN2.out.trans' HK3.out (fun _ _ => id) (fun _ _ => id) : Keeps NoB w W3).trans' HK4.out (fun _ _ => id) (fun k hk e => by omega) : Keeps NoB w W4)
  have HK24 := hide (HK3.out.trans' HK4.out (fun _ _ h => h.elim) (fun _ _ h => h) : Keeps (fun k => k = w.heap.size) W2 W4)
  have hs34 := HK4.out.size
  have hs23 := HK3.out.size
  refine (IH.out tail HSZ.out.2 HS5.out dss ta tn tc W4 B F s3 (HL4.out.keep HKN4.out (fun _ _ => id)) (TermsIn.keep HKN4.out (fun _ _ => id) _ _ HL5.out)).mono ?_
  rintro e W5 ⟨g', dss', rfl, hg', hcl, hsl, hls, hk5⟩
  have HG' := hide (And.intro hcl (And.intro hsl hls)); have HK5 := hide hk5
  have HBX5 := hide (HBX4.out.keep hk5 id)
  have c6 : W5.cell? ⟨w.heap.size, 6, none⟩ = some (.slice ta tn tc) := HBX5.out.cell 6
  have f6 : W5.frozen? ⟨w.heap.size, 6, none⟩ = false := HBX5.out.free 6
  have HBX6 := hide (HBX5.out.put 6 (.slice (some ⟨g', 0, none⟩) tn (tn + 12)))
  have HBR6 := hide (((HBR2.out.keep HK24.out (fun e => by omega)).keep hk5 id).keep ((Keeps.refl (fun k => k = w.heap.size) W5).setCell (p := ⟨w.heap.size, 6, none⟩) (.inl rfl) (.slice (some ⟨g', 0, none⟩) tn (tn + 12))) (fun e => by omega))
  have x0 : (W5.setCell ⟨w.heap.size, 6, none⟩ (.slice (some ⟨g', 0, none⟩) tn (tn + 12))).cell? ⟨w.heap.size, 0, none⟩ = some (.int .u8 kd) := HBX6.out.cell 0
  have x1 : (W5.setCell ⟨w.heap.size, 6, none⟩ (.slice (some ⟨g', 0, none⟩) tn (tn + 12))).cell? ⟨w.heap.size, 1, none⟩ = some (.bool ng) := HBX6.out.cell 1
  have x2 : (W5.setCell ⟨w.heap.size, 6, none⟩ (.slice (some ⟨g', 0, none⟩) tn (tn + 12))).cell? ⟨w.heap.size, 2, none⟩ = some (.slice (some ⟨W0.heap.size, 0, none⟩) ln (ln + 12)) := HBX6.out.cell 2
  have x3 : (W5.setCell ⟨w.heap.size, 6, none⟩ (.slice (some ⟨g', 0, none⟩) tn (tn + 12))).cell? ⟨w.heap.size, 3, none⟩ = some (.string tx) := HBX6.out.cell 3
  have x4 : (W5.setCell ⟨w.heap.size, 6, none⟩ (.slice (some ⟨g', 0, none⟩) tn (tn + 12))).cell? ⟨w.heap.size, 4, none⟩ = some (.int .i64 nm) := HBX6.out.cell 4
  have x5 : (W5.setCell ⟨w.heap.size, 6, none⟩ (.slice (some ⟨g', 0, none⟩) tn (tn + 12))).cell? ⟨w.heap.size, 5, none⟩ = some (.slice (some ⟨g, 0, none⟩) im (im + 12)) := HBX6.out.cell 5
  have x6 : (W5.setCell ⟨w.heap.size, 6, none⟩ (.slice (some ⟨g', 0, none⟩) tn (tn + 12))).cell? ⟨w.heap.size, 6, none⟩ = some (.slice (some ⟨g', 0, none⟩) tn (tn + 12)) := HBX6.out.cell 6
  have y0 : (W5.setCell ⟨w.heap.size, 6, none⟩ (.slice (some ⟨g', 0, none⟩) tn (tn + 12))).cell? ⟨w.heap.size + 1, 0, none⟩ = some (.int .u8 0) := HBR6.out.cell 0
  have y1 : (W5.setCell ⟨w.heap.size, 6, none⟩ (.slice (some ⟨g', 0, none⟩) tn (tn + 12))).cell? ⟨w.heap.size + 1, 1, none⟩ = some (.bool false) := HBR6.out.cell 1
  have y2 : (W5.setCell ⟨w.heap.size, 6, none⟩ (.slice (some ⟨g', 0, none⟩) tn (tn + 12))).cell? ⟨w.heap.size + 1, 2, none⟩ = some (.slice none 0 0) := HBR6.out.cell 2
  have y3 : (W5.setCell ⟨w.heap.size, 6, none⟩ (.slice (some ⟨g', 0, none⟩) tn (tn + 12))).cell? ⟨w.heap.size + 1, 3, none⟩ = some (.string { data := #[] }) := HBR6.out.cell 3
  have y4 : (W5.setCell ⟨w.heap.size, 6, none⟩ (.slice (some ⟨g', 0, none⟩) tn (tn + 12))).cell? ⟨w.heap.size + 1, 4, none⟩ = some (.int .i64 0) := HBR6.out.cell 4
  have y5 : (W5.setCell ⟨w.heap.size, 6, none⟩ (.slice (some ⟨g', 0, none⟩) tn (tn + 12))).cell? ⟨w.heap.size + 1, 5, none⟩ = some (.slice none 0 0) := HBR6.out.cell 5
  have y6 : (W5.setCell ⟨w.heap.size, 6, none⟩ (.slice (some ⟨g', 0, none⟩) tn (tn + 12))).cell? ⟨w.heap.size + 1, 6, none⟩ = some (.slice none 0 0) := HBR6.out.cell 6
  have z0 : (W5.setCell ⟨w.heap.size, 6, none⟩ (.slice (some ⟨g', 0, none⟩) tn (tn + 12))).frozen? ⟨w.heap.size + 1, 0, none⟩ = false := HBR6.out.free 0
  have z1 : (W5.setCell ⟨w.heap.size, 6, none⟩ (.slice (some ⟨g', 0, none⟩) tn (tn + 12))).frozen? ⟨w.heap.size + 1, 1, none⟩ = false := HBR6.out.free 1
  have z2 : (W5.setCell ⟨w.heap.size, 6, none⟩ (.slice (some ⟨g', 0, none⟩) tn (tn + 12))).frozen? ⟨w.heap.size + 1, 2, none⟩ = false := HBR6.out.free 2
  have z3 : (W5.setCell ⟨w.heap.size, 6, none⟩ (.slice (some ⟨g', 0, none⟩) tn (tn + 12))).frozen? ⟨w.heap.size + 1, 3, none⟩ = false := HBR6.out.free 3
  have z4 : (W5.setCell ⟨w.heap.size, 6, none⟩ (.slice (some ⟨g', 0, none⟩) tn (tn + 12))).frozen? ⟨w.heap.size + 1, 4, none⟩ = false := HBR6.out.free 4
  have z5 : (W5.setCell ⟨w.heap.size, 6, none⟩ (.slice (some ⟨g', 0, none⟩) tn (tn + 12))).frozen? ⟨w.heap.size + 1, 5, none⟩ = false := HBR6.out.free 5
  have z6 : (W5.setCell ⟨w.heap.size, 6, none⟩ (.slice (some ⟨g', 0, none⟩) tn (tn + 12))).frozen? ⟨w.heap.size + 1, 6, none⟩ = false := HBR6.out.free 6
  clear hcl hsl hls hk5
  go_wp2_with fail
  clear x0 x1 x2 x3 x4 x5 x6 y0 y1 y2 y3 y4 y5 y6 z0 z1 z2 z3 z4 z5 z6 c6 f6
  have HK6 := hide ((Keeps.refl (fun k => k = w.heap.size) W5).setCell (p := ⟨w.heap.size, 6, none⟩) (.inl rfl) (.slice (some ⟨g', 0, none⟩) tn (tn + 12)))
  generalize W5.setCell ⟨w.heap.size, 6, none⟩ (.slice (some ⟨g', 0, none⟩) tn (tn + 12)) = W6 at *
  have HBR7 := hide (HBR6.out.put7 (.int .u8 kd) (.bool ng) (.slice (some ⟨W0.heap.size, 0, none⟩) ln (ln + 12)) (.string tx) (.int .i64 nm) (.slice (some ⟨g, 0, none⟩) im (im + 12)) (.slice (some ⟨g', 0, none⟩) tn (tn + 12)))
  have HK7 := hide ((((((((Keeps.refl (fun k => k = w.heap.size + 1) W6).setCell (p := ⟨w.heap.size + 1, 0, none⟩) (.inl rfl) (.int .u8 kd)).setCell (p := ⟨w.heap.size + 1, 1, none⟩) (.inl rfl) (.bool ng)).setCell (p := ⟨w.heap.size + 1, 2, none⟩) (.inl rfl) (.slice (some ⟨W0.heap.size, 0, none⟩) ln (ln + 12))).setCell (p := ⟨w.heap.size + 1, 3, none⟩) (.inl rfl) (.string tx)).setCell (p := ⟨w.heap.size + 1, 4, none⟩) (.inl rfl) (.int .i64 nm)).setCell (p := ⟨w.heap.size + 1, 5, none⟩) (.inl rfl) (.slice (some ⟨g, 0, none⟩) im (im + 12))).setCell (p := ⟨w.heap.size + 1, 6, none⟩) (.inl rfl) (.slice (some ⟨g', 0, none⟩) tn (tn + 12)))
  generalize (((((((W6.setCell ⟨w.heap.size + 1, 0, none⟩ (.int .u8 kd)).setCell ⟨w.heap.size + 1, 1, none⟩ (.bool ng)).setCell ⟨w.heap.size + 1, 2, none⟩ (.slice (some ⟨W0.heap.size, 0, none⟩) ln (ln + 12))).setCell ⟨w.heap.size + 1, 3, none⟩ (.string tx)).setCell ⟨w.heap.size + 1, 4, none⟩ (.int .i64 nm)).setCell ⟨w.heap.size + 1, 5, none⟩ (.slice (some ⟨g, 0, none⟩) im (im + 12))).setCell ⟨w.heap.size + 1, 6, none⟩ (.slice (some ⟨g', 0, none⟩) tn (tn + 12))) = W7 at *
  have d0 : W7.cell? ⟨w.heap.size + 1, 0, none⟩ = some (.int .u8 kd) := HBR7.out.cell 0
  have d1 : W7.cell? ⟨w.heap.size + 1, 1, none⟩ = some (.bool ng) := HBR7.out.cell 1
  have d2 : W7.cell? ⟨w.heap.size + 1, 2, none⟩ = some (.slice (some ⟨W0.heap.size, 0, none⟩) ln (ln + 12)) := HBR7.out.cell 2
  have d3 : W7.cell? ⟨w.heap.size + 1, 3, none⟩ = some (.string tx) := HBR7.out.cell 3
  have d4 : W7.cell? ⟨w.heap.size + 1, 4, none⟩ = some (.int .i64 nm) := HBR7.out.cell 4
  have d5 : W7.cell? ⟨w.heap.size + 1, 5, none⟩ = some (.slice (some ⟨g, 0, none⟩) im (im + 12)) := HBR7.out.cell 5
  have d6 : W7.cell? ⟨w.heap.size + 1, 6, none⟩ = some (.slice (some ⟨g', 0, none⟩) tn (tn + 12)) := HBR7.out.cell 6
  refine bodyPost_ret (v := .agg #[.int .u8 kd, .bool ng, .slice (some ⟨W0.heap.size, 0, none⟩) ln (ln + 12), .string tx, .int .i64 nm, .slice (some ⟨g, 0, none⟩) im (im + 12), .slice (some ⟨g', 0, none⟩) tn (tn + 12)]) (by simp [results, Try.results36, go_sem, d0, d1, d2, d3, d4, d5, d6]) rfl ?_
  have k57 : Keeps (fun k => k = w.heap.size ∨ k = w.heap.size + 1) W5 W7 := HK6.out.trans' HK7.out (fun _ _ h => .inl h) (fun _ _ h => .inr h)
  have k47 : Keeps (fun k => k = w.heap.size ∨ k = w.heap.size + 1) W4 W7 := HK5.out.trans' k57 (fun _ _ h => h.elim) (fun _ _ h => h)
  have k37 : Keeps (fun k => k = w.heap.size ∨ k = w.heap.size + 1) W3 W7 := HK4.out.trans' k47 (fun _ _ h => .inl h) (fun _ _ h => h)
  have k27 : Keeps (fun k => k = w.heap.size ∨ k = w.heap.size + 1) W2 W7 := HK3.out.trans' k37 (fun _ _ h => h.elim) (fun _ _ h => h)
  have k07 : Keeps NoB w W7 := HKN2.out.trans' k27 (fun _ _ => id) (fun k hk h => by omega)
  have hs45 := HK5.out.size
  have hs57 := k57.size
  have q := fun (a : Nat) (ha : W0.heap.size ≤ a) (k : Nat) (hk : rowB (some ⟨a, 0, none⟩) k) (hf : k = w.heap.size ∨ k = w.heap.size + 1) => (by
    obtain ⟨o, e⟩ := hk; injection e with e; injection e with e; omega : False)
  obtain ⟨a1, a2, a3⟩ := HG.out
  obtain ⟨a4, a5, a6⟩ := HG'.out
  have q1 := LsIn.le a3
  have q2 := LsIn.le a6
  refine ⟨kd, ng, _, ln, _, tx, nm, _, im, _, _, tn, _, rfl, ?_, k07⟩
  unfold LIn
  refine ⟨_, ln, _, g, im, _, g', tn, _, css', dss', W2.heap.size, W3.heap.size, rfl, ⟨s1, s2, s3⟩, ⟨W0.heap.size, rfl, by omega, by omega, rfl, HLN.out, HSL2.out.keep k27 (fun k hk hf => q _ (Nat.le_refl _) k hk hf)⟩, ⟨hg, rfl, a1, a2.keep k37 (fun k hk hf => q _ (by omega) k hk hf), LsIn.keep k37 a3 (fun k h1 h2 hf => by omega)⟩, ⟨by omega, rfl, a4, a5.keep k57 (fun k hk hf => q _ (by omega) k hk hf), LsIn.up (by omega) (LsIn.keep k57 a6 (fun k h1 h2 hf => by omega))⟩⟩

theorem lent_step {w wr w2 w4 w5 : World} {k : Nat} {css : List (List Value)} {cs : List Value} {ts : List Tm} {t : Tm} (h1 : LsIn wr (w.heap.size + 1) wr.heap.size css (ts.take k)) (hc : css.length = k) (ht : ts[k]? = some t) (h2 : LIn w2 wr.heap.size w2.heap.size cs t) (hk2 : Keeps NoB wr w2) (hk4 : Keeps NoB w2 w4) (hk5 : Keeps (rowB (some ⟨w.heap.size, 0, none⟩)) w4 w5) (hlt : w.heap.size < wr.heap.size) :
    (css ++ [cs]).length = k + 1 ∧ LsIn w5 (w.heap.size + 1) w5.heap.size (css ++ [cs]) (ts.take (k + 1)) := by
  have s2 := hk2.size
  have s4 := hk4.size
  have s5 := hk5.size
  have hr : ∀ j, w.heap.size < j → ¬ rowB (some ⟨w.heap.size, 0, none⟩) j := fun j hj ⟨o, e⟩ => by injection e with e; injection e with e; omega
  refine ⟨by simp [hc], ?_⟩
  rw [List.take_add_one, ht]
  have a1 : LsIn w5 (w.heap.size + 1) wr.heap.size css (ts.take k) := LsIn.keep hk5 (LsIn.keep hk4 (LsIn.keep hk2 h1 (fun _ _ _ => id)) (fun _ _ _ => id)) (fun j h1 _ => hr j (by omega))
  have a2 : LIn w5 wr.heap.size w2.heap.size cs t := LIn.keep hk5 (LIn.keep hk4 h2 (fun _ _ _ => id)) (fun j h1 _ => hr j (by omega))
  exact LsIn.up (by omega) (LsIn.snoc a2 a1)

set_option maxRecDepth 100000 in
set_option maxHeartbeats 2000000 in
theorem lent_terms (M : Nat) : LentSaid M := by
  induction M using Nat.strongRecOn with
  | ind M IH =>
  intro ts hM hsm css A n c w B F hn hr ht
  obtain ⟨i0, hi0, hz0, hz1, hz2⟩ := info_parts Try.info33
  have hln : ts.length = n := by have h1 := hr.1; rw [flat_len ht.lens.2, ht.lens.1] at h1; omega
  have HR := hide hr; have HT := hide ht; have HLN := hide hln; have HM := hide hM; have HIH := hide IH; have HSMT := hide hsm
  have HB := hide (show i0.bytes * (n + 12) ≤ 281474976710656 by rw [hz2]; omega)
  have hwr : IntKind.i64.wrap ((n : Int) + 12) = (n : Int) + 12 := IntWalk.i64_in _ (by omega)
  clear hr ht hln hM IH hsm
  go_enter Try.func46, Try.ntmps46
  go_wp2_with (refine wpList_make_own _ rfl _ _ 25 rfl 0 33 i0 _ 7 Try.underlying25 hi0 hz0 hz1 .i64 .i64 ((n : Int) + 12) (n + 12) rfl rfl (by omega) HB.out (by unfold maxLen; omega) (Nat.zero_le _) ?_)
  intro w1 how hg
  have hk1 : Keeps NoB w w1 := (Keeps.refl NoB w).grown hg (fun k h _ => by cases h)
  obtain ⟨_, _, hv, hsl⟩ := Slab.of_own how
  injection hv with hv1 hv2 hv3
  subst hv1 hv3
  have hlt1 : w.heap.size < w1.heap.size := hsl.lt ⟨0, rfl⟩
  have HS1 := hide hsl; have HK1 := hide hk1
  clear how hg hk1 hsl hwr
  go_wp2_with fail
  go_loopg [3, 4] n (fun g s3 s4 wr => ∃ (k : Nat) (css' : List (List Value)), k ≤ n ∧ g = n - k ∧ s3 = .slice (some ⟨w.heap.size, 0, none⟩) k (n + 12) ∧ s4 = .int .i64 k ∧ Hid (Slab wr 33 7 (some ⟨w.heap.size, 0, none⟩) k (n + 12) css'.flatten) ∧ Hid (css'.length = k ∧ LsIn wr (w.heap.size + 1) wr.heap.size css' (ts.take k)) ∧ Keeps NoB w wr ∧ w.heap.size < wr.heap.size)
  case atStart => exact ⟨0, [], Nat.zero_le _, rfl, rfl, rfl, hide HS1.out, hide ⟨rfl, by simp only [List.take_zero]; unfold LsIn; omega⟩, HK1.out, hlt1⟩
  case round =>
    obtain ⟨k, css', hk, rfl, rfl, rfl, HS, HL, hkw, hlt⟩ := hrel
    have HKW := hide hkw; clear hkw
    have hk0 : (0 : Int) ≤ k := by omega
    by_cases hkn : k < n
    · have hkz : (k : Int) < n := by omega
      obtain ⟨b, o, kd, ng, la, ln, lc, tx, nm, ia, im, ic, ta, tn, tc, t, hA, ht1, ht2, ht3, f0, f1, f2, f3, f4, f5, f6⟩ := cells_at (HR.out.keep HKW.out (fun _ _ => id)) (TermsIn.keep HKW.out (fun _ _ => id) _ _ HT.out) k hkn
      subst hA
      have HAT := hide ht1; have HT2 := hide ht2; have HTS := hide ht3; have HST := hide (smallTs_at HSMT.out ht1)
      clear ht1 ht2 ht3
      go_wp2_with
        first
        | (go_at_call 36
           refine (lentTerm_of (t.size - 1) (hide (HIH.out (t.size - 1) (by have := HTS.out; have := HM.out; have := Tm.size_pos t; omega))) t (by omega) HST.out wr B F kd nm ng la ia ta ln lc im ic tn tc tx HT2.out).mono ?_
           rintro e w2 ⟨kd', ng', la', ln', lc', tx', nm', ia', im', ic', ta', tn', tc', rfl, hl, hk2⟩
           have HLI := hide hl; have HK2 := hide hk2
           have HX := hide (Blk.new w2 33 #[.int .u8 kd', .bool ng', .slice la' ln' lc', .string tx', .int .i64 nm', .slice ia' im' ic', .slice ta' tn' tc'])
           have HSA := hide ((HS.out.fresh hk2).fresh (((Keeps.refl NoB w2).alloc (.cells #[.int .u8 kd', .bool ng', .slice la' ln' lc', .string tx', .int .i64 nm', .slice ia' im' ic', .slice ta' tn' tc'] 33)).alloc (.cells #[.int .u8 kd', .bool ng', .slice la' ln' lc', .string tx', .int .i64 nm', .slice ia' im' ic', .slice ta' tn' tc'] 33)))
           have HRD := hide (one_reads33 (Blk.new (w2.alloc (.cells #[.int .u8 kd', .bool ng', .slice la' ln' lc', .string tx', .int .i64 nm', .slice ia' im' ic', .slice ta' tn' tc'] 33)) 33 #[.int .u8 kd', .bool ng', .slice la' ln' lc', .string tx', .int .i64 nm', .slice ia' im' ic', .slice ta' tn' tc']))
           have HRD := hide (show Reads ((w2.alloc (.cells #[.int .u8 kd', .bool ng', .slice la' ln' lc', .string tx', .int .i64 nm', .slice ia' im' ic', .slice ta' tn' tc'] 33)).alloc (.cells #[.int .u8 kd', .bool ng', .slice la' ln' lc', .string tx', .int .i64 nm', .slice ia' im' ic', .slice ta' tn' tc'] 33)) (fun _ => True) true 7 (some ⟨w2.heap.size + 1, 0, none⟩) 1 [.int .u8 kd', .bool ng', .slice la' ln' lc', .string tx', .int .i64 nm', .slice ia' im' ic', .slice ta' tn' tc'] from by have := HRD.out; simpa using this)
           have x0 : (w2.alloc (.cells #[.int .u8 kd', .bool ng', .slice la' ln' lc', .string tx', .int .i64 nm', .slice ia' im' ic', .slice ta' tn' tc'] 33)).cell? ⟨w2.heap.size, 0, none⟩ = some (.int .u8 kd') := HX.out.cell 0
           have x1 : (w2.alloc (.cells #[.int .u8 kd', .bool ng', .slice la' ln' lc', .string tx', .int .i64 nm', .slice ia' im' ic', .slice ta' tn' tc'] 33)).cell? ⟨w2.heap.size, 1, none⟩ = some (.bool ng') := HX.out.cell 1
           have x2 : (w2.alloc (.cells #[.int .u8 kd', .bool ng', .slice la' ln' lc', .string tx', .int .i64 nm', .slice ia' im' ic', .slice ta' tn' tc'] 33)).cell? ⟨w2.heap.size, 2, none⟩ = some (.slice la' ln' lc') := HX.out.cell 2
           have x3 : (w2.alloc (.cells #[.int .u8 kd', .bool ng', .slice la' ln' lc', .string tx', .int .i64 nm', .slice ia' im' ic', .slice ta' tn' tc'] 33)).cell? ⟨w2.heap.size, 3, none⟩ = some (.string tx') := HX.out.cell 3
           have x4 : (w2.alloc (.cells #[.int .u8 kd', .bool ng', .slice la' ln' lc', .string tx', .int .i64 nm', .slice ia' im' ic', .slice ta' tn' tc'] 33)).cell? ⟨w2.heap.size, 4, none⟩ = some (.int .i64 nm') := HX.out.cell 4
           have x5 : (w2.alloc (.cells #[.int .u8 kd', .bool ng', .slice la' ln' lc', .string tx', .int .i64 nm', .slice ia' im' ic', .slice ta' tn' tc'] 33)).cell? ⟨w2.heap.size, 5, none⟩ = some (.slice ia' im' ic') := HX.out.cell 5
           have x6 : (w2.alloc (.cells #[.int .u8 kd', .bool ng', .slice la' ln' lc', .string tx', .int .i64 nm', .slice ia' im' ic', .slice ta' tn' tc'] 33)).cell? ⟨w2.heap.size, 6, none⟩ = some (.slice ta' tn' tc') := HX.out.cell 6
           clear hl hk2 f0 f1 f2 f3 f4 f5 f6)
        | (at_builtin
           refine wpList_append_room _ rfl (.tmp 22) (.tmp 24) 25 rfl 33 i0 7 Try.underlying25 hi0 hz1 (some ⟨w.heap.size, 0, none⟩) k (n + 12) css'.flatten rfl HSA.out (fun _ => True) true (some ⟨w2.heap.size + 1, 0, none⟩) 1 1 [.int .u8 kd', .bool ng', .slice la' ln' lc', .string tx', .int .i64 nm', .slice ia' im' ic', .slice ta' tn' tc'] rfl HRD.out (by intro u hu; simp only [List.mem_cons, List.not_mem_nil, or_false] at hu; rcases hu with rfl | rfl | rfl | rfl | rfl | rfl | rfl <;> rfl) (by omega) ?_
           intro w5 hs5 hk5
           have HS5 := hide hs5; have HK5 := hide hk5
           clear hs5 hk5)
        | fail
      have hka : Keeps NoB w2 ((w2.alloc (.cells #[.int .u8 kd', .bool ng', .slice la' ln' lc', .string tx', .int .i64 nm', .slice ia' im' ic', .slice ta' tn' tc'] 33)).alloc (.cells #[.int .u8 kd', .bool ng', .slice la' ln' lc', .string tx', .int .i64 nm', .slice ia' im' ic', .slice ta' tn' tc'] 33)) := ((Keeps.refl NoB w2).alloc _).alloc _
      have hstep := lent_step HL.out.2 HL.out.1 HAT.out HLI.out HK2.out hka HK5.out hlt
      have hk5 : Keeps NoB w w5 := ((HKW.out.trans' HK2.out (fun _ _ => id) (fun _ _ => id) : Keeps NoB w w2).trans' hka (fun _ _ => id) (fun _ _ => id) : Keeps NoB w _).trans' HK5.out (fun _ _ => id) (fun j hj ⟨o, e⟩ => by injection e with e; injection e with e; omega)
      have hs2 := HK2.out.size
      have hs5 := HK5.out.size
      have hsa := hka.size
      go_roundg (n - (k + 1))
      case measure => omega
      case rel => exact ⟨k + 1, css' ++ [[.int .u8 kd', .bool ng', .slice la' ln' lc', .string tx', .int .i64 nm', .slice ia' im' ic', .slice ta' tn' tc']], by omega, rfl, rfl, by go_num, hide (by rw [List.flatten_append]; simpa using HS5.out), hide hstep, hk5, by omega⟩
    · obtain rfl : n = k := by omega
      have hkz : ¬ (n : Int) < n := by omega
      have HL := hide (show css'.length = n ∧ LsIn wr (w.heap.size + 1) wr.heap.size css' ts from ⟨HL.out.1, by have := HL.out.2; rwa [List.take_of_length_le (by have := HLN.out; omega)] at this⟩)
      clear HR HT HIH HM HSMT HLN
      go_wp2_with fail
      go_loopg [3, 6] 12 (fun g s3 s6 wx => ∃ k : Nat, k ≤ 12 ∧ g = 12 - k ∧ s3 = .slice (some ⟨w.heap.size, 0, none⟩) (n + k) (n + 12) ∧ s6 = .int .i64 k ∧ Hid (Slab wx 33 7 (some ⟨w.heap.size, 0, none⟩) (n + k) (n + 12) (css'.flatten ++ marksC k)) ∧ Hid (LsIn wx (w.heap.size + 1) wx.heap.size css' ts) ∧ Keeps NoB w wx ∧ w.heap.size < wx.heap.size)
      case atStart => exact ⟨0, Nat.zero_le _, rfl, rfl, rfl, hide (by simpa [marksC] using HS.out), hide HL.out.2, HKW.out, hlt⟩
      case round =>
        obtain ⟨k, hk, rfl, rfl, rfl, HS, HLS, hkw, hlt⟩ := hrel
        have HKW := hide hkw; clear hkw
        have hk0 : (0 : Int) ≤ k := by omega
        by_cases hkn : k < 12
        · have hkz : (k : Int) < 12 := by omega
          go_wp2_with
            first
            | (go_at_call 73
               refine (markTerm_any 1 k (by omega) (by omega) (by omega) (by omega) _).mono ?_
               rintro e w2 ⟨rfl, hk2⟩
               have HK2 := hide hk2
               have HSA := hide ((HS.out.fresh hk2).fresh ((Keeps.refl NoB w2).alloc (.cells #[.int .u8 0, .bool false, .slice none 0 0, .string { data := #[] }, .int .i64 (markV 1 k), .slice none 0 0, .slice none 0 0] 33)))
               have HRD := hide (one_reads33 (Blk.new w2 33 #[.int .u8 0, .bool false, .slice none 0 0, .string { data := #[] }, .int .i64 (markV 1 k), .slice none 0 0, .slice none 0 0]))
               clear hk2)
            | (at_builtin
               refine wpList_append_room _ rfl (.tmp 30) (.tmp 33) 25 rfl 33 i0 7 Try.underlying25 hi0 hz1 (some ⟨w.heap.size, 0, none⟩) (n + k) (n + 12) (css'.flatten ++ marksC k) rfl HSA.out (fun _ => True) true (some ⟨w2.heap.size, 0, none⟩) 1 1 (markC 1 k) rfl HRD.out (by intro u hu; simp only [markC, List.mem_cons, List.not_mem_nil, or_false] at hu; rcases hu with rfl | rfl | rfl | rfl | rfl | rfl | rfl <;> rfl) (by omega) ?_
               intro w5 hs5 hk5
               have HS5 := hide hs5; have HK5 := hide hk5
               clear hs5 hk5)
            | fail
          have hka : Keeps NoB w2 (w2.alloc (.cells #[.int .u8 0, .bool false, .slice none 0 0, .string { data := #[] }, .int .i64 (markV 1 k), .slice none 0 0, .slice none 0 0] 33)) := (Keeps.refl NoB w2).alloc _
          have hk5 : Keeps NoB w w5 := ((HKW.out.trans' HK2.out (fun _ _ => id) (fun _ _ => id) : Keeps NoB w w2).trans' hka (fun _ _ => id) (fun _ _ => id) : Keeps NoB w _).trans' HK5.out (fun _ _ => id) (fun j hj ⟨o, e⟩ => by injection e with e; injection e with e; omega)
          have hs2 := HK2.out.size
          have hs5 := HK5.out.size
          have hsa := hka.size
          have hls : LsIn w5 (w.heap.size + 1) w5.heap.size css' ts := LsIn.up (by omega) (LsIn.keep HK5.out (LsIn.keep hka (LsIn.keep HK2.out HLS.out (fun _ _ _ => id)) (fun _ _ _ => id)) (fun j h1 _ ⟨o, e⟩ => by injection e with e; injection e with e; omega))
          go_roundg (12 - (k + 1))
          case measure => omega
          case rel => exact ⟨k + 1, by omega, rfl, rfl, by go_num, hide (by rw [marksC_succ, ← List.append_assoc]; exact HS5.out), hide hls, hk5, by omega⟩
        · obtain rfl : k = 12 := by omega
          have hkz : ¬ ((12 : Nat) : Int) < 12 := by omega
          have hn12 : n ≤ n + 12 := by omega
          go_wp2_with fail
          go_ret
          exact ⟨w.heap.size, css', rfl, Nat.le_refl _, HL.out.1, HS.out, HLS.out, HKW.out⟩
theorem lentTerm_any (t : Tm) (hsm : smallT t) (w : World) (B : Nat → Prop) (F : Bool) (kd nm : Int) (ng : Bool) (la ia ta : Option Addr) (ln lc im ic tn tc : Nat) (tx : ByteArray) (ht : TermIn w B F [.int .u8 kd, .bool ng, .slice la ln lc, .string tx, .int .i64 nm, .slice ia im ic, .slice ta tn tc] t) :
    Calls Try.prog 36 #[.agg #[.int .u8 kd, .bool ng, .slice la ln lc, .string tx, .int .i64 nm, .slice ia im ic, .slice ta tn tc]] w (LentPost w t) := lentTerm_of t.size (hide (lent_terms t.size)) t (by omega) hsm w B F kd nm ng la ia ta ln lc im ic tn tc tx ht
end Go.Proofs.Ytmkidkfofbnjgaa
