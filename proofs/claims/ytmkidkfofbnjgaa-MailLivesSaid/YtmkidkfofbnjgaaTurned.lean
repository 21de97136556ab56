/- What was told is turned, in its own memory. -/
import Derived.Test.YtmkidkfofbnjgaaRefTake
import Derived.Test.YtmkidkfofbnjgaaBoth
namespace Go.Proofs.Ytmkidkfofbnjgaa
open Go.RowKit

/-- A cell that may be written. -/
def Live (w : World) (g o : Nat) : Prop := ∃ v, w.cell? ⟨g, o, none⟩ = some v ∧ w.frozen? ⟨g, o, none⟩ = false
def U32 (w : World) (g o : Nat) : Prop := ∃ x, w.cell? ⟨g, o, none⟩ = some (.int .u32 x) ∧ w.frozen? ⟨g, o, none⟩ = false
theorem Live.set {w : World} {g o : Nat} (h : Live w g o) (p : Addr) (v : Value) : Live (w.setCell p v) g o := by
  obtain ⟨u, h1, h2⟩ := h
  obtain ⟨u', h3⟩ := cell?_setCell_some (p := p) (x := v) h1
  exact ⟨u', h3, by simpa using h2⟩
theorem U32.far {w : World} {g o : Nat} (h : U32 w g o) {p : Addr} (hp : p ≠ ⟨g, o, none⟩) (v : Value) : U32 (w.setCell p v) g o := by
  obtain ⟨u, h1, h2⟩ := h
  exact ⟨u, by rw [World.cell?_setCell_other _ _ _ _ hp]; exact h1, by simpa using h2⟩
theorem U32.set {w : World} {g o : Nat} (h : U32 w g o) (p : Addr) (x : Int) : U32 (w.setCell p (.int .u32 x)) g o := by
  by_cases e : p = ⟨g, o, none⟩
  · obtain ⟨u, h1, h2⟩ := h
    subst e
    exact ⟨x, World.cell?_setCell_same _ _ _ h1, by simpa using h2⟩
  · exact h.far e _

structure TInv (w0 : World) (B : Nat → Prop) (ia la : Option Addr) (im ln : Nat) (wr : World) : Prop where
  keep : Keeps B w0 wr
  items : 0 < im → ∃ g o, ia = some ⟨g, o, none⟩ ∧ B g ∧ ∀ i, i < im * 7 → Live wr g (o + i)
  limbs : 0 < ln → ∃ g o, la = some ⟨g, o, none⟩ ∧ B g ∧ ∀ i, i < ln → U32 wr g (o + i)

def AptT (ia la : Option Addr) (im ln : Nat) : Prop := ∀ g o g' o', ia = some ⟨g, o, none⟩ → la = some ⟨g', o', none⟩ → ∀ i j, i < im * 7 → j < ln → (⟨g, o + i, none⟩ : Addr) ≠ ⟨g', o' + j, none⟩

theorem TInv.item {w0 wr : World} {B : Nat → Prop} {ia la : Option Addr} {im ln g o i : Nat} (h : TInv w0 B ia la im ln wr) (ha : AptT ia la im ln) (e : ia = some ⟨g, o, none⟩) (hi : i < im * 7) (v : Value) : TInv w0 B ia la im ln (wr.setCell ⟨g, o + i, none⟩ v) := by
  obtain ⟨g1, o1, e1, hB, hl⟩ := h.items (by omega)
  rw [e] at e1; injection e1 with e1; injection e1 with e1 e2; subst e1 e2
  refine ⟨h.keep.setCell (p := ⟨g, o + i, none⟩) (.inl hB) v, fun _ => ⟨g, o, e, hB, fun j hj => (hl j hj).set _ _⟩, fun hn => ?_⟩
  obtain ⟨g2, o2, e2, hB2, hl2⟩ := h.limbs hn
  exact ⟨g2, o2, e2, hB2, fun j hj => (hl2 j hj).far (ha g o g2 o2 e e2 i j hi hj) _⟩
theorem TInv.limb {w0 wr : World} {B : Nat → Prop} {ia la : Option Addr} {im ln g o i : Nat} (h : TInv w0 B ia la im ln wr) (e : la = some ⟨g, o, none⟩) (hi : i < ln) (x : Int) : TInv w0 B ia la im ln (wr.setCell ⟨g, o + i, none⟩ (.int .u32 x)) := by
  obtain ⟨g1, o1, e1, hB, hl⟩ := h.limbs (by omega)
  rw [e] at e1; injection e1 with e1; injection e1 with e1 e2; subst e1 e2
  refine ⟨h.keep.setCell (p := ⟨g, o + i, none⟩) (.inl hB) _, fun hn => ?_, fun _ => ⟨g, o, e, hB, fun j hj => (hl j hj).set _ _⟩⟩
  obtain ⟨g2, o2, e2, hB2, hl2⟩ := h.items hn
  exact ⟨g2, o2, e2, hB2, fun j hj => (hl2 j hj).set _ _⟩
theorem TInv.item7 {w0 wr : World} {B : Nat → Prop} {ia la : Option Addr} {im ln g o k : Nat} (h : TInv w0 B ia la im ln wr) (ha : AptT ia la im ln) (e : ia = some ⟨g, o, none⟩) (hk : k < im) (v0 v1 v2 v3 v4 v5 v6 : Value) :
    TInv w0 B ia la im ln (((((((wr.setCell ⟨g, o + k * 7, none⟩ v0).setCell ⟨g, o + k * 7 + 1, none⟩ v1).setCell ⟨g, o + k * 7 + 2, none⟩ v2).setCell ⟨g, o + k * 7 + 3, none⟩ v3).setCell ⟨g, o + k * 7 + 4, none⟩ v4).setCell ⟨g, o + k * 7 + 5, none⟩ v5).setCell ⟨g, o + k * 7 + 6, none⟩ v6) :=
  ((((((h.item ha e (i := k * 7) (by omega) v0).item ha e (i := k * 7 + 1) (by omega) v1).item ha e (i := k * 7 + 2) (by omega) v2).item ha e (i := k * 7 + 3) (by omega) v3).item ha e (i := k * 7 + 4) (by omega) v4).item ha e (i := k * 7 + 5) (by omega) v5).item ha e (i := k * 7 + 6) (by omega) v6

theorem TermIn.noU {w : World} {B : Nat → Prop} {F : Bool} {t : Tm} {cs : List Value} (h : TermIn w B F cs t) (x : Int) : Value.int .u32 x ∉ cs := by
  cases t
  unfold TermIn at h
  obtain ⟨la, ln, lc, ia, im, ic, ta, tn, tc, css, dss, rfl, _⟩ := h
  simp
theorem TermsIn.noU {w : World} {B : Nat → Prop} {F : Bool} : ∀ (ts : List Tm) (css : List (List Value)), TermsIn w B F css ts → ∀ x : Int, Value.int .u32 x ∉ css.flatten
  | [], [], _, x => by simp
  | t :: ts, cs :: css, h, x => by
    unfold TermsIn at h
    rw [List.flatten_cons, List.mem_append]
    exact fun hu => hu.elim (TermIn.noU h.1 x) (TermsIn.noU ts css h.2 x)
  | [], _ :: _, h, _ => by unfold TermsIn at h; exact h.elim
  | _ :: _, [], h, _ => by unfold TermsIn at h; exact h.elim

/-- The start: limbs and items lie apart, for their cells are of other kinds. -/
theorem turned_start {w w0 : World} {B : Nat → Prop} {kd nm : Int} {ng : Bool} {la ia ta : Option Addr} {ln lc im ic tn tc : Nat} {tx : ByteArray} {t : Tm} (ht : TermIn w B true [.int .u8 kd, .bool ng, .slice la ln lc, .string tx, .int .i64 nm, .slice ia im ic, .slice ta tn tc] t) (hk : Keeps NoB w w0) :
    TInv w0 (fun k => B k ∧ k < w.heap.size) ia la im ln w0 ∧ AptT ia la im ln ∧ Roomy im 104 ∧ Roomy ln 4 := by
  cases t
  rename_i k neg limbs text num items tail
  unfold TermIn at ht
  obtain ⟨la', ln', lc', ia', im', ic', ta', tn', tc', css, dss, e, ⟨hr1, hr2, _⟩, h1, h2, h3, _⟩ := ht
  simp only [List.cons.injEq, Value.int.injEq, Value.bool.injEq, Value.slice.injEq, Value.string.injEq, true_and, and_true] at e
  obtain ⟨-, -, ⟨rfl, rfl, rfl⟩, -, -, ⟨rfl, rfl, rfl⟩, -⟩ := e
  have hli : css.flatten.length = im * 7 := h2.1
  have hll : limbs.length = ln := by have := h1.1; simpa using this
  have hit : ∀ g o, ia = some ⟨g, o, none⟩ → ∀ i, i < im * 7 → ∃ u, u ∈ css.flatten ∧ w0.cell? ⟨g, o + i, none⟩ = some u ∧ w0.frozen? ⟨g, o + i, none⟩ = false := by
    intro g o e i hi
    obtain ⟨ad, e', _, _, hlt, hc⟩ := h2.2 (by omega)
    rw [e] at e'; injection e' with e'; subst e'
    obtain ⟨h3, h4⟩ := hc i _ (List.getElem?_eq_getElem (by omega))
    exact ⟨_, List.getElem_mem _, hk.cell id h3, (hk.frozen (p := ⟨g, o + i, none⟩) hlt id).trans (h4 rfl)⟩
  have hlb : ∀ g o, la = some ⟨g, o, none⟩ → ∀ i, i < ln → ∃ x, w0.cell? ⟨g, o + i, none⟩ = some (.int .u32 x) ∧ w0.frozen? ⟨g, o + i, none⟩ = false := by
    intro g o e i hi
    obtain ⟨ad, e', _, _, hlt, hc⟩ := h1.2 (by omega)
    rw [e] at e'; injection e' with e'; subst e'
    obtain ⟨h3, h4⟩ := hc i (.int .u32 limbs[i]) (by simp [List.getElem?_eq_getElem (show i < limbs.length by omega)])
    exact ⟨_, hk.cell id h3, (hk.frozen (p := ⟨g, o + i, none⟩) hlt id).trans (h4 rfl)⟩
  refine ⟨⟨Keeps.refl _ _, fun hn => ?_, fun hn => ?_⟩, ?_, hr2, hr1⟩
  · obtain ⟨⟨g, o, sp⟩, e, hs, hB, hlt, _⟩ := h2.2 hn
    simp only at hs; subst hs
    refine ⟨g, o, e, ⟨hB, hlt⟩, fun i hi => ?_⟩
    obtain ⟨u, _, hu⟩ := hit g o e i hi
    exact ⟨u, hu⟩
  · obtain ⟨⟨g, o, sp⟩, e, hs, hB, hlt, _⟩ := h1.2 hn
    simp only at hs; subst hs
    exact ⟨g, o, e, ⟨hB, hlt⟩, fun i hi => hlb g o e i hi⟩
  · intro g o g' o' e e' i j hi hj hne
    obtain ⟨u, hu, hc, _⟩ := hit g o e i hi
    obtain ⟨x, hc', _⟩ := hlb g' o' e' j hj
    rw [hne, hc'] at hc
    injection hc with hc
    exact TermsIn.noU _ _ h3 x (hc ▸ hu)

set_option maxRecDepth 100000 in
theorem turned_any (w : World) (B : Nat → Prop) (kd nm : Int) (ng : Bool) (la ia ta : Option Addr) (ln lc im ic tn tc : Nat) (tx : ByteArray) (t : Tm) (ht : TermIn w B true [.int .u8 kd, .bool ng, .slice la ln lc, .string tx, .int .i64 nm, .slice ia im ic, .slice ta tn tc] t) :
    Calls Try.prog 35 #[.agg #[.int .u8 kd, .bool ng, .slice la ln lc, .string tx, .int .i64 nm, .slice ia im ic, .slice ta tn tc]] w fun e w' => e = .returned (.tuple #[]) ∧ Keeps B w w' := by
  obtain ⟨hi, ha, hr1, hr2⟩ := turned_start ht ((Keeps.refl NoB w).alloc (.cells #[.int .u8 kd, .bool ng, .slice la ln lc, .string tx, .int .i64 nm, .slice ia im ic, .slice ta tn tc] 33))
  have him : im ≤ 9223372036854775807 := by have := hr1.len (by omega); unfold maxLen at this; exact this
  have hlm : ln ≤ 9223372036854775807 := by have := hr2.len (by omega); unfold maxLen at this; exact this
  have HX := hide (Blk.new w 33 #[.int .u8 kd, .bool ng, .slice la ln lc, .string tx, .int .i64 nm, .slice ia im ic, .slice ta tn tc])
  have HKA := hide ((Keeps.refl NoB w).alloc (.cells #[.int .u8 kd, .bool ng, .slice la ln lc, .string tx, .int .i64 nm, .slice ia im ic, .slice ta tn tc] 33))
  have HI := hide hi; have HA := hide ha
  clear ht hi ha hr1 hr2
  go_enter Try.func35, Try.ntmps35
  go_wp2_with fail
  generalize w.alloc (.cells #[.int .u8 kd, .bool ng, .slice la ln lc, .string tx, .int .i64 nm, .slice ia im ic, .slice ta tn tc] 33) = w0 at *
  go_loopw [2] (fun i wr => ∃ k : Nat, k ≤ im ∧ i = .int .i64 k ∧ TInv w0 (fun k => B k ∧ k < w.heap.size) ia la im ln wr) (fun i _ => im - (intOf i).toNat)
  case atStart => exact ⟨0, Nat.zero_le _, rfl, HI.out⟩
  case round =>
    obtain ⟨k, hk, rfl, hinv⟩ := hrel
    have HI2 := hide hinv; clear hinv
    have hb := HX.out.keep HI2.out.keep (fun h => by omega)
    have x5 : wr.cell? ⟨w.heap.size, 5, none⟩ = some (.slice ia im ic) := hb.cell 5
    clear hb
    by_cases hlt : k < im
    · obtain ⟨g, o, hA, hB, hl⟩ := HI2.out.items (by omega)
      subst hA
      obtain ⟨d0, c0, e0⟩ := hl (k * 7) (by omega)
      obtain ⟨d1, c1, e1⟩ := hl (k * 7 + 1) (by omega)
      obtain ⟨d2, c2, e2⟩ := hl (k * 7 + 2) (by omega)
      obtain ⟨d3, c3, e3⟩ := hl (k * 7 + 3) (by omega)
      obtain ⟨d4, c4, e4⟩ := hl (k * 7 + 4) (by omega)
      obtain ⟨d5, c5, e5⟩ := hl (k * 7 + 5) (by omega)
      obtain ⟨d6, c6, e6⟩ := hl (k * 7 + 6) (by omega)
      rw [← Nat.add_assoc] at c1 c2 c3 c4 c5 c6 e1 e2 e3 e4 e5 e6
      have hk1 : (k : Int) < (im : Int) := by omega
      have hk0 : (0 : Int) ≤ (k : Int) := by omega
      clear hl hB
      go_wp2_with fail
      go_roundw
      case rel => exact ⟨k + 1, by omega, by go_num, HI2.out.item7 HA.out rfl (by omega) _ _ _ _ _ _ _⟩
      case measure => simp [intOf]; omega
    · obtain rfl : im = k := by omega
      have hk1 : ¬ (im : Int) < (im : Int) := by omega
      go_wp2_with fail
      have HI3 := hide HI2.out
      clear HI2 HI
      go_loopw [3] (fun i wr => ∃ k : Nat, k ≤ ln ∧ i = .int .i64 k ∧ TInv w0 (fun k => B k ∧ k < w.heap.size) ia la im ln wr) (fun i _ => ln - (intOf i).toNat)
      case atStart => exact ⟨0, Nat.zero_le _, rfl, HI3.out⟩
      case round =>
        obtain ⟨k, hk, rfl, hinv⟩ := hrel
        have HI2 := hide hinv; clear hinv
        have hb := HX.out.keep HI2.out.keep (fun h => by omega)
        have x2 : wr.cell? ⟨w.heap.size, 2, none⟩ = some (.slice la ln lc) := hb.cell 2
        clear hb
        by_cases hlt2 : k < ln
        · obtain ⟨g, o, hA, hB, hl⟩ := HI2.out.limbs (by omega)
          subst hA
          obtain ⟨d0, c0, e0⟩ := hl k (by omega)
          have hk1 : (k : Int) < (ln : Int) := by omega
          have hk0 : (0 : Int) ≤ (k : Int) := by omega
          clear hl hB
          go_wp2_with fail
          go_roundw
          case rel => exact ⟨k + 1, by omega, by go_num, HI2.out.limb rfl (by omega) _⟩
          case measure => simp [intOf]; omega
        · obtain rfl : ln = k := by omega
          have hk1 : ¬ (ln : Int) < (ln : Int) := by omega
          go_wp2_with fail
          go_end0
          exact ⟨rfl, HKA.out.trans' (HI2.out.keep) (fun _ _ h => h.elim) (fun _ _ h => h.1)⟩
end Go.Proofs.Ytmkidkfofbnjgaa
