/- Both boxes beside each other: the program's, and the document's. Plain lemmas. What was told is turned, in its own memory. Both boxes tell the same: like. Both boxes, told by their letters: what each call leaves. -/
import Derived.Test.YtmkidkfofbnjgaaRefTakeJn
import Derived.Test.YtmkidkfofbnjgaaLooksJn
namespace Go.Proofs.Ytmkidkfofbnjgaa
open Go.RowKit

/-- From w on nothing that was there has turned; behind it lie the program's box and the document's, apart; the document's letters are of what was there. -/
structure Pair (w w' : World) (b : Nat) (sv : Value) (L : List Lt) (i : Nat) (r : Nat) (A : Option Addr) (c : Nat) (css : List (List Value)) (us : List Tm) (j : Nat) : Prop where
  one : Run w w' b sv L i
  ref : RefAt w' r A c css us (fun k => k < w.heap.size) j
  hr : w.heap.size ≤ r
  hA : ∀ k, rowB A k → w.heap.size ≤ k
  sep : ∀ k, boxFp b sv k → ¬ refFp r A k
  off : ∀ x ∈ L, ∀ k, refFp r A k → x.misses k
  low : ∀ x ∈ L, w.heap.size ≤ x.lo

section
variable {w w' w'' : World} {b r c c' i j i' j' : Nat} {sv sv' : Value} {A A' : Option Addr} {L L' : List Lt} {css css' : List (List Value)} {us us' : List Tm}
theorem RefAt.lt {B : Nat → Prop} (h : RefAt w r A c css us B i) (k : Nat) (hk : refFp r A k) : k < w.heap.size := by
  rcases hk with rfl | hk
  · exact h.blk.lt
  · exact h.row.lt hk
theorem RefAt.len {B : Nat → Prop} (h : RefAt w r A c css us B i) : css.length = us.length := h.ok.lens.1
theorem Run.lt (h : Run w w' b sv L i) (k : Nat) (hk : boxFp b sv k) : k < w'.heap.size := by
  rcases hk with rfl | hk
  · exact h.box.blk.lt
  · exact ownsRow_lt h.box.row hk
theorem Pair.refB (h : Pair w w' b sv L i r A c css us j) (k : Nat) (hk : k < w.heap.size) : ¬ refFp r A k := by
  rintro (rfl | hf)
  · have := h.hr; omega
  · have := h.hA k hf; omega
theorem Pair.fresh (h : Pair w w' b sv L i r A c css us j) (k : Keeps NoB w' w'') : Pair w w'' b sv L i r A c css us j :=
  ⟨h.one.fresh k, h.ref.fresh k, h.hr, h.hA, h.sep, h.off, h.low⟩
/-- The program's box does a step. -/
theorem Pair.box (h : Pair w w' b sv L i r A c css us j) (k : Keeps (boxFp b sv) w' w'') (hbox : BoxAt w'' b sv' L' i') (hsv : sv'.ownBlock = sv.ownBlock ∨ ∃ g, sv'.ownBlock = some g ∧ w'.heap.size ≤ g) (hL : ∀ x ∈ L', x ∈ L ∨ w'.heap.size ≤ x.lo) : Pair w w'' b sv' L' i' r A c css us j := by
  refine ⟨h.one.turn k hbox hsv, h.ref.keep k (fun k h1 h2 => h.sep k h2 h1) (fun k hk hf => ?_), h.hr, h.hA, fun k hk hf => ?_, fun x hx k hf => ?_, fun x hx => (hL x hx).elim (h.low x) (fun e => Nat.le_trans h.one.keep.size e)⟩
  · rcases hf with rfl | hf
    · have := h.one.hb; omega
    · have := h.one.hg k hf; omega
  · rcases hk with rfl | hk
    · exact h.sep _ (.inl rfl) hf
    · rcases hsv with e | ⟨g, e, hg⟩
      · exact h.sep k (.inr (e ▸ hk)) hf
      · rw [e] at hk; injection hk with hk; subst hk
        have := h.ref.lt _ hf; omega
  · rcases hL x hx with h1 | h1
    · exact h.off x h1 k hf
    · have := h.ref.lt _ hf; exact .inl (by omega)
/-- The document's box does a step. -/
theorem Pair.doc (h : Pair w w' b sv L i r A c css us j) (k : Keeps (refFp r A) w' w'') (href : RefAt w'' r A' c' css' us' (fun k => k < w.heap.size) j') (hm : Moved w' A A') : Pair w w'' b sv L i r A' c' css' us' j' := by
  have hs := h.one.keep.size
  refine ⟨⟨h.one.box.keep k (h.sep b (.inl rfl)) (fun g hg => h.sep g (.inr hg)) (fun x hx k hf => h.off x hx k hf), h.one.keep.trans' k (fun _ _ => id) (fun k hk hf => h.refB k hk hf), h.one.hb, h.one.hg⟩, href, h.hr, fun k hk => (hm k hk).elim (h.hA k) (fun e => by omega), fun k hk hf => ?_, fun x hx k hf => ?_, h.low⟩
  · rcases hf with rfl | hf
    · exact h.sep _ hk (.inl rfl)
    · rcases hm k hf with h1 | h1
      · exact h.sep k hk (.inr h1)
      · have := h.one.lt k hk; omega
  · rcases hf with rfl | hf
    · exact h.off x hx _ (.inl rfl)
    · rcases hm k hf with h1 | h1
      · exact h.off x hx k (.inr h1)
      · have := (h.one.box.ok x hx).2.2; exact .inr (by omega)
end

/-- Both new. -/
theorem pair_new (w w0 : World) (h : Keeps NoB w w0) : Pair w ((w0.alloc (.cells #[.slice none 0 0, .int .i64 0, .bool true] 61)).alloc (.cells #[.slice none 0 0, .int .i64 0] 27)) w0.heap.size (.slice none 0 0) [] 0 (w0.heap.size + 1) none 0 [] [] 0 := by
  have hs := h.size
  have h1 : Run w (w0.alloc (.cells #[.slice none 0 0, .int .i64 0, .bool true] 61)) w0.heap.size (.slice none 0 0) [] 0 := ⟨box_new w0, h.alloc _, hs, fun g hg => by simp [Value.ownBlock] at hg⟩
  have h2 := h1.fresh ((Keeps.refl NoB (w0.alloc (.cells #[.slice none 0 0, .int .i64 0, .bool true] 61))).alloc (.cells #[.slice none 0 0, .int .i64 0] 27))
  have hb : Blk ((w0.alloc (.cells #[.slice none 0 0, .int .i64 0, .bool true] 61)).alloc (.cells #[.slice none 0 0, .int .i64 0] 27)) (w0.heap.size + 1) 27 #[.slice none 0 0, .int .i64 0] := by
    have := Blk.new (w0.alloc (.cells #[.slice none 0 0, .int .i64 0, .bool true] 61)) 27 #[.slice none 0 0, .int .i64 0]
    simpa using this
  refine ⟨h2, ⟨hb, Slab.nil _ _ _, by unfold TermsIn; trivial⟩, by omega, fun k ⟨o, hk⟩ => (by cases hk), fun k hk hf => ?_, fun x hx => (by cases hx), fun x hx => (by cases hx)⟩
  rcases hk with rfl | hk
  · rcases hf with hf | ⟨o, hf⟩
    · omega
    · cases hf
  · simp [Value.ownBlock] at hk
end Go.Proofs.Ytmkidkfofbnjgaa
namespace Go.Proofs.Ytmkidkfofbnjgaa
open Go.RowKit

/-- A cell that may be written. -/
def Live (w : World) (g o : Nat) : Prop := ∃ v, w.cell? ⟨g, o, none⟩ = some v ∧ w.frozen? ⟨g, o, none⟩ = false
def U32 (w : World) (g o : Nat) : Prop := ∃ x, w.cell? ⟨g, o, none⟩ = some (.int .u32 x) ∧ w.frozen? ⟨g, o, none⟩ = false
theorem Live.set {w : World} {g o : Nat} (h : Live w g o) (p : Addr) (v : Value) : Live (w.setCell p v) g o := by
  obtain ⟨u, h1, h2⟩ := h
  obtain ⟨u', h3⟩ := cell?_setCell_some (p := p) (x := v) h1
  exact ⟨u', h3, by simpa using h2⟩
theorem U32.far {w : World} {g o : Nat} (h : U32 w g o) {p : Addr} (hp : p ≠ ⟨g, o, none⟩) (v : Value) : U32 (w.setCell p v) g o := by
  obtain ⟨u, h1, h2⟩ := h
  exact ⟨u, by rw [World.cell?_setCell_other _ _ _ _ hp]; exact h1, by simpa using h2⟩
theorem U32.set {w : World} {g o : Nat} (h : U32 w g o) (p : Addr) (x : Int) : U32 (w.setCell p (.int .u32 x)) g o := by
  by_cases e : p = ⟨g, o, none⟩
  · obtain ⟨u, h1, h2⟩ := h
    subst e
    exact ⟨x, World.cell?_setCell_same _ _ _ h1, by simpa using h2⟩
  · exact h.far e _

structure TInv (w0 : World) (B : Nat → Prop) (ia la : Option Addr) (im ln : Nat) (wr : World) : Prop where
  keep : Keeps B w0 wr
  items : 0 < im → ∃ g o, ia = some ⟨g, o, none⟩ ∧ B g ∧ ∀ i, i < im * 7 → Live wr g (o + i)
  limbs : 0 < ln → ∃ g o, la = some ⟨g, o, none⟩ ∧ B g ∧ ∀ i, i < ln → U32 wr g (o + i)

def AptT (ia la : Option Addr) (im ln : Nat) : Prop := ∀ g o g' o', ia = some ⟨g, o, none⟩ → la = some ⟨g', o', none⟩ → ∀ i j, i < im * 7 → j < ln → (⟨g, o + i, none⟩ : Addr) ≠ ⟨g', o' + j, none⟩

theorem TInv.item {w0 wr : World} {B : Nat → Prop} {ia la : Option Addr} {im ln g o i : Nat} (h : TInv w0 B ia la im ln wr) (ha : AptT ia la im ln) (e : ia = some ⟨g, o, none⟩) (hi : i < im * 7) (v : Value) : TInv w0 B ia la im ln (wr.setCell ⟨g, o + i, none⟩ v) := by
  obtain ⟨g1, o1, e1, hB, hl⟩ := h.items (by omega)
  rw [e] at e1; injection e1 with e1; injection e1 with e1 e2; subst e1 e2
  refine ⟨h.keep.setCell (p := ⟨g, o + i, none⟩) (.inl hB) v, fun _ => ⟨g, o, e, hB, fun j hj => (hl j hj).set _ _⟩, fun hn => ?_⟩
  obtain ⟨g2, o2, e2, hB2, hl2⟩ := h.limbs hn
  exact ⟨g2, o2, e2, hB2, fun j hj => (hl2 j hj).far (ha g o g2 o2 e e2 i j hi hj) _⟩
theorem TInv.limb {w0 wr : World} {B : Nat → Prop} {ia la : Option Addr} {im ln g o i : Nat} (h : TInv w0 B ia la im ln wr) (e : la = some ⟨g, o, none⟩) (hi : i < ln) (x : Int) : TInv w0 B ia la im ln (wr.setCell ⟨g, o + i, none⟩ (.int .u32 x)) := by
  obtain ⟨g1, o1, e1, hB, hl⟩ := h.limbs (by omega)
  rw [e] at e1; injection e1 with e1; injection e1 with e1 e2; subst e1 e2
  refine ⟨h.keep.setCell (p := ⟨g, o + i, none⟩) (.inl hB) _, fun hn => ?_, fun _ => ⟨g, o, e, hB, fun j hj => (hl j hj).set _ _⟩⟩
  obtain ⟨g2, o2, e2, hB2, hl2⟩ := h.items hn
  exact ⟨g2, o2, e2, hB2, fun j hj => (hl2 j hj).set _ _⟩
theorem TInv.item7 {w0 wr : World} {B : Nat → Prop} {ia la : Option Addr} {im ln g o k : Nat} (h : TInv w0 B ia la im ln wr) (ha : AptT ia la im ln) (e : ia = some ⟨g, o, none⟩) (hk : k < im) (v0 v1 v2 v3 v4 v5 v6 : Value) :
    TInv w0 B ia la im ln (((((((wr.setCell ⟨g, o + k * 7, none⟩ v0).setCell ⟨g, o + k * 7 + 1, none⟩ v1).setCell ⟨g, o + k * 7 + 2, none⟩ v2).setCell ⟨g, o + k * 7 + 3, none⟩ v3).setCell ⟨g, o + k * 7 + 4, none⟩ v4).setCell ⟨g, o + k * 7 + 5, none⟩ v5).setCell ⟨g, o + k * 7 + 6, none⟩ v6) :=
  ((((((h.item ha e (i := k * 7) (by omega) v0).item ha e (i := k * 7 + 1) (by omega) v1).item ha e (i := k * 7 + 2) (by omega) v2).item ha e (i := k * 7 + 3) (by omega) v3).item ha e (i := k * 7 + 4) (by omega) v4).item ha e (i := k * 7 + 5) (by omega) v5).item ha e (i := k * 7 + 6) (by omega) v6

theorem TermIn.noU {w : World} {B : Nat → Prop} {F : Bool} {t : Tm} {cs : List Value} (h : TermIn w B F cs t) (x : Int) : Value.int .u32 x ∉ cs := by
  cases t
  unfold TermIn at h
  obtain ⟨la, ln, lc, ia, im, ic, ta, tn, tc, css, dss, rfl, _⟩ := h
  simp
theorem TermsIn.noU {w : World} {B : Nat → Prop} {F : Bool} : ∀ (ts : List Tm) (css : List (List Value)), TermsIn w B F css ts → ∀ x : Int, Value.int .u32 x ∉ css.flatten
  | [], [], _, x => by simp
  | t :: ts, cs :: css, h, x => by
    unfold TermsIn at h
    rw [List.flatten_cons, List.mem_append]
    exact fun hu => hu.elim (TermIn.noU h.1 x) (TermsIn.noU ts css h.2 x)
  | [], _ :: _, h, _ => by unfold TermsIn at h; exact h.elim
  | _ :: _, [], h, _ => by unfold TermsIn at h; exact h.elim

/-- The start: limbs and items lie apart, for their cells are of other kinds. -/
theorem turned_start {w w0 : World} {B : Nat → Prop} {kd nm : Int} {ng : Bool} {la ia ta : Option Addr} {ln lc im ic tn tc : Nat} {tx : ByteArray} {t : Tm} (ht : TermIn w B true [.int .u8 kd, .bool ng, .slice la ln lc, .string tx, .int .i64 nm, .slice ia im ic, .slice ta tn tc] t) (hk : Keeps NoB w w0) :
    TInv w0 (fun k => B k ∧ k < w.heap.size) ia la im ln w0 ∧ AptT ia la im ln ∧ Roomy im 104 ∧ Roomy ln 4 := by
  cases t
  rename_i k neg limbs text num items tail
  unfold TermIn at ht
  obtain ⟨la', ln', lc', ia', im', ic', ta', tn', tc', css, dss, e, ⟨hr1, hr2, _⟩, h1, h2, h3, _⟩ := ht
  simp only [List.cons.injEq, Value.int.injEq, Value.bool.injEq, Value.slice.injEq, Value.string.injEq, true_and, and_true] at e
  obtain ⟨-, -, ⟨rfl, rfl, rfl⟩, -, -, ⟨rfl, rfl, rfl⟩, -⟩ := e
  have hli : css.flatten.length = im * 7 := h2.1
  have hll : limbs.length = ln := by have := h1.1; simpa using this
  have hit : ∀ g o, ia = some ⟨g, o, none⟩ → ∀ i, i < im * 7 → ∃ u, u ∈ css.flatten ∧ w0.cell? ⟨g, o + i, none⟩ = some u ∧ w0.frozen? ⟨g, o + i, none⟩ = false := by
    intro g o e i hi
    obtain ⟨ad, e', _, _, hlt, hc⟩ := h2.2 (by omega)
    rw [e] at e'; injection e' with e'; subst e'
    obtain ⟨h3, h4⟩ := hc i _ (List.getElem?_eq_getElem (by omega))
    exact ⟨_, List.getElem_mem _, hk.cell id h3, (hk.frozen (p := ⟨g, o + i, none⟩) hlt id).trans (h4 rfl)⟩
  have hlb : ∀ g o, la = some ⟨g, o, none⟩ → ∀ i, i < ln → ∃ x, w0.cell? ⟨g, o + i, none⟩ = some (.int .u32 x) ∧ w0.frozen? ⟨g, o + i, none⟩ = false := by
    intro g o e i hi
    obtain ⟨ad, e', _, _, hlt, hc⟩ := h1.2 (by omega)
    rw [e] at e'; injection e' with e'; subst e'
    obtain ⟨h3, h4⟩ := hc i (.int .u32 limbs[i]) (by simp [List.getElem?_eq_getElem (show i < limbs.length by omega)])
    exact ⟨_, hk.cell id h3, (hk.frozen (p := ⟨g, o + i, none⟩) hlt id).trans (h4 rfl)⟩
  refine ⟨⟨Keeps.refl _ _, fun hn => ?_, fun hn => ?_⟩, ?_, hr2, hr1⟩
  · obtain ⟨⟨g, o, sp⟩, e, hs, hB, hlt, _⟩ := h2.2 hn
    simp only at hs; subst hs
    refine ⟨g, o, e, ⟨hB, hlt⟩, fun i hi => ?_⟩
    obtain ⟨u, _, hu⟩ := hit g o e i hi
    exact ⟨u, hu⟩
  · obtain ⟨⟨g, o, sp⟩, e, hs, hB, hlt, _⟩ := h1.2 hn
    simp only at hs; subst hs
    exact ⟨g, o, e, ⟨hB, hlt⟩, fun i hi => hlb g o e i hi⟩
  · intro g o g' o' e e' i j hi hj hne
    obtain ⟨u, hu, hc, _⟩ := hit g o e i hi
    obtain ⟨x, hc', _⟩ := hlb g' o' e' j hj
    rw [hne, hc'] at hc
    injection hc with hc
    exact TermsIn.noU _ _ h3 x (hc ▸ hu)

set_option maxRecDepth 100000 in
theorem turned_any (w : World) (B : Nat → Prop) (kd nm : Int) (ng : Bool) (la ia ta : Option Addr) (ln lc im ic tn tc : Nat) (tx : ByteArray) (t : Tm) (ht : TermIn w B true [.int .u8 kd, .bool ng, .slice la ln lc, .string tx, .int .i64 nm, .slice ia im ic, .slice ta tn tc] t) :
    Calls Try.prog 35 #[.agg #[.int .u8 kd, .bool ng, .slice la ln lc, .string tx, .int .i64 nm, .slice ia im ic, .slice ta tn tc]] w fun e w' => e = .returned (.tuple #[]) ∧ Keeps B w w' := by
  obtain ⟨hi, ha, hr1, hr2⟩ := turned_start ht ((Keeps.refl NoB w).alloc (.cells #[.int .u8 kd, .bool ng, .slice la ln lc, .string tx, .int .i64 nm, .slice ia im ic, .slice ta tn tc] 33))
  have him : im ≤ 9223372036854775807 := by have := hr1.len (by omega); unfold maxLen at this; exact this
  have hlm : ln ≤ 9223372036854775807 := by have := hr2.len (by omega); unfold maxLen at this; exact this
  have HX := hide (Blk.new w 33 #[.int .u8 kd, .bool ng, .slice la ln lc, .string tx, .int .i64 nm, .slice ia im ic, .slice ta tn tc])
  have HKA := hide ((Keeps.refl NoB w).alloc (.cells #[.int .u8 kd, .bool ng, .slice la ln lc, .string tx, .int .i64 nm, .slice ia im ic, .slice ta tn tc] 33))
  have HI := hide hi; have HA := hide ha
  clear ht hi ha hr1 hr2
  go_enter Try.func35, Try.ntmps35
  go_wp2_with fail
  generalize w.alloc (.cells #[.int .u8 kd, .bool ng, .slice la ln lc, .string tx, .int .i64 nm, .slice ia im ic, .slice ta tn tc] 33) = w0 at *
  go_loopw [2] (fun i wr => ∃ k : Nat, k ≤ im ∧ i = .int .i64 k ∧ TInv w0 (fun k => B k ∧ k < w.heap.size) ia la im ln wr) (fun i _ => im - (intOf i).toNat)
  case atStart => exact ⟨0, Nat.zero_le _, rfl, HI.out⟩
  case round =>
    obtain ⟨k, hk, rfl, hinv⟩ := hrel
    have HI2 := hide hinv; clear hinv
    have hb := HX.out.keep HI2.out.keep (fun h => by omega)
    have x5 : wr.cell? ⟨w.heap.size, 5, none⟩ = some (.slice ia im ic) := hb.cell 5
    clear hb
    by_cases hlt : k < im
    · obtain ⟨g, o, hA, hB, hl⟩ := HI2.out.items (by omega)
      subst hA
      obtain ⟨d0, c0, e0⟩ := hl (k * 7) (by omega)
      obtain ⟨d1, c1, e1⟩ := hl (k * 7 + 1) (by omega)
      obtain ⟨d2, c2, e2⟩ := hl (k * 7 + 2) (by omega)
      obtain ⟨d3, c3, e3⟩ := hl (k * 7 + 3) (by omega)
      obtain ⟨d4, c4, e4⟩ := hl (k * 7 + 4) (by omega)
      obtain ⟨d5, c5, e5⟩ := hl (k * 7 + 5) (by omega)
      obtain ⟨d6, c6, e6⟩ := hl (k * 7 + 6) (by omega)
      rw [← Nat.add_assoc] at c1 c2 c3 c4 c5 c6 e1 e2 e3 e4 e5 e6
      have hk1 : (k : Int) < (im : Int) := by omega
      have hk0 : (0 : Int) ≤ (k : Int) := by omega
      clear hl hB
      go_wp2_with fail
      go_roundw
      case rel => exact ⟨k + 1, by omega, by go_num, HI2.out.item7 HA.out rfl (by omega) _ _ _ _ _ _ _⟩
      case measure => simp [intOf]; omega
    · obtain rfl : im = k := by omega
      have hk1 : ¬ (im : Int) < (im : Int) := by omega
      go_wp2_with fail
      have HI3 := hide HI2.out
      clear HI2 HI
      go_loopw [3] (fun i wr => ∃ k : Nat, k ≤ ln ∧ i = .int .i64 k ∧ TInv w0 (fun k => B k ∧ k < w.heap.size) ia la im ln wr) (fun i _ => ln - (intOf i).toNat)
      case atStart => exact ⟨0, Nat.zero_le _, rfl, HI3.out⟩
      case round =>
        obtain ⟨k, hk, rfl, hinv⟩ := hrel
        have HI2 := hide hinv; clear hinv
        have hb := HX.out.keep HI2.out.keep (fun h => by omega)
        have x2 : wr.cell? ⟨w.heap.size, 2, none⟩ = some (.slice la ln lc) := hb.cell 2
        clear hb
        by_cases hlt2 : k < ln
        · obtain ⟨g, o, hA, hB, hl⟩ := HI2.out.limbs (by omega)
          subst hA
          obtain ⟨d0, c0, e0⟩ := hl k (by omega)
          have hk1 : (k : Int) < (ln : Int) := by omega
          have hk0 : (0 : Int) ≤ (k : Int) := by omega
          clear hl hB
          go_wp2_with fail
          go_roundw
          case rel => exact ⟨k + 1, by omega, by go_num, HI2.out.limb rfl (by omega) _⟩
          case measure => simp [intOf]; omega
        · obtain rfl : ln = k := by omega
          have hk1 : ¬ (ln : Int) < (ln : Int) := by omega
          go_wp2_with fail
          go_end0
          exact ⟨rfl, HKA.out.trans' (HI2.out.keep) (fun _ _ h => h.elim) (fun _ _ h => h.1)⟩
end Go.Proofs.Ytmkidkfofbnjgaa
namespace Go.Proofs.Ytmkidkfofbnjgaa
open Go.RowKit

abbrev zTm : Tm := flatT 0 ⟨#[]⟩ 0
/-- What is told at a place. -/
def TellAt (us : List Tm) (i : Nat) (t : Tm) (ok : Bool) : Prop := (ok = true ∧ us[i]? = some t) ∨ (ok = false ∧ us.length ≤ i ∧ t = zTm)
theorem tell_any (us : List Tm) (i : Nat) : ∃ t ok, TellAt us i t ok := by
  by_cases h : i < us.length
  · exact ⟨us[i], true, .inl ⟨rfl, List.getElem?_eq_getElem h⟩⟩
  · exact ⟨zTm, false, .inr ⟨rfl, by omega, rfl⟩⟩

theorem next_any (b : Nat) (sv : Value) (L : List Lt) (i : Nat) (us : List Tm) (t : Tm) (ok : Bool) (w : World) (h : BoxAt w b sv L i) (hu : L.map (·.t) = us) (ht : TellAt us i t ok) (hl : L.length ≤ 1024) :
    Calls Try.prog 26 #[.pointer (some ⟨b, 0, none⟩)] w fun e w' => ∃ kd ng la ln lc tx nm ia im ic ta tn tc, e = .returned (.tuple #[.agg #[.int .u8 kd, .bool ng, .slice la ln lc, .string tx, .int .i64 nm, .slice ia im ic, .slice ta tn tc], .bool ok]) ∧ TermIn w' (Fresh w w') true [.int .u8 kd, .bool ng, .slice la ln lc, .string tx, .int .i64 nm, .slice ia im ic, .slice ta tn tc] t ∧ Keeps NoB w w' := by
  subst hu
  rcases ht with ⟨rfl, ht⟩ | ⟨rfl, hi, rfl⟩
  · obtain ⟨x, hx, hxt⟩ := nth_term rfl ht
    exact next_told b sv L i x t w h hx hxt hl
  · refine (next_no b sv L i w h (by simpa using hi)).mono ?_
    rintro e w' ⟨rfl, hk⟩
    exact ⟨0, false, none, 0, 0, ⟨#[]⟩, 0, none, 0, 0, none, 0, 0, rfl, flat_in _ _ _ _ _ _, hk⟩
theorem ref_next_any (r : Nat) (A : Option Addr) (c : Nat) (css : List (List Value)) (ts : List Tm) (t : Tm) (ok : Bool) (B : Nat → Prop) (i : Nat) (w : World) (h : RefAt w r A c css ts B i) (ht : TellAt ts i t ok) (hl : css.length ≤ 1048576) :
    Calls Try.prog 34 #[.pointer (some ⟨r, 0, none⟩)] w fun e w' => ∃ kd ng la ln lc tx nm ia im ic ta tn tc, e = .returned (.tuple #[.agg #[.int .u8 kd, .bool ng, .slice la ln lc, .string tx, .int .i64 nm, .slice ia im ic, .slice ta tn tc], .bool ok]) ∧ TermIn w' B false [.int .u8 kd, .bool ng, .slice la ln lc, .string tx, .int .i64 nm, .slice ia im ic, .slice ta tn tc] t ∧ Keeps NoB w w' := by
  rcases ht with ⟨rfl, ht⟩ | ⟨rfl, hi, rfl⟩
  · refine (ref_next_yes r A c css ts t B i w h (by rw [h.len]; exact (List.getElem?_eq_some_iff.1 ht).1) ht hl).mono ?_
    rintro e w' ⟨kd, ng, la, ln, lc, tx, nm, ia, im, ic, ta, tn, tc, rfl, h1, _, h2⟩
    exact ⟨kd, ng, la, ln, lc, tx, nm, ia, im, ic, ta, tn, tc, rfl, h1, h2⟩
  · refine (ref_next_no r A c css ts B i w h (by rw [h.len]; exact hi)).mono ?_
    rintro e w' ⟨rfl, hk⟩
    exact ⟨0, false, none, 0, 0, ⟨#[]⟩, 0, none, 0, 0, none, 0, 0, rfl, flat_in _ _ _ _ _ _, hk⟩

set_option maxRecDepth 100000 in
set_option maxHeartbeats 2000000 in
theorem like_any (b : Nat) (sv : Value) (L : List Lt) (i r : Nat) (A : Option Addr) (c : Nat) (css : List (List Value)) (us : List Tm) (w w1 : World) (h : Pair w w1 b sv L i r A c css us i) (hu : L.map (·.t) = us) (hl : L.length ≤ 1024) :
    Calls Try.prog 18 #[.pointer (some ⟨b, 0, none⟩), .pointer (some ⟨r, 0, none⟩)] w1 fun e w' => e = .returned (.bool true) ∧ Keeps NoB w1 w' := by
  obtain ⟨t, ok, htl⟩ := tell_any us i
  have HP := hide h; have HU := hide hu; have HTL := hide htl; have HL := hide hl
  obtain ⟨n, hn⟩ : ∃ n, L.length = n := ⟨_, rfl⟩
  have HLN := hide hn
  have HN := hide (show css.length = n from by rw [h.ref.len, ← hu, List.length_map]; exact hn)
  rw [hn] at hl
  have hbo : (ok == ok) = true := by simp
  clear h hu htl hn
  go_enter Try.func18, Try.ntmps18
  go_wp2_with
    first
    | (go_at_call 26
       refine (next_any b sv L i us t ok w1 HP.out.one.box HU.out HTL.out HL.out).mono ?_
       rintro e wA ⟨kd, ng, la, ln, lc, tx, nm, ia, im, ic, ta, tn, tc, rfl, hT, hk⟩
       have hA := (Keeps.refl NoB wA).alloc (.cells #[.int .u8 kd, .bool ng, .slice la ln lc, .string tx, .int .i64 nm, .slice ia im ic, .slice ta tn tc] 33)
       have HKA := hide (hk.trans' hA (fun _ _ => id) (fun _ _ => id) : Keeps NoB w1 (wA.alloc (.cells #[.int .u8 kd, .bool ng, .slice la ln lc, .string tx, .int .i64 nm, .slice ia im ic, .slice ta tn tc] 33)))
       have HT := hide (TermIn.keep hA (fun _ _ => id) _ _ (TermIn.more (B' := fun k => w1.heap.size ≤ k) (fun _ _ h => h.1) _ _ hT))
       have HB := hide (Blk.new wA 33 #[.int .u8 kd, .bool ng, .slice la ln lc, .string tx, .int .i64 nm, .slice ia im ic, .slice ta tn tc])
       clear hT hk hA)
    | (go_at_call 34
       refine (ref_next_any r A c css us t ok _ i _ (HP.out.ref.fresh HKA.out) HTL.out (by have := HN.out; omega)).mono ?_
       rintro e wB ⟨kd', ng', la', ln', lc', tx', nm', ia', im', ic', ta', tn', tc', rfl, hT, hk⟩
       have hA := (Keeps.refl NoB wB).alloc (.cells #[.int .u8 kd', .bool ng', .slice la' ln' lc', .string tx', .int .i64 nm', .slice ia' im' ic', .slice ta' tn' tc'] 33)
       have HKB := hide ((HKA.out.trans' hk (fun _ _ => id) (fun _ _ => id) : Keeps NoB w1 wB).alloc (.cells #[.int .u8 kd', .bool ng', .slice la' ln' lc', .string tx', .int .i64 nm', .slice ia' im' ic', .slice ta' tn' tc'] 33))
       have HTA := hide (TermIn.keep hA (fun _ _ => id) _ _ (TermIn.keep hk (fun _ _ => id) _ _ HT.out))
       have HTB := hide (TermIn.keep hA (fun _ _ => id) _ _ hT)
       have HBA := hide ((HB.out.keep hk id).alloc (.cells #[.int .u8 kd', .bool ng', .slice la' ln' lc', .string tx', .int .i64 nm', .slice ia' im' ic', .slice ta' tn' tc'] 33))
       have HBB := hide (Blk.new wB 33 #[.int .u8 kd', .bool ng', .slice la' ln' lc', .string tx', .int .i64 nm', .slice ia' im' ic', .slice ta' tn' tc'])
       have x0 : (wB.alloc (.cells #[.int .u8 kd', .bool ng', .slice la' ln' lc', .string tx', .int .i64 nm', .slice ia' im' ic', .slice ta' tn' tc'] 33)).cell? ⟨wA.heap.size, 0, none⟩ = some (.int .u8 kd) := HBA.out.cell 0
       have x1 : (wB.alloc (.cells #[.int .u8 kd', .bool ng', .slice la' ln' lc', .string tx', .int .i64 nm', .slice ia' im' ic', .slice ta' tn' tc'] 33)).cell? ⟨wA.heap.size, 1, none⟩ = some (.bool ng) := HBA.out.cell 1
       have x2 : (wB.alloc (.cells #[.int .u8 kd', .bool ng', .slice la' ln' lc', .string tx', .int .i64 nm', .slice ia' im' ic', .slice ta' tn' tc'] 33)).cell? ⟨wA.heap.size, 2, none⟩ = some (.slice la ln lc) := HBA.out.cell 2
       have x3 : (wB.alloc (.cells #[.int .u8 kd', .bool ng', .slice la' ln' lc', .string tx', .int .i64 nm', .slice ia' im' ic', .slice ta' tn' tc'] 33)).cell? ⟨wA.heap.size, 3, none⟩ = some (.string tx) := HBA.out.cell 3
       have x4 : (wB.alloc (.cells #[.int .u8 kd', .bool ng', .slice la' ln' lc', .string tx', .int .i64 nm', .slice ia' im' ic', .slice ta' tn' tc'] 33)).cell? ⟨wA.heap.size, 4, none⟩ = some (.int .i64 nm) := HBA.out.cell 4
       have x5 : (wB.alloc (.cells #[.int .u8 kd', .bool ng', .slice la' ln' lc', .string tx', .int .i64 nm', .slice ia' im' ic', .slice ta' tn' tc'] 33)).cell? ⟨wA.heap.size, 5, none⟩ = some (.slice ia im ic) := HBA.out.cell 5
       have x6 : (wB.alloc (.cells #[.int .u8 kd', .bool ng', .slice la' ln' lc', .string tx', .int .i64 nm', .slice ia' im' ic', .slice ta' tn' tc'] 33)).cell? ⟨wA.heap.size, 6, none⟩ = some (.slice ta tn tc) := HBA.out.cell 6
       have y0 : (wB.alloc (.cells #[.int .u8 kd', .bool ng', .slice la' ln' lc', .string tx', .int .i64 nm', .slice ia' im' ic', .slice ta' tn' tc'] 33)).cell? ⟨wB.heap.size, 0, none⟩ = some (.int .u8 kd') := HBB.out.cell 0
       have y1 : (wB.alloc (.cells #[.int .u8 kd', .bool ng', .slice la' ln' lc', .string tx', .int .i64 nm', .slice ia' im' ic', .slice ta' tn' tc'] 33)).cell? ⟨wB.heap.size, 1, none⟩ = some (.bool ng') := HBB.out.cell 1
       have y2 : (wB.alloc (.cells #[.int .u8 kd', .bool ng', .slice la' ln' lc', .string tx', .int .i64 nm', .slice ia' im' ic', .slice ta' tn' tc'] 33)).cell? ⟨wB.heap.size, 2, none⟩ = some (.slice la' ln' lc') := HBB.out.cell 2
       have y3 : (wB.alloc (.cells #[.int .u8 kd', .bool ng', .slice la' ln' lc', .string tx', .int .i64 nm', .slice ia' im' ic', .slice ta' tn' tc'] 33)).cell? ⟨wB.heap.size, 3, none⟩ = some (.string tx') := HBB.out.cell 3
       have y4 : (wB.alloc (.cells #[.int .u8 kd', .bool ng', .slice la' ln' lc', .string tx', .int .i64 nm', .slice ia' im' ic', .slice ta' tn' tc'] 33)).cell? ⟨wB.heap.size, 4, none⟩ = some (.int .i64 nm') := HBB.out.cell 4
       have y5 : (wB.alloc (.cells #[.int .u8 kd', .bool ng', .slice la' ln' lc', .string tx', .int .i64 nm', .slice ia' im' ic', .slice ta' tn' tc'] 33)).cell? ⟨wB.heap.size, 5, none⟩ = some (.slice ia' im' ic') := HBB.out.cell 5
       have y6 : (wB.alloc (.cells #[.int .u8 kd', .bool ng', .slice la' ln' lc', .string tx', .int .i64 nm', .slice ia' im' ic', .slice ta' tn' tc'] 33)).cell? ⟨wB.heap.size, 6, none⟩ = some (.slice ta' tn' tc') := HBB.out.cell 6
       clear hT hk hA HKA HT HB)
    | (go_at_call 27
       refine (same_self t _ _ _ _ _ [.int .u8 kd, .bool ng, .slice la ln lc, .string tx, .int .i64 nm, .slice ia im ic, .slice ta tn tc] [.int .u8 kd', .bool ng', .slice la' ln' lc', .string tx', .int .i64 nm', .slice ia' im' ic', .slice ta' tn' tc'] HTA.out HTB.out).mono ?_
       rintro e wC ⟨rfl, hk⟩
       have HKC := hide (HKB.out.trans' hk (fun _ _ => id) (fun _ _ => id) : Keeps NoB w1 wC)
       have HTC := hide (TermIn.keep hk (fun _ _ => id) _ _ HTA.out)
       have HBC := hide (HBA.out.keep hk id)
       clear x0 x1 x2 x3 x4 x5 x6 y0 y1 y2 y3 y4 y5 y6
       have x0 : wC.cell? ⟨wA.heap.size, 0, none⟩ = some (.int .u8 kd) := HBC.out.cell 0
       have x1 : wC.cell? ⟨wA.heap.size, 1, none⟩ = some (.bool ng) := HBC.out.cell 1
       have x2 : wC.cell? ⟨wA.heap.size, 2, none⟩ = some (.slice la ln lc) := HBC.out.cell 2
       have x3 : wC.cell? ⟨wA.heap.size, 3, none⟩ = some (.string tx) := HBC.out.cell 3
       have x4 : wC.cell? ⟨wA.heap.size, 4, none⟩ = some (.int .i64 nm) := HBC.out.cell 4
       have x5 : wC.cell? ⟨wA.heap.size, 5, none⟩ = some (.slice ia im ic) := HBC.out.cell 5
       have x6 : wC.cell? ⟨wA.heap.size, 6, none⟩ = some (.slice ta tn tc) := HBC.out.cell 6
       clear hk HKB HTA HTB HBA HBB)
    | (go_at_call 35
       clear x0 x1 x2 x3 x4 x5 x6
       refine (turned_any wC (fun k => w1.heap.size ≤ k) _ _ _ _ _ _ _ _ _ _ _ _ _ t HTC.out).mono ?_
       rintro e wD ⟨rfl, hk⟩
       have HKD := hide (HKC.out.trans' hk (fun _ _ => id) (fun k hk h => Nat.lt_irrefl _ (Nat.lt_of_lt_of_le hk h)) : Keeps NoB w1 wD)
       clear hk HKC HTC HBC)
    | fail
  refine order_begin (fun W => Keeps NoB w1 W) (fun _ => true) (by kernel_rfl) 21 rfl ?_
  have HS : Keeps NoB w1 wD.drew := HKD.out.drew
  have HC0 := hide (show w1.cell? ⟨r, 0, none⟩ = some (.slice A n c) from by have := HP.out.ref.blk.cell 0; rw [HN.out] at this; exact this)
  clear HKD
  generalize wD.drew = W at *
  have hnn : ((n : Int) == (n : Int)) = true := by simp
  refine order_pure (i := 0) rfl (by kernel_rfl) (fun _ _ _ h => h) (.inl ⟨rfl, fun _ => by go_simp; rfl⟩) ?_
  try simp only [Act.put, List.setIfInBounds_toArray, List.set_cons_succ, List.set_cons_zero]
  refine order_pure (i := 1) rfl (by kernel_rfl) (fun _ _ _ h => h) (.inl ⟨rfl, fun _ => by go_simp; rfl⟩) ?_
  try simp only [Act.put, List.setIfInBounds_toArray, List.set_cons_succ, List.set_cons_zero]
  refine order_pure (i := 2) rfl (by kernel_rfl) (fun _ _ _ h => h) (.inl ⟨rfl, fun _ => by go_simp; rfl⟩) ?_
  try simp only [Act.put, List.setIfInBounds_toArray, List.set_cons_succ, List.set_cons_zero]
  refine order_pure (i := 4) rfl (by kernel_rfl) (fun _ _ _ h => h) (.inl ⟨rfl, fun _ => by go_simp; rfl⟩) ?_
  try simp only [Act.put, List.setIfInBounds_toArray, List.set_cons_succ, List.set_cons_zero]
  refine order_pure (i := 5) rfl (by kernel_rfl) (fun _ _ _ h => h) (.inl ⟨rfl, fun _ => by go_simp; rfl⟩) ?_
  try simp only [Act.put, List.setIfInBounds_toArray, List.set_cons_succ, List.set_cons_zero]
  refine order_pure (i := 6) rfl (by kernel_rfl) (fun _ _ _ h => h) (.inl ⟨rfl, fun _ => by go_simp; rfl⟩) ?_
  try simp only [Act.put, List.setIfInBounds_toArray, List.set_cons_succ, List.set_cons_zero]
  refine order_held (i := 7) rfl (by kernel_rfl) (fun _ _ _ h => h) (.inl ⟨rfl, fun W hW => by
    have q0 : W.cell? ⟨r, 0, none⟩ = some (.slice A n c) := hW.cell id HC0.out
    go_simp; rfl⟩) HS ?_
  try simp only [Act.put, List.setIfInBounds_toArray, List.set_cons_succ, List.set_cons_zero]
  refine order_pure (i := 8) rfl (by kernel_rfl) (fun _ _ _ h => h) (.inl ⟨rfl, fun _ => by go_simp; rfl⟩) ?_
  try simp only [Act.put, List.setIfInBounds_toArray, List.set_cons_succ, List.set_cons_zero]
  refine order_one (i := 3) rfl (by kernel_rfl) (fun K hK => ?_)
  go_simp
  refine (len_box' b sv L i n _ (HP.out.one.box.fresh HS) (by have := HLN.out; omega)).mono ?_
  rintro e w' ⟨rfl, rfl⟩
  refine hK _ _ (fun _ h => h) ?_
  clear hK
  try simp only [Act.put, List.setIfInBounds_toArray, List.set_cons_succ, List.set_cons_zero]
  refine order_pure (i := 9) rfl (by kernel_rfl) (fun _ _ _ h => h) (.inl ⟨rfl, fun _ => by go_simp; rfl⟩) ?_
  try simp only [Act.put, List.setIfInBounds_toArray, List.set_cons_succ, List.set_cons_zero]
  refine order_pure (i := 10) rfl (by kernel_rfl) (fun _ _ _ h => h) (.inl ⟨rfl, fun _ => by go_simp; rfl⟩) ?_
  try simp only [Act.put, List.setIfInBounds_toArray, List.set_cons_succ, List.set_cons_zero]
  refine order_pure (i := 11) rfl (by kernel_rfl) (fun _ _ _ h => h) (.inl ⟨rfl, fun _ => by go_simp; rfl⟩) ?_
  try simp only [Act.put, List.setIfInBounds_toArray, List.set_cons_succ, List.set_cons_zero]
  refine order_pure (i := 12) rfl (by kernel_rfl) (fun _ _ _ h => h) (.inl ⟨rfl, fun _ => by go_simp; rfl⟩) ?_
  try simp only [Act.put, List.setIfInBounds_toArray, List.set_cons_succ, List.set_cons_zero]
  refine order_pure (i := 14) rfl (by kernel_rfl) (fun _ _ _ h => h) (.inl ⟨rfl, fun _ => by go_simp; rfl⟩) ?_
  try simp only [Act.put, List.setIfInBounds_toArray, List.set_cons_succ, List.set_cons_zero]
  refine order_pure (i := 15) rfl (by kernel_rfl) (fun _ _ _ h => h) (.inl ⟨rfl, fun _ => by go_simp; rfl⟩) ?_
  try simp only [Act.put, List.setIfInBounds_toArray, List.set_cons_succ, List.set_cons_zero]
  refine order_pure (i := 16) rfl (by kernel_rfl) (fun _ _ _ h => h) (.inl ⟨rfl, fun _ => by go_simp; rfl⟩) ?_
  try simp only [Act.put, List.setIfInBounds_toArray, List.set_cons_succ, List.set_cons_zero]
  refine order_held (i := 17) rfl (by kernel_rfl) (fun _ _ _ h => h) (.inl ⟨rfl, fun W hW => by
    have q0 : W.cell? ⟨r, 0, none⟩ = some (.slice A n c) := hW.cell id HC0.out
    go_simp; rfl⟩) HS ?_
  try simp only [Act.put, List.setIfInBounds_toArray, List.set_cons_succ, List.set_cons_zero]
  refine order_one (i := 13) rfl (by kernel_rfl) (fun K hK => ?_)
  go_simp
  refine (all_box' b sv L i n us _ (HP.out.one.box.fresh HS) HLN.out HU.out hl).mono ?_
  rintro e wF ⟨A', c', css', m', rfl, h1, h2, h3, h4, h5, h6⟩
  have hkF := Keeps.of_below h6 NoB
  have HS2 : Keeps NoB w1 wF := HS.trans' hkF (fun _ _ => id) (fun _ _ => id)
  have HR := hide (And.intro h4 h5)
  refine hK _ _ (fun _ _ => HS2) ?_
  clear hK HS h1 h2 h3 h4 h5 h6 hkF
  try simp only [Act.put, List.setIfInBounds_toArray, List.set_cons_succ, List.set_cons_zero]
  refine order_one (i := 18) rfl (by kernel_rfl) (fun K hK => ?_)
  go_simp
  have hrr := (HP.out.ref.fresh HS2)
  have hrow := hrr.row.reads
  rw [HN.out] at hrow
  refine (sames_self us css' css A' A n c' n c wF (fun _ => True) (fun _ => True) true false (HR.out.1.more (fun _ _ _ => trivial)) (TermsIn.more (fun _ _ _ => trivial) _ _ HR.out.2) (hrow.weak.more (fun _ _ _ => trivial)) (TermsIn.more (fun _ _ _ => trivial) _ _ hrr.ok) (Roomy.small (by omega) (by omega))).mono ?_
  rintro e wG ⟨rfl, hk⟩
  have HS3 : Keeps NoB w1 wG := HS2.trans' hk (fun _ _ => id) (fun _ _ => id)
  refine hK _ _ (fun _ _ => HS3) ?_
  clear hK hrr hrow hk HS2
  try simp only [Act.put, List.setIfInBounds_toArray, List.set_cons_succ, List.set_cons_zero]
  refine order_pure (i := 19) rfl (by kernel_rfl) (fun _ _ _ h => h) (.inl ⟨rfl, fun _ => by go_simp; rfl⟩) ?_
  try simp only [Act.put, List.setIfInBounds_toArray, List.set_cons_succ, List.set_cons_zero]
  refine order_pure (i := 20) rfl (by kernel_rfl) (fun _ _ _ h => h) (.inl ⟨rfl, fun _ => by go_simp; rfl⟩) ?_
  try simp only [Act.put, List.setIfInBounds_toArray, List.set_cons_succ, List.set_cons_zero]
  refine order_done (by kernel_rfl) ?_
  go_wp2_with fail
  go_ret
  exact ⟨rfl, HS3⟩
end Go.Proofs.Ytmkidkfofbnjgaa
namespace Go.Proofs.Ytmkidkfofbnjgaa
open Go.RowKit

/-- Both boxes: their letters, their looks; and blocks that are neither's (P), which may be turned freely. -/
def PInv (w wr : World) (b r : Nat) (us vs : List Tm) (i j : Nat) (P : Nat → Prop) : Prop :=
  ∃ sv L A c css, Pair w wr b sv L i r A c css vs j ∧ L.map (·.t) = us ∧ ∀ k, P k → w.heap.size ≤ k ∧ k < wr.heap.size ∧ ¬ boxFp b sv k ∧ ¬ refFp r A k ∧ ∀ x ∈ L, x.misses k

section
variable {w wr w' : World} {b r i j : Nat} {us vs : List Tm} {P P' : Nat → Prop}
theorem PInv.fresh (h : PInv w wr b r us vs i j P) (k : Keeps NoB wr w') : PInv w w' b r us vs i j P := by
  obtain ⟨sv, L, A, c, css, h1, h2, h3⟩ := h
  exact ⟨sv, L, A, c, css, h1.fresh k, h2, fun x hx => ⟨(h3 x hx).1, Nat.lt_of_lt_of_le (h3 x hx).2.1 k.size, (h3 x hx).2.2⟩⟩
theorem PInv.less (h : PInv w wr b r us vs i j P) (hP : ∀ k, P' k → P k) : PInv w wr b r us vs i j P' := by
  obtain ⟨sv, L, A, c, css, h1, h2, h3⟩ := h
  exact ⟨sv, L, A, c, css, h1, h2, fun x hx => h3 x (hP x hx)⟩
/-- What is new is neither's. -/
theorem PInv.more (h : PInv w wr b r us vs i j P) (k : Keeps NoB wr w') : PInv w w' b r us vs i j (fun k => P k ∨ wr.heap.size ≤ k ∧ k < w'.heap.size) := by
  obtain ⟨sv, L, A, c, css, h1, h2, h3⟩ := h
  have hs := h1.one.keep.size
  refine ⟨sv, L, A, c, css, h1.fresh k, h2, fun x hx => ?_⟩
  rcases hx with hx | ⟨h4, h5⟩
  · exact ⟨(h3 x hx).1, Nat.lt_of_lt_of_le (h3 x hx).2.1 k.size, (h3 x hx).2.2⟩
  · refine ⟨by omega, h5, fun e => ?_, fun e => ?_, fun y hy => ?_⟩
    · have := h1.one.lt x e; omega
    · have := h1.ref.lt x e; omega
    · have := (h1.one.box.ok y hy).2.2; exact .inr (by omega)
/-- What is neither's may be turned. -/
theorem PInv.turn (h : PInv w wr b r us vs i j P) (k : Keeps P wr w') : PInv w w' b r us vs i j P := by
  obtain ⟨sv, L, A, c, css, h1, h2, h3⟩ := h
  refine ⟨sv, L, A, c, css, ⟨⟨h1.one.box.keep k (fun e => (h3 _ e).2.2.1 (.inl rfl)) (fun g hg e => (h3 _ e).2.2.1 (.inr hg)) (fun x hx k e => (h3 _ e).2.2.2.2 x hx), h1.one.keep.trans' k (fun _ _ => id) (fun k hk e => by have := (h3 k e).1; omega), h1.one.hb, h1.one.hg⟩, h1.ref.keep k (fun k hk e => (h3 k e).2.2.2.1 hk) (fun k hk e => by have := (h3 k e).1; omega), h1.hr, h1.hA, h1.sep, h1.off, h1.low⟩, h2, fun x hx => ⟨(h3 x hx).1, Nat.lt_of_lt_of_le (h3 x hx).2.1 k.size, (h3 x hx).2.2⟩⟩
theorem PInv.keep (h : PInv w wr b r us vs i j P) : Keeps NoB w wr := by
  obtain ⟨sv, L, A, c, css, h1, _⟩ := h; exact h1.one.keep
theorem PInv.lt (h : PInv w wr b r us vs i j P) {k : Nat} (hk : P k) : k < wr.heap.size := by
  obtain ⟨sv, L, A, c, css, h1, _, h3⟩ := h; exact (h3 k hk).2.1
theorem PInv.rcell (h : PInv w wr b r us vs i j P) : ∃ A c, wr.cell? ⟨r, 0, none⟩ = some (.slice A vs.length c) ∧ wr.cell? ⟨r, 1, none⟩ = some (.int .i64 j) ∧ wr.frozen? ⟨r, 1, none⟩ = false := by
  obtain ⟨sv, L, A, c, css, h1, _⟩ := h
  exact ⟨A, c, by rw [← h1.ref.len]; exact h1.ref.blk.cell 0, h1.ref.blk.cell 1, h1.ref.blk.free 1⟩
end

/-- What a step leaves: the answer, both boxes, and what is neither's as it was. -/
def Left (w wr : World) (b r : Nat) (us vs : List Tm) (i j : Nat) (P : Nat → Prop) (v : Value) (e : Ending) (w' : World) : Prop :=
  e = .returned v ∧ PInv w w' b r us vs i j P ∧ Keeps (fun k => ¬ P k) wr w'

section
variable {w wr w' : World} {b r i j : Nat} {us vs : List Tm} {P : Nat → Prop}
theorem put_p (h : PInv w wr b r us vs i j P) (hl : us.length < 1024) {kd nm : Int} {ng : Bool} {la ia ta : Option Addr} {ln lc im ic tn tc : Nat} {tx : ByteArray} {t : Tm} {B : Nat → Prop} {F : Bool} (ht : TermIn wr B F [.int .u8 kd, .bool ng, .slice la ln lc, .string tx, .int .i64 nm, .slice ia im ic, .slice ta tn tc] t) :
    Calls Try.prog 10 #[.pointer (some ⟨b, 0, none⟩), .agg #[.int .u8 kd, .bool ng, .slice la ln lc, .string tx, .int .i64 nm, .slice ia im ic, .slice ta tn tc]] wr (Left w wr b r (us ++ [t]) vs i j P (.int .i64 0)) := by
  obtain ⟨sv, L, A, c, css, h1, rfl, h3⟩ := h
  refine (put_yes b sv L i wr h1.one.box (by simpa using hl) kd ng la ln lc tx nm ia im ic ta tn tc t B F ht).mono ?_
  rintro e w' ⟨sv', x, rfl, hxt, hlo, hbox, hk, hown⟩
  have hL : ∀ y ∈ L ++ [x], y ∈ L ∨ wr.heap.size ≤ y.lo := fun y hy => by
    rcases List.mem_append.1 hy with hy | hy
    · exact .inl hy
    · rw [List.mem_singleton] at hy; subst hy; exact .inr hlo
  have hp := h1.box hk hbox hown hL
  refine ⟨rfl, ⟨sv', L ++ [x], A, c, css, hp, by rw [List.map_append, List.map_singleton, hxt], fun k hk2 => ?_⟩, hk.mono (fun k _ hf hp => (h3 k hp).2.2.1 hf)⟩
  obtain ⟨p1, p2, p3, p4, p5⟩ := h3 k hk2
  refine ⟨p1, Nat.lt_of_lt_of_le p2 hk.size, fun hf => ?_, p4, fun y hy => ?_⟩
  · rcases hf with e | hf
    · exact p3 (.inl e)
    · rcases hown with e | ⟨g, e, hg⟩
      · exact p3 (.inr (e ▸ hf))
      · rw [e] at hf; injection hf with hf; omega
  · rcases hL y hy with hy | hy
    · exact p5 y hy
    · exact .inl (by omega)
theorem ref_put_p (h : PInv w wr b r us vs i j P) (hl : vs.length < 1024) {kd nm : Int} {ng : Bool} {la ia ta : Option Addr} {ln lc im ic tn tc : Nat} {tx : ByteArray} {t : Tm} {F : Bool} (ht : TermIn wr (fun k => k < w.heap.size) F [.int .u8 kd, .bool ng, .slice la ln lc, .string tx, .int .i64 nm, .slice ia im ic, .slice ta tn tc] t) :
    Calls Try.prog 11 #[.pointer (some ⟨r, 0, none⟩), .agg #[.int .u8 kd, .bool ng, .slice la ln lc, .string tx, .int .i64 nm, .slice ia im ic, .slice ta tn tc]] wr (Left w wr b r us (vs ++ [t]) i j P (.int .i64 0)) := by
  obtain ⟨sv, L, A, c, css, h1, h2, h3⟩ := h
  refine (ref_put r A c css vs _ j wr h1.ref (by rw [h1.ref.len]; exact hl) h1.refB kd ng la ln lc tx nm ia im ic ta tn tc t F ht).mono ?_
  rintro e w' ⟨A', c', rfl, hr, hk, hm⟩
  refine ⟨rfl, ⟨sv, L, A', c', _, h1.doc hk hr hm, h2, fun k hk2 => ?_⟩, hk.mono (fun k _ hf hp => (h3 k hp).2.2.2.1 hf)⟩
  obtain ⟨p1, p2, p3, p4, p5⟩ := h3 k hk2
  refine ⟨p1, Nat.lt_of_lt_of_le p2 hk.size, p3, fun hf => ?_, p5⟩
  rcases hf with e | hf
  · exact p4 (.inl e)
  · rcases hm k hf with e | e
    · exact p4 (.inr e)
    · omega

/-- Skip's answer. -/
def SkipAt (us : List Tm) (i : Nat) (code : Int) (i' : Nat) : Prop := (code = 0 ∧ i < us.length ∧ i' = i + 1) ∨ (code = 6 ∧ us.length ≤ i ∧ i' = i)
theorem skipAt_any (us : List Tm) (i : Nat) : ∃ code i', SkipAt us i code i' := by
  by_cases h : i < us.length
  · exact ⟨0, i + 1, .inl ⟨rfl, h, rfl⟩⟩
  · exact ⟨6, i, .inr ⟨rfl, by omega, rfl⟩⟩
theorem skip_p (h : PInv w wr b r us vs i j P) (hl : us.length ≤ 1024) {code : Int} {i' : Nat} (hs : SkipAt us i code i') :
    Calls Try.prog 14 #[.pointer (some ⟨b, 0, none⟩)] wr (Left w wr b r us vs i' j P (.int .i64 code)) := by
  obtain ⟨sv, L, A, c, css, h1, rfl, h3⟩ := h
  rcases hs with ⟨rfl, hi, rfl⟩ | ⟨rfl, hi, rfl⟩
  · refine (skip_yes b sv L i wr h1.one.box (by simpa using hi) (by simpa using hl)).mono ?_
    rintro e w' ⟨rfl, hbox, hk⟩
    have hk2 := hk.mono (fp' := boxFp b sv) (fun _ _ e => .inl e)
    exact ⟨rfl, ⟨sv, L, A, c, css, h1.box hk2 hbox (.inl rfl) (fun x hx => .inl hx), rfl, fun k hk => ⟨(h3 k hk).1, Nat.lt_of_lt_of_le (h3 k hk).2.1 hk2.size, (h3 k hk).2.2⟩⟩, hk2.mono (fun k _ hf hp => (h3 k hp).2.2.1 hf)⟩
  · refine (skip_no b sv L i' wr h1.one.box (by simpa using hi)).mono ?_
    rintro e w' ⟨rfl, hk⟩
    exact ⟨rfl, (show PInv w wr b r _ vs i' j P from ⟨sv, L, A, c, css, h1, rfl, h3⟩).fresh hk, hk.mono (fun _ _ h => h.elim)⟩
theorem ref_skip_p (h : PInv w wr b r us vs i j P) (hl : vs.length ≤ 1024) {code : Int} {j' : Nat} (hs : SkipAt vs j code j') :
    Calls Try.prog 15 #[.pointer (some ⟨r, 0, none⟩)] wr (Left w wr b r us vs i j' P (.int .i64 code)) := by
  obtain ⟨sv, L, A, c, css, h1, h2, h3⟩ := h
  rcases hs with ⟨rfl, hi, rfl⟩ | ⟨rfl, hi, rfl⟩
  · refine (ref_skip_yes r A c css vs _ j wr h1.ref (by rw [h1.ref.len]; exact hi) (by rw [h1.ref.len]; omega) (by have := h1.hr; omega)).mono ?_
    rintro e w' ⟨rfl, hr, hk⟩
    have hk2 := hk.mono (fp' := refFp r A) (fun _ _ e => .inl e)
    exact ⟨rfl, ⟨sv, L, A, c, css, h1.doc hk2 hr (Moved.same _ _), h2, fun k hk => ⟨(h3 k hk).1, Nat.lt_of_lt_of_le (h3 k hk).2.1 hk2.size, (h3 k hk).2.2⟩⟩, hk2.mono (fun k _ hf hp => (h3 k hp).2.2.2.1 hf)⟩
  · refine (ref_skip_no r A c css vs _ j' wr h1.ref (by rw [h1.ref.len]; exact hi)).mono ?_
    rintro e w' ⟨rfl, hk⟩
    exact ⟨rfl, (show PInv w wr b r us vs i j' P from ⟨sv, L, A, c, css, h1, h2, h3⟩).fresh hk, hk.mono (fun _ _ h => h.elim)⟩

theorem begin_p (h : PInv w wr b r us vs i j P) :
    Calls Try.prog 23 #[.pointer (some ⟨b, 0, none⟩)] wr (Left w wr b r us vs 0 j P (.tuple #[])) := by
  obtain ⟨sv, L, A, c, css, h1, h2, h3⟩ := h
  refine (begin_box b sv L i wr h1.one.box).mono ?_
  rintro e w' ⟨rfl, hbox, hk⟩
  have hk2 := hk.mono (fp' := boxFp b sv) (fun _ _ e => .inl e)
  exact ⟨rfl, ⟨sv, L, A, c, css, h1.box hk2 hbox (.inl rfl) (fun x hx => .inl hx), h2, fun k hk => ⟨(h3 k hk).1, Nat.lt_of_lt_of_le (h3 k hk).2.1 hk2.size, (h3 k hk).2.2⟩⟩, hk2.mono (fun k _ hf hp => (h3 k hp).2.2.1 hf)⟩

/-- Take's answer. -/
def TakeAt (us : List Tm) (i : Nat) (t : Tm) (code : Int) (us' : List Tm) (i' : Nat) : Prop := (code = 0 ∧ us[i]? = some t ∧ us' = us.eraseIdx i ∧ i' = 0) ∨ (code = 6 ∧ us.length ≤ i ∧ t = zTm ∧ us' = us ∧ i' = i)
theorem takeAt_any (us : List Tm) (i : Nat) : ∃ t code us' i', TakeAt us i t code us' i' := by
  by_cases h : i < us.length
  · exact ⟨us[i], 0, _, 0, .inl ⟨rfl, List.getElem?_eq_getElem h, rfl, rfl⟩⟩
  · exact ⟨zTm, 6, us, i, .inr ⟨rfl, by omega, rfl, rfl, rfl⟩⟩
theorem map_erase {α β : Type} (f : α → β) : ∀ (L : List α) (i : Nat), (L.eraseIdx i).map f = (L.map f).eraseIdx i
  | [], _ => rfl
  | _ :: _, 0 => rfl
  | x :: L, i + 1 => by simp [map_erase f L i]
theorem apart_erase {L : List Lt} {i : Nat} {x y : Lt} (h : L.Pairwise fun x y => x.hi ≤ y.lo) (hx : L[i]? = some x) (hy : y ∈ L.eraseIdx i) : x.hi ≤ y.lo ∨ y.hi ≤ x.lo := by
  obtain ⟨k, hk, hy⟩ := List.mem_eraseIdx_iff_getElem?.1 hy
  obtain ⟨h1, e1⟩ := List.getElem?_eq_some_iff.1 hx
  obtain ⟨h2, e2⟩ := List.getElem?_eq_some_iff.1 hy
  have hp := List.pairwise_iff_getElem.1 h
  rcases Nat.lt_or_gt_of_ne hk with h3 | h3
  · have := hp k i h2 h1 h3; rw [e1, e2] at this; exact .inr this
  · have := hp i k h1 h2 h3; rw [e1, e2] at this; exact .inl this
def LeftT (w wr : World) (b r : Nat) (us vs : List Tm) (i j : Nat) (P : Nat → Prop) (t : Tm) (code : Int) (e : Ending) (w' : World) : Prop :=
  ∃ kd ng la ln lc tx nm ia im ic ta tn tc T, e = .returned (.tuple #[.agg #[.int .u8 kd, .bool ng, .slice la ln lc, .string tx, .int .i64 nm, .slice ia im ic, .slice ta tn tc], .int .i64 code]) ∧ TermIn w' T true [.int .u8 kd, .bool ng, .slice la ln lc, .string tx, .int .i64 nm, .slice ia im ic, .slice ta tn tc] t ∧ PInv w w' b r us vs i j (fun k => P k ∨ T k) ∧ Keeps (fun k => ¬ P k) wr w' ∧ ∀ k, T k → ¬ P k
theorem take_p (h : PInv w wr b r us vs i j P) (hl : us.length ≤ 1024) {t : Tm} {code : Int} {us' : List Tm} {i' : Nat} (hs : TakeAt us i t code us' i') :
    Calls Try.prog 16 #[.pointer (some ⟨b, 0, none⟩)] wr (LeftT w wr b r us' vs i' j P t code) := by
  obtain ⟨sv, L, A, c, css, h1, rfl, h3⟩ := h
  rcases hs with ⟨rfl, ht, rfl, rfl⟩ | ⟨rfl, hi, rfl, rfl, rfl⟩
  · obtain ⟨x, hx, hxt⟩ := nth_term rfl ht
    have hi := (List.getElem?_eq_some_iff.1 hx).1
    refine (take_yes b sv L i (L.length - (i + 1)) x wr h1.one.box hx (by omega) (by simpa using hl)).mono ?_
    rintro e w' ⟨v0, v1, v2, v3, v4, v5, v6, sv', hcs, rfl, hbox, hk, hok, hown⟩
    have hT := hok.1
    rw [hcs, hxt] at hT
    obtain ⟨kd, ng, la, ln, lc, tx, nm, ia, im, ic, ta, tn, tc, e, _⟩ := hT.cells
    simp only [List.cons.injEq, and_true] at e
    obtain ⟨rfl, rfl, rfl, rfl, rfl, rfl, rfl⟩ := e
    have hxL : x ∈ L := by obtain ⟨_, e⟩ := List.getElem?_eq_some_iff.1 hx; exact e ▸ List.getElem_mem _
    refine ⟨kd, ng, la, ln, lc, tx, nm, ia, im, ic, ta, tn, tc, fun k => x.lo ≤ k ∧ k < x.hi, rfl, hT, ⟨sv', L.eraseIdx i, A, c, css, h1.box hk hbox (.inl hown) (fun y hy => .inl (List.mem_of_mem_eraseIdx hy)), map_erase _ _ _, fun k hk2 => ?_⟩, hk.mono (fun k _ hf hp => (h3 k hp).2.2.1 hf), fun k ⟨hk1, hk2⟩ hp => by rcases (h3 k hp).2.2.2.2 x hxL with h | h <;> omega⟩
    rcases hk2 with hk2 | ⟨hk2, hk3⟩
    · obtain ⟨p1, p2, p3, p4, p5⟩ := h3 k hk2
      exact ⟨p1, Nat.lt_of_lt_of_le p2 hk.size, fun hf => hf.elim (fun e => p3 (.inl e)) (fun e => p3 (.inr (hown ▸ e))), p4, fun y hy => p5 y (List.mem_of_mem_eraseIdx hy)⟩
    · have q1 := h1.low x hxL
      have q2 := hok.2.2
      have q3 := h1.one.box.off x hxL
      refine ⟨by omega, by omega, fun hf => ?_, fun hf => ?_, fun y hy => ?_⟩
      · rcases hf with rfl | hf
        · rcases q3.1 with h | h <;> omega
        · rcases q3.2 k (hown ▸ hf) with h | h <;> omega
      · rcases h1.off x hxL k hf with h | h <;> omega
      · rcases apart_erase h1.one.box.apart hx hy with h | h
        · exact .inl (by omega)
        · exact .inr (by omega)
  · refine (take_no b sv L i' wr h1.one.box (by simpa using hi)).mono ?_
    rintro e w' ⟨rfl, hk⟩
    exact ⟨0, false, none, 0, 0, ⟨#[]⟩, 0, none, 0, 0, none, 0, 0, fun _ => False, rfl, flat_in _ _ _ _ _ _, ((show PInv w wr b r _ vs i' j P from ⟨sv, L, A, c, css, h1, rfl, h3⟩).fresh hk).less (fun k h => h.elim id (fun h => h.elim)), hk.mono (fun _ _ h => h.elim), fun _ h => h.elim⟩
def LeftR (w wr : World) (b r : Nat) (us vs : List Tm) (i j : Nat) (P : Nat → Prop) (t : Tm) (code : Int) (e : Ending) (w' : World) : Prop :=
  ∃ kd ng la ln lc tx nm ia im ic ta tn tc, e = .returned (.tuple #[.agg #[.int .u8 kd, .bool ng, .slice la ln lc, .string tx, .int .i64 nm, .slice ia im ic, .slice ta tn tc], .int .i64 code]) ∧ TermIn w' (fun k => k < w.heap.size) false [.int .u8 kd, .bool ng, .slice la ln lc, .string tx, .int .i64 nm, .slice ia im ic, .slice ta tn tc] t ∧ PInv w w' b r us vs i j P ∧ Keeps (fun k => ¬ P k) wr w'
theorem ref_take_p (h : PInv w wr b r us vs i j P) (hl : vs.length ≤ 1024) {t : Tm} {code : Int} {vs' : List Tm} {j' : Nat} (hs : TakeAt vs j t code vs' j') :
    Calls Try.prog 17 #[.pointer (some ⟨r, 0, none⟩)] wr (LeftR w wr b r us vs' i j' P t code) := by
  obtain ⟨sv, L, A, c, css, h1, h2, h3⟩ := h
  rcases hs with ⟨rfl, ht, rfl, rfl⟩ | ⟨rfl, hi, rfl, rfl, rfl⟩
  · refine (ref_take_yes r A c css vs t _ j wr h1.ref (by rw [h1.ref.len]; exact (List.getElem?_eq_some_iff.1 ht).1) ht (by rw [h1.ref.len]; exact hl) (by have := h1.hr; omega)).mono ?_
    rintro e w' ⟨kd, ng, la, ln, lc, tx, nm, ia, im, ic, ta, tn, tc, A', c', rfl, hT, hr, hk, hA⟩
    have hk2 := hk.mono (fp' := refFp r A) (fun _ _ e => .inl e)
    refine ⟨kd, ng, la, ln, lc, tx, nm, ia, im, ic, ta, tn, tc, rfl, hT, ⟨sv, L, A', c', _, h1.doc hk2 hr (Moved.new hA), h2, fun k hk3 => ?_⟩, hk2.mono (fun k _ hf hp => (h3 k hp).2.2.2.1 hf)⟩
    obtain ⟨p1, p2, p3, p4, p5⟩ := h3 k hk3
    exact ⟨p1, Nat.lt_of_lt_of_le p2 hk.size, p3, fun hf => hf.elim (fun e => p4 (.inl e)) (fun e => by have := hA k e; omega), p5⟩
  · refine (ref_take_no r A c css vs' _ j' wr h1.ref (by rw [h1.ref.len]; exact hi)).mono ?_
    rintro e w' ⟨rfl, hk⟩
    exact ⟨0, false, none, 0, 0, ⟨#[]⟩, 0, none, 0, 0, none, 0, 0, rfl, flat_in _ _ _ _ _ _, (show PInv w wr b r us vs' i j' P from ⟨sv, L, A, c, css, h1, h2, h3⟩).fresh hk, hk.mono (fun _ _ h => h.elim)⟩
theorem like_p (h : PInv w wr b r us us i i P) (hl : us.length ≤ 1024) :
    Calls Try.prog 18 #[.pointer (some ⟨b, 0, none⟩), .pointer (some ⟨r, 0, none⟩)] wr fun e w' => e = .returned (.bool true) ∧ PInv w w' b r us us i i P ∧ Keeps NoB wr w' := by
  obtain ⟨sv, L, A, c, css, h1, h2, h3⟩ := h
  refine (like_any b sv L i r A c css us w wr h1 h2 (by rw [← List.length_map (·.t), h2]; exact hl)).mono ?_
  rintro e w' ⟨rfl, hk⟩
  exact ⟨rfl, (show PInv w wr b r us us i i P from ⟨sv, L, A, c, css, h1, h2, h3⟩).fresh hk, hk⟩
end
end Go.Proofs.Ytmkidkfofbnjgaa
