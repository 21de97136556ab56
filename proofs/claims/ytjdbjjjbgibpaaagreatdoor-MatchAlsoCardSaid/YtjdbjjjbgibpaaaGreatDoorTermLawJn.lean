/- Words on slices that were wanted later. Terms as trees, and what cells read as them. A term's size, and whether it is right (term.size, as the program tells it). -/
import Derived.Test.YtjdbjjjbgibpaaaGreatDoorSeqJn
import Derived.Test.YtjdbjjjbgibpaaaGreatDoorRows
namespace Go.Proofs.YtjdbjjjbgibpaaaGreatDoor
open Go.RowKit

theorem Slab.put1 {w : World} {e : TypeId} {size n c g o j : Nat} {xs : List Value} (h : Slab w e size (some ⟨g, o, none⟩) n c xs) (hj : j < n * size) (v : Value) : Slab (w.setCell ⟨g, o + j, none⟩ v) e size (some ⟨g, o, none⟩) n c (xs.set j v) := by
  obtain ⟨hl, hn, hm, ⟨h0, _⟩ | ⟨g', o', cur, h0, hb, hs, hw⟩⟩ := h
  · cases h0
  · injection h0 with h0; injection h0 with h0 h1; subst h0; subst h1
    refine Slab.mk' (by simpa using hl) hn hm (hb.put (o + j) v) (by simpa using hs) (fun i hi => ?_)
    rw [Array.getElem?_setIfInBounds]
    by_cases e : j = i
    · subst e
      have hle := Nat.mul_le_mul_right size hn
      rw [if_pos (by omega), if_pos (by omega), List.getElem?_set_self (by omega)]
    · rw [if_neg (by omega), List.getElem?_set_ne e]
      exact window_get hw hi

theorem Slab.made (w : World) (e : TypeId) (size : Nat) : Slab (w.alloc (.cells #[] e)) e size (some ⟨w.heap.size, 0, none⟩) 0 0 [] :=
  ⟨by simp, Nat.le_refl _, Nat.zero_le _, .inr ⟨w.heap.size, 0, #[], rfl, Blk.new w e #[], by simp, by simp⟩⟩
section
variable {P : Program} {ops : Array Oper} {Q : Exit → Act → World → Prop} {S T : World → Prop} {need : Nat → Bool}
end
end Go.Proofs.YtjdbjjjbgibpaaaGreatDoor
namespace Go.Proofs.YtjdbjjjbgibpaaaGreatDoor
open Go.RowKit

/-- A term as a tree. -/
inductive Tm where
  | mk (kind : Int) (neg : Bool) (limbs : List Int) (text : ByteArray) (num : Int) (items tail : List Tm)

def Tm.size : Tm → Nat
  | .mk _ _ _ _ _ items tail => 1 + sizes items + sizes tail
where sizes : List Tm → Nat
  | [] => 0
  | t :: ts => t.size + sizes ts + 1

def Tm.kind : Tm → Int | .mk k _ _ _ _ _ _ => k
def Tm.text : Tm → ByteArray | .mk _ _ _ s _ _ _ => s
def Tm.num : Tm → Int | .mk _ _ _ _ n _ _ => n

/-- A slice's length, and its capacity. -/
def RoomC (n c bytes : Nat) : Prop := Roomy n bytes ∧ n ≤ c ∧ c ≤ maxLen
theorem RoomC.zero (bytes : Nat) : RoomC 0 0 bytes := ⟨by unfold Roomy; omega, Nat.le_refl _, Nat.zero_le _⟩
mutual
/-- Seven cells read as a term. -/
def TermIn (w : World) (B : Nat → Prop) (F : Bool) : List Value → Tm → Prop
  | cs, .mk k neg limbs text num items tail => ∃ la ln lc ia im ic ta tn tc css dss,
      cs = [.int .u8 k, .bool neg, .slice la ln lc, .string text, .int .i64 num, .slice ia im ic, .slice ta tn tc] ∧
      (RoomC ln lc 4 ∧ RoomC im ic 104 ∧ RoomC tn tc 104) ∧
      Reads w B F 1 la ln (limbs.map (Value.int .u32)) ∧ Reads w B F 7 ia im css.flatten ∧ TermsIn w B F css items ∧ Reads w B F 7 ta tn dss.flatten ∧ TermsIn w B F dss tail
def TermsIn (w : World) (B : Nat → Prop) (F : Bool) : List (List Value) → List Tm → Prop
  | [], [] => True
  | cs :: css, t :: ts => TermIn w B F cs t ∧ TermsIn w B F css ts
  | [], _ :: _ => False
  | _ :: _, [] => False
end

mutual
theorem TermIn.keep {w w' : World} {B : Nat → Prop} {F : Bool} {fp : Nat → Prop} (hk : Keeps fp w w') (hf : ∀ k, B k → ¬ fp k) : ∀ (t : Tm) (cs : List Value), TermIn w B F cs t → TermIn w' B F cs t
  | .mk k neg limbs text num items tail, cs, h => by
    unfold TermIn at h ⊢
    obtain ⟨la, ln, lc, ia, im, ic, ta, tn, tc, css, dss, e, hb, h1, h2, h3, h4, h5⟩ := h
    exact ⟨la, ln, lc, ia, im, ic, ta, tn, tc, css, dss, e, hb, h1.keep hk hf, h2.keep hk hf, TermsIn.keep hk hf items css h3, h4.keep hk hf, TermsIn.keep hk hf tail dss h5⟩
theorem TermsIn.keep {w w' : World} {B : Nat → Prop} {F : Bool} {fp : Nat → Prop} (hk : Keeps fp w w') (hf : ∀ k, B k → ¬ fp k) : ∀ (ts : List Tm) (css : List (List Value)), TermsIn w B F css ts → TermsIn w' B F css ts
  | [], [], _ => by unfold TermsIn; trivial
  | t :: ts, cs :: css, h => by
    unfold TermsIn at h ⊢
    exact ⟨TermIn.keep hk hf t cs h.1, TermsIn.keep hk hf ts css h.2⟩
  | [], _ :: _, h => by unfold TermsIn at h; exact h.elim
  | _ :: _, [], h => by unfold TermsIn at h; exact h.elim
end

mutual
theorem TermIn.more {w : World} {B B' : Nat → Prop} {F : Bool} (hB : ∀ k, k < w.heap.size → B k → B' k) : ∀ (t : Tm) (cs : List Value), TermIn w B F cs t → TermIn w B' F cs t
  | .mk k neg limbs text num items tail, cs, h => by
    unfold TermIn at h ⊢
    obtain ⟨la, ln, lc, ia, im, ic, ta, tn, tc, css, dss, e, hb, h1, h2, h3, h4, h5⟩ := h
    exact ⟨la, ln, lc, ia, im, ic, ta, tn, tc, css, dss, e, hb, h1.more hB, h2.more hB, TermsIn.more hB items css h3, h4.more hB, TermsIn.more hB tail dss h5⟩
theorem TermsIn.more {w : World} {B B' : Nat → Prop} {F : Bool} (hB : ∀ k, k < w.heap.size → B k → B' k) : ∀ (ts : List Tm) (css : List (List Value)), TermsIn w B F css ts → TermsIn w B' F css ts
  | [], [], _ => by unfold TermsIn; trivial
  | t :: ts, cs :: css, h => by
    unfold TermsIn at h ⊢
    exact ⟨TermIn.more hB t cs h.1, TermsIn.more hB ts css h.2⟩
  | [], _ :: _, h => by unfold TermsIn at h; exact h.elim
  | _ :: _, [], h => by unfold TermsIn at h; exact h.elim
end

theorem TermIn.len {w : World} {B : Nat → Prop} {F : Bool} {t : Tm} {cs : List Value} (h : TermIn w B F cs t) : cs.length = 7 := by
  cases t
  unfold TermIn at h
  obtain ⟨la, ln, lc, ia, im, ic, ta, tn, tc, css, dss, rfl, _⟩ := h
  rfl

theorem TermsIn.lens {w : World} {B : Nat → Prop} {F : Bool} : ∀ {ts : List Tm} {css : List (List Value)}, TermsIn w B F css ts → css.length = ts.length ∧ ∀ c ∈ css, c.length = 7
  | [], [], _ => ⟨rfl, fun _ h => by cases h⟩
  | t :: ts, cs :: css, h => by
    unfold TermsIn at h
    obtain ⟨h1, h2⟩ := TermsIn.lens h.2
    refine ⟨by simp [h1], fun c hc => ?_⟩
    rcases List.mem_cons.1 hc with rfl | hc
    · exact h.1.len
    · exact h2 c hc
  | [], _ :: _, h => by unfold TermsIn at h; exact h.elim
  | _ :: _, [], h => by unfold TermsIn at h; exact h.elim

theorem TermsIn.get {w : World} {B : Nat → Prop} {F : Bool} : ∀ {ts : List Tm} {css : List (List Value)}, TermsIn w B F css ts → ∀ i (h1 : i < css.length) (h2 : i < ts.length), TermIn w B F css[i] ts[i]
  | [], [], _, i, h1, _ => by simp at h1
  | t :: ts, cs :: css, h, i, h1, h2 => by
    unfold TermsIn at h
    cases i with
    | zero => exact h.1
    | succ i => exact TermsIn.get h.2 i (by simpa using h1) (by simpa using h2)
  | [], _ :: _, h, _, _, _ => by unfold TermsIn at h; exact h.elim
  | _ :: _, [], h, _, _, _ => by unfold TermsIn at h; exact h.elim

theorem TermsIn.append {w : World} {B : Nat → Prop} {F : Bool} : ∀ {ts us : List Tm} {css dss : List (List Value)}, TermsIn w B F css ts → TermsIn w B F dss us → TermsIn w B F (css ++ dss) (ts ++ us)
  | [], us, [], dss, _, k => k
  | t :: ts, us, cs :: css, dss, h, k => by
    unfold TermsIn at h
    rw [List.cons_append, List.cons_append]
    unfold TermsIn
    exact ⟨h.1, TermsIn.append h.2 k⟩
  | [], _, _ :: _, _, h, _ => by unfold TermsIn at h; exact h.elim
  | _ :: _, _, [], _, h, _ => by unfold TermsIn at h; exact h.elim

theorem TermsIn.one {w : World} {B : Nat → Prop} {F : Bool} {t : Tm} {cs : List Value} (h : TermIn w B F cs t) : TermsIn w B F [cs] [t] := by
  unfold TermsIn
  exact ⟨h, by unfold TermsIn; trivial⟩

mutual
/-- What a term's cells are: each is one cell. -/
theorem TermIn.ones {w : World} {B : Nat → Prop} {F : Bool} : ∀ (t : Tm) (cs : List Value), TermIn w B F cs t → ∀ u ∈ cs, u.oneCell' = true
  | .mk k neg limbs text num items tail, cs, h, u, hu => by
    unfold TermIn at h
    obtain ⟨la, ln, lc, ia, im, ic, ta, tn, tc, css, dss, rfl, _⟩ := h
    simp only [List.mem_cons, List.not_mem_nil, or_false] at hu
    rcases hu with rfl | rfl | rfl | rfl | rfl | rfl | rfl <;> rfl
theorem TermsIn.ones {w : World} {B : Nat → Prop} {F : Bool} : ∀ (ts : List Tm) (css : List (List Value)), TermsIn w B F css ts → ∀ u ∈ css.flatten, u.oneCell' = true
  | [], [], _, u, hu => by simp at hu
  | t :: ts, cs :: css, h, u, hu => by
    unfold TermsIn at h
    rw [List.flatten_cons, List.mem_append] at hu
    rcases hu with hu | hu
    · exact TermIn.ones t cs h.1 u hu
    · exact TermsIn.ones ts css h.2 u hu
  | [], _ :: _, h, _, _ => by unfold TermsIn at h; exact h.elim
  | _ :: _, [], h, _, _ => by unfold TermsIn at h; exact h.elim
end

theorem flat_set7 {v0 v1 v2 v3 v4 v5 v6 : Value} : ∀ {css : List (List Value)}, (∀ c ∈ css, c.length = 7) → ∀ k, k < css.length →
    (((((((css.flatten.set (k * 7) v0).set (k * 7 + 1) v1).set (k * 7 + 2) v2).set (k * 7 + 3) v3).set (k * 7 + 4) v4).set (k * 7 + 5) v5).set (k * 7 + 6) v6) = (css.set k [v0, v1, v2, v3, v4, v5, v6]).flatten
  | [], _, k, h1 => by simp at h1
  | c :: css, h, k, h1 => by
    have hc := h c List.mem_cons_self
    match c, hc with
    | [a0, a1, a2, a3, a4, a5, a6], _ =>
      cases k with
      | zero => simp
      | succ k =>
        have ih := flat_set7 (v0 := v0) (v1 := v1) (v2 := v2) (v3 := v3) (v4 := v4) (v5 := v5) (v6 := v6) (fun d hd => h d (List.mem_cons_of_mem _ hd)) k (by simpa using h1)
        rw [List.set_cons_succ, List.flatten_cons, List.flatten_cons, ← ih]
        have e : (k + 1) * 7 = k * 7 + 7 := by omega
        rw [e]
        rfl

/-- The k-th of terms: its cells, and what they read as. -/
theorem TermsIn.at {w : World} {B : Nat → Prop} {F : Bool} : ∀ {ts : List Tm} {css : List (List Value)}, TermsIn w B F css ts → ∀ k, k < css.length →
    ∃ kd ng la ln lc tx nm ia im ic ta tn tc limbs items tail dss ess, css[k]? = some [.int .u8 kd, .bool ng, .slice la ln lc, .string tx, .int .i64 nm, .slice ia im ic, .slice ta tn tc] ∧ ts[k]? = some (.mk kd ng limbs tx nm items tail) ∧
      (RoomC ln lc 4 ∧ RoomC im ic 104 ∧ RoomC tn tc 104) ∧ Reads w B F 1 la ln (limbs.map (Value.int .u32)) ∧ Reads w B F 7 ia im (List.flatten dss) ∧ TermsIn w B F dss items ∧ Reads w B F 7 ta tn (List.flatten ess) ∧ TermsIn w B F ess tail ∧
      Tm.size.sizes items + Tm.size.sizes tail + 1 ≤ Tm.size.sizes ts
  | [], [], _, k, h1 => by simp at h1
  | t :: ts, cs :: css, h, k, h1 => by
    unfold TermsIn at h
    cases k with
    | zero =>
      obtain ⟨h0, _⟩ := h
      cases t with
      | mk kd ng limbs tx nm items tail =>
        unfold TermIn at h0
        obtain ⟨la, ln, lc, ia, im, ic, ta, tn, tc, dss, ess, rfl, hb, h1, h2, h3, h4, h5⟩ := h0
        exact ⟨kd, ng, la, ln, lc, tx, nm, ia, im, ic, ta, tn, tc, limbs, items, tail, dss, ess, rfl, rfl, hb, h1, h2, h3, h4, h5, by simp only [Tm.size.sizes, Tm.size]; omega⟩
    | succ k =>
      obtain ⟨kd, ng, la, ln, lc, tx, nm, ia, im, ic, ta, tn, tc, limbs, items, tail, dss, ess, e1, e2, hb, h1, h2, h3, h4, h5, hz⟩ := TermsIn.at h.2 k (by simpa using h1)
      exact ⟨kd, ng, la, ln, lc, tx, nm, ia, im, ic, ta, tn, tc, limbs, items, tail, dss, ess, by simpa using e1, by simpa using e2, hb, h1, h2, h3, h4, h5, by simp only [Tm.size.sizes]; omega⟩
  | [], _ :: _, h, _, _ => by unfold TermsIn at h; exact h.elim
  | _ :: _, [], h, _, _ => by unfold TermsIn at h; exact h.elim

theorem flat_cells {css : List (List Value)} {k : Nat} {v0 v1 v2 v3 v4 v5 v6 : Value} (h7 : ∀ c ∈ css, c.length = 7) (h : css[k]? = some [v0, v1, v2, v3, v4, v5, v6]) :
    css.flatten[k * 7]? = some v0 ∧ css.flatten[k * 7 + 1]? = some v1 ∧ css.flatten[k * 7 + 2]? = some v2 ∧ css.flatten[k * 7 + 3]? = some v3 ∧ css.flatten[k * 7 + 4]? = some v4 ∧ css.flatten[k * 7 + 5]? = some v5 ∧ css.flatten[k * 7 + 6]? = some v6 := by
  obtain ⟨hk, he⟩ := List.getElem?_eq_some_iff.1 h
  have g := fun j hj => flat_get h7 k hk j hj
  rw [he] at g
  exact ⟨by simpa using g 0 (by omega), g 1 (by omega), g 2 (by omega), g 3 (by omega), g 4 (by omega), g 5 (by omega), g 6 (by omega)⟩

mutual
theorem TermIn.weak {w : World} {B : Nat → Prop} {F : Bool} : ∀ (t : Tm) (cs : List Value), TermIn w B F cs t → TermIn w B false cs t
  | .mk k neg limbs text num items tail, cs, h => by
    unfold TermIn at h ⊢
    obtain ⟨la, ln, lc, ia, im, ic, ta, tn, tc, css, dss, e, hb, h1, h2, h3, h4, h5⟩ := h
    exact ⟨la, ln, lc, ia, im, ic, ta, tn, tc, css, dss, e, hb, h1.weak, h2.weak, TermsIn.weak items css h3, h4.weak, TermsIn.weak tail dss h5⟩
theorem TermsIn.weak {w : World} {B : Nat → Prop} {F : Bool} : ∀ (ts : List Tm) (css : List (List Value)), TermsIn w B F css ts → TermsIn w B false css ts
  | [], [], _ => by unfold TermsIn; trivial
  | t :: ts, cs :: css, h => by
    unfold TermsIn at h ⊢
    exact ⟨TermIn.weak t cs h.1, TermsIn.weak ts css h.2⟩
  | [], _ :: _, h => by unfold TermsIn at h; exact h.elim
  | _ :: _, [], h => by unfold TermsIn at h; exact h.elim
end

theorem TermIn.cells {w : World} {B : Nat → Prop} {F : Bool} {cs : List Value} {t : Tm} (h : TermIn w B F cs t) :
    ∃ kd ng la ln lc tx nm ia im ic ta tn tc, cs = [.int .u8 kd, .bool ng, .slice la ln lc, .string tx, .int .i64 nm, .slice ia im ic, .slice ta tn tc] ∧ kd = t.kind ∧ tx = t.text ∧ nm = t.num := by
  cases t
  unfold TermIn at h
  obtain ⟨la, ln, lc, ia, im, ic, ta, tn, tc, css, dss, e, _⟩ := h
  exact ⟨_, _, la, ln, lc, _, _, ia, im, ic, ta, tn, tc, e, rfl, rfl, rfl⟩

theorem Reads.sub {w : World} {B : Nat → Prop} {F : Bool} {g o n i : Nat} {css : List (List Value)} {c : List Value} (h : Reads w B F 7 (some ⟨g, o, none⟩) n css.flatten) (h7 : ∀ c ∈ css, c.length = 7) (hi : css[i]? = some c) :
    Reads w B F 7 (some ⟨g, o + i * 7, none⟩) 1 (List.flatten [c]) := by
  obtain ⟨hlt, he⟩ := List.getElem?_eq_some_iff.1 hi
  have hc7 : c.length = 7 := h7 c (he ▸ List.getElem_mem hlt)
  have hn : css.length = n := by have := h.1; rw [flat_len h7] at this; omega
  refine ⟨by simp [hc7], fun _ => ?_⟩
  obtain ⟨ad, e, hs, hb, hl, hcell⟩ := h.2 (by omega)
  injection e with e
  subst e
  refine ⟨_, rfl, rfl, hb, hl, fun j u hu => ?_⟩
  have hj : j < 7 := by
    have := (List.getElem?_eq_some_iff.1 hu).1
    simp at this; omega
  have := hcell (i * 7 + j) u (by rw [flat_get h7 i hlt j hj, he]; simpa using hu)
  simpa [Nat.add_assoc] using this

/-- A term without limbs, items and tail. -/
abbrev flatT (k : Int) (s : ByteArray) (n : Int) : Tm := .mk k false [] s n [] []
abbrev flatC (k : Int) (s : ByteArray) (n : Int) : List Value := [.int .u8 k, .bool false, .slice none 0 0, .string s, .int .i64 n, .slice none 0 0, .slice none 0 0]

theorem flat_in (w : World) (B : Nat → Prop) (F : Bool) (k : Int) (s : ByteArray) (n : Int) : TermIn w B F (flatC k s n) (flatT k s n) := by
  unfold TermIn
  exact ⟨none, 0, 0, none, 0, 0, none, 0, 0, [], [], rfl, ⟨RoomC.zero _, RoomC.zero _, RoomC.zero _⟩, Reads.zero _ _ _ _ _, Reads.zero _ _ _ _ _, by unfold TermsIn; trivial, Reads.zero _ _ _ _ _, by unfold TermsIn; trivial⟩

theorem Blk.tput7 {w : World} {g : Nat} {t : TypeId} {a0 a1 a2 a3 a4 a5 a6 : Value} (h : Blk w g t #[a0, a1, a2, a3, a4, a5, a6]) (v0 v1 v2 v3 v4 v5 v6 : Value) :
    Blk (((((((w.setCell ⟨g, 0, none⟩ v0).setCell ⟨g, 1, none⟩ v1).setCell ⟨g, 2, none⟩ v2).setCell ⟨g, 3, none⟩ v3).setCell ⟨g, 4, none⟩ v4).setCell ⟨g, 5, none⟩ v5).setCell ⟨g, 6, none⟩ v6) g t #[v0, v1, v2, v3, v4, v5, v6] := by
  have := ((((((h.put 0 v0).put 1 v1).put 2 v2).put 3 v3).put 4 v4).put 5 v5).put 6 v6
  simpa using this

theorem Slab.part {w : World} {e : TypeId} {size n c i : Nat} {B : Option Addr} {xs : List Value} (h : Slab w e size B n c xs) (hi : i ≤ n) : Reads w (rowB B) true size B i (xs.take (i * size)) := (h.upto hi).reads
theorem one_reads7 {w : World} {t : TypeId} {vb : Nat} {v0 v1 v2 v3 v4 v5 v6 : Value} (hv : Blk w vb t #[v0, v1, v2, v3, v4, v5, v6]) : Reads w (fun _ => True) true 7 (some ⟨vb, 0, none⟩) 1 [v0, v1, v2, v3, v4, v5, v6] := by
  refine ⟨rfl, fun _ => ⟨_, rfl, rfl, trivial, hv.lt, fun j u hu => ⟨?_, fun _ => hv.free _⟩⟩⟩
  rw [hv.cell, ← hu]; simp
theorem Tryz.infoTm : (Tryz.prog.info? 26).map (fun i => (i.zero, i.size, i.bytes)) = some (some (.agg #[.int .u8 0, .bool false, .slice none 0 0, .string ByteArray.empty, .int .i64 0, .slice none 0 0, .slice none 0 0]), 7, 104) := by kernel_rfl
theorem Tryz.infoLm : (Tryz.prog.info? 86).map (fun i => (i.zero, i.size, i.bytes)) = some (some (.int .u32 0), 1, 4) := by kernel_rfl
end Go.Proofs.YtjdbjjjbgibpaaaGreatDoor
namespace Go.Proofs.YtjdbjjjbgibpaaaGreatDoor

/-- whole.Right, of a tree. -/
def intT (k : Int) (ng : Bool) (limbs : List Int) (text : ByteArray) (num : Int) (im tm : Nat) : Bool :=
  decide (k = 1) && decide (text = ByteArray.empty) && decide (num = 0) && decide (im + tm = 0) && decide (limbs.length ≤ 32) && (if limbs.length = 0 then !ng else decide (limbs.getD (limbs.length - 1) 0 ≠ 0))
/-- What is asked of a term that is no integer, ahead of its items. -/
def headT (k : Int) (ng : Bool) (limbs : List Int) (text : ByteArray) (num : Int) (items tail : List Tm) : Bool :=
  !ng && decide (limbs.length = 0) &&
    (if k = 2 then decide (num = 0) && decide (items.length = 0) && decide (tail.length = 0) && decide (text.size ≤ 40)
    else decide (text = ByteArray.empty) &&
      (if k = 3 ∨ k = 5 then decide (items.length = 0) && decide (tail.length = 0) && decide (0 ≤ num) && decide (num ≤ 1099511627776)
      else if k = 4 then decide (tail.length = 0) && decide (0 ≤ num) && decide (num ≤ 16384)
      else if k = 6 then decide (num = 0) && decide (tail.length = 0)
      else if k = 7 then decide (num = 0) && decide (tail.length ≤ 1) && decide (tail.length ≤ items.length) && tail.all (fun x => decide (x.kind ≠ 7))
      else false))
def baseT (k : Int) : Int := if k = 4 then 2 else 1
def eachT (k : Int) : Int := if k = 7 then 1 else 0
mutual
def sizeT : Tm → Int
  | .mk k ng limbs text num items tail =>
    if k = 1 then (if intT k ng limbs text num items.length tail.length then 1 + limbs.length else 0)
    else if headT k ng limbs text num items tail then
      match addT (baseT k) (eachT k) items with
      | none => 0
      | some n => match addT n 0 tail with
        | none => 0
        | some m => m
    else 0
def addT (n each : Int) : List Tm → Option Int
  | [] => some n
  | x :: l => if 0 < sizeT x ∧ n + sizeT x + each ≤ 4096 then addT (n + sizeT x + each) each l else none
end
def rightT (t : Tm) : Bool := decide (0 < sizeT t)
end Go.Proofs.YtjdbjjjbgibpaaaGreatDoor
