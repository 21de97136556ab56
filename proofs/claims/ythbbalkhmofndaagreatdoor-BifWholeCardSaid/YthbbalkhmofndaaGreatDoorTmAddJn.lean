/- Terms as trees, and what cells read as them. A term's size, and whether it is right (term.size, as the program tells it). Small words on terms: the cells of the k-th, blocks. printed by wip/mkbare.py: term.bare, and whole.Right. term.size's own function: it adds the sizes of a list, as long as all is fine. -/
import Derived.Test.YthbbalkhmofndaaGreatDoorRows
import Derived.Test.YthbbalkhmofndaaGreatDoorMoreJn
import Derived.Deep.QuietTactic
import Derived.BigQuiet
import Derived.Deep.LoopGhost
import Derived.Lib.Strings
namespace Go.Proofs.YthbbalkhmofndaaGreatDoor
open Go.RowKit

/-- A term as a tree. -/
inductive Tm where
  | mk (kind : Int) (neg : Bool) (limbs : List Int) (text : ByteArray) (num : Int) (items tail : List Tm)

def Tm.size : Tm → Nat
  | .mk _ _ _ _ _ items tail => 1 + sizes items + sizes tail
where sizes : List Tm → Nat
  | [] => 0
  | t :: ts => t.size + sizes ts + 1

def Tm.kind : Tm → Int | .mk k _ _ _ _ _ _ => k
def Tm.text : Tm → ByteArray | .mk _ _ _ s _ _ _ => s
def Tm.num : Tm → Int | .mk _ _ _ _ n _ _ => n

/-- A slice's length, and its capacity. -/
def RoomC (n c bytes : Nat) : Prop := Roomy n bytes ∧ n ≤ c ∧ c ≤ maxLen
theorem RoomC.zero (bytes : Nat) : RoomC 0 0 bytes := ⟨by unfold Roomy; omega, Nat.le_refl _, Nat.zero_le _⟩
mutual
/-- Seven cells read as a term. -/
def TermIn (w : World) (B : Nat → Prop) (F : Bool) : List Value → Tm → Prop
  | cs, .mk k neg limbs text num items tail => ∃ la ln lc ia im ic ta tn tc css dss,
      cs = [.int .u8 k, .bool neg, .slice la ln lc, .string text, .int .i64 num, .slice ia im ic, .slice ta tn tc] ∧
      (RoomC ln lc 4 ∧ RoomC im ic 104 ∧ RoomC tn tc 104) ∧
      Reads w B F 1 la ln (limbs.map (Value.int .u32)) ∧ Reads w B F 7 ia im css.flatten ∧ TermsIn w B F css items ∧ Reads w B F 7 ta tn dss.flatten ∧ TermsIn w B F dss tail
def TermsIn (w : World) (B : Nat → Prop) (F : Bool) : List (List Value) → List Tm → Prop
  | [], [] => True
  | cs :: css, t :: ts => TermIn w B F cs t ∧ TermsIn w B F css ts
  | [], _ :: _ => False
  | _ :: _, [] => False
end

mutual
theorem TermIn.keep {w w' : World} {B : Nat → Prop} {F : Bool} {fp : Nat → Prop} (hk : Keeps fp w w') (hf : ∀ k, B k → ¬ fp k) : ∀ (t : Tm) (cs : List Value), TermIn w B F cs t → TermIn w' B F cs t
  | .mk k neg limbs text num items tail, cs, h => by
    unfold TermIn at h ⊢
    obtain ⟨la, ln, lc, ia, im, ic, ta, tn, tc, css, dss, e, hb, h1, h2, h3, h4, h5⟩ := h
    exact ⟨la, ln, lc, ia, im, ic, ta, tn, tc, css, dss, e, hb, h1.keep hk hf, h2.keep hk hf, TermsIn.keep hk hf items css h3, h4.keep hk hf, TermsIn.keep hk hf tail dss h5⟩
theorem TermsIn.keep {w w' : World} {B : Nat → Prop} {F : Bool} {fp : Nat → Prop} (hk : Keeps fp w w') (hf : ∀ k, B k → ¬ fp k) : ∀ (ts : List Tm) (css : List (List Value)), TermsIn w B F css ts → TermsIn w' B F css ts
  | [], [], _ => by unfold TermsIn; trivial
  | t :: ts, cs :: css, h => by
    unfold TermsIn at h ⊢
    exact ⟨TermIn.keep hk hf t cs h.1, TermsIn.keep hk hf ts css h.2⟩
  | [], _ :: _, h => by unfold TermsIn at h; exact h.elim
  | _ :: _, [], h => by unfold TermsIn at h; exact h.elim
end

mutual
theorem TermIn.more {w : World} {B B' : Nat → Prop} {F : Bool} (hB : ∀ k, k < w.heap.size → B k → B' k) : ∀ (t : Tm) (cs : List Value), TermIn w B F cs t → TermIn w B' F cs t
  | .mk k neg limbs text num items tail, cs, h => by
    unfold TermIn at h ⊢
    obtain ⟨la, ln, lc, ia, im, ic, ta, tn, tc, css, dss, e, hb, h1, h2, h3, h4, h5⟩ := h
    exact ⟨la, ln, lc, ia, im, ic, ta, tn, tc, css, dss, e, hb, h1.more hB, h2.more hB, TermsIn.more hB items css h3, h4.more hB, TermsIn.more hB tail dss h5⟩
theorem TermsIn.more {w : World} {B B' : Nat → Prop} {F : Bool} (hB : ∀ k, k < w.heap.size → B k → B' k) : ∀ (ts : List Tm) (css : List (List Value)), TermsIn w B F css ts → TermsIn w B' F css ts
  | [], [], _ => by unfold TermsIn; trivial
  | t :: ts, cs :: css, h => by
    unfold TermsIn at h ⊢
    exact ⟨TermIn.more hB t cs h.1, TermsIn.more hB ts css h.2⟩
  | [], _ :: _, h => by unfold TermsIn at h; exact h.elim
  | _ :: _, [], h => by unfold TermsIn at h; exact h.elim
end

theorem TermIn.len {w : World} {B : Nat → Prop} {F : Bool} {t : Tm} {cs : List Value} (h : TermIn w B F cs t) : cs.length = 7 := by
  cases t
  unfold TermIn at h
  obtain ⟨la, ln, lc, ia, im, ic, ta, tn, tc, css, dss, rfl, _⟩ := h
  rfl

theorem TermsIn.lens {w : World} {B : Nat → Prop} {F : Bool} : ∀ {ts : List Tm} {css : List (List Value)}, TermsIn w B F css ts → css.length = ts.length ∧ ∀ c ∈ css, c.length = 7
  | [], [], _ => ⟨rfl, fun _ h => by cases h⟩
  | t :: ts, cs :: css, h => by
    unfold TermsIn at h
    obtain ⟨h1, h2⟩ := TermsIn.lens h.2
    refine ⟨by simp [h1], fun c hc => ?_⟩
    rcases List.mem_cons.1 hc with rfl | hc
    · exact h.1.len
    · exact h2 c hc
  | [], _ :: _, h => by unfold TermsIn at h; exact h.elim
  | _ :: _, [], h => by unfold TermsIn at h; exact h.elim

theorem TermsIn.get {w : World} {B : Nat → Prop} {F : Bool} : ∀ {ts : List Tm} {css : List (List Value)}, TermsIn w B F css ts → ∀ i (h1 : i < css.length) (h2 : i < ts.length), TermIn w B F css[i] ts[i]
  | [], [], _, i, h1, _ => by simp at h1
  | t :: ts, cs :: css, h, i, h1, h2 => by
    unfold TermsIn at h
    cases i with
    | zero => exact h.1
    | succ i => exact TermsIn.get h.2 i (by simpa using h1) (by simpa using h2)
  | [], _ :: _, h, _, _, _ => by unfold TermsIn at h; exact h.elim
  | _ :: _, [], h, _, _, _ => by unfold TermsIn at h; exact h.elim

theorem TermsIn.append {w : World} {B : Nat → Prop} {F : Bool} : ∀ {ts us : List Tm} {css dss : List (List Value)}, TermsIn w B F css ts → TermsIn w B F dss us → TermsIn w B F (css ++ dss) (ts ++ us)
  | [], us, [], dss, _, k => k
  | t :: ts, us, cs :: css, dss, h, k => by
    unfold TermsIn at h
    rw [List.cons_append, List.cons_append]
    unfold TermsIn
    exact ⟨h.1, TermsIn.append h.2 k⟩
  | [], _, _ :: _, _, h, _ => by unfold TermsIn at h; exact h.elim
  | _ :: _, _, [], _, h, _ => by unfold TermsIn at h; exact h.elim

theorem TermsIn.one {w : World} {B : Nat → Prop} {F : Bool} {t : Tm} {cs : List Value} (h : TermIn w B F cs t) : TermsIn w B F [cs] [t] := by
  unfold TermsIn
  exact ⟨h, by unfold TermsIn; trivial⟩

mutual
/-- What a term's cells are: each is one cell. -/
theorem TermIn.ones {w : World} {B : Nat → Prop} {F : Bool} : ∀ (t : Tm) (cs : List Value), TermIn w B F cs t → ∀ u ∈ cs, u.oneCell' = true
  | .mk k neg limbs text num items tail, cs, h, u, hu => by
    unfold TermIn at h
    obtain ⟨la, ln, lc, ia, im, ic, ta, tn, tc, css, dss, rfl, _⟩ := h
    simp only [List.mem_cons, List.not_mem_nil, or_false] at hu
    rcases hu with rfl | rfl | rfl | rfl | rfl | rfl | rfl <;> rfl
theorem TermsIn.ones {w : World} {B : Nat → Prop} {F : Bool} : ∀ (ts : List Tm) (css : List (List Value)), TermsIn w B F css ts → ∀ u ∈ css.flatten, u.oneCell' = true
  | [], [], _, u, hu => by simp at hu
  | t :: ts, cs :: css, h, u, hu => by
    unfold TermsIn at h
    rw [List.flatten_cons, List.mem_append] at hu
    rcases hu with hu | hu
    · exact TermIn.ones t cs h.1 u hu
    · exact TermsIn.ones ts css h.2 u hu
  | [], _ :: _, h, _, _ => by unfold TermsIn at h; exact h.elim
  | _ :: _, [], h, _, _ => by unfold TermsIn at h; exact h.elim
end

theorem flat_set7 {v0 v1 v2 v3 v4 v5 v6 : Value} : ∀ {css : List (List Value)}, (∀ c ∈ css, c.length = 7) → ∀ k, k < css.length →
    (((((((css.flatten.set (k * 7) v0).set (k * 7 + 1) v1).set (k * 7 + 2) v2).set (k * 7 + 3) v3).set (k * 7 + 4) v4).set (k * 7 + 5) v5).set (k * 7 + 6) v6) = (css.set k [v0, v1, v2, v3, v4, v5, v6]).flatten
  | [], _, k, h1 => by simp at h1
  | c :: css, h, k, h1 => by
    have hc := h c List.mem_cons_self
    match c, hc with
    | [a0, a1, a2, a3, a4, a5, a6], _ =>
      cases k with
      | zero => simp
      | succ k =>
        have ih := flat_set7 (v0 := v0) (v1 := v1) (v2 := v2) (v3 := v3) (v4 := v4) (v5 := v5) (v6 := v6) (fun d hd => h d (List.mem_cons_of_mem _ hd)) k (by simpa using h1)
        rw [List.set_cons_succ, List.flatten_cons, List.flatten_cons, ← ih]
        have e : (k + 1) * 7 = k * 7 + 7 := by omega
        rw [e]
        rfl

/-- The k-th of terms: its cells, and what they read as. -/
theorem TermsIn.at {w : World} {B : Nat → Prop} {F : Bool} : ∀ {ts : List Tm} {css : List (List Value)}, TermsIn w B F css ts → ∀ k, k < css.length →
    ∃ kd ng la ln lc tx nm ia im ic ta tn tc limbs items tail dss ess, css[k]? = some [.int .u8 kd, .bool ng, .slice la ln lc, .string tx, .int .i64 nm, .slice ia im ic, .slice ta tn tc] ∧ ts[k]? = some (.mk kd ng limbs tx nm items tail) ∧
      (RoomC ln lc 4 ∧ RoomC im ic 104 ∧ RoomC tn tc 104) ∧ Reads w B F 1 la ln (limbs.map (Value.int .u32)) ∧ Reads w B F 7 ia im (List.flatten dss) ∧ TermsIn w B F dss items ∧ Reads w B F 7 ta tn (List.flatten ess) ∧ TermsIn w B F ess tail ∧
      Tm.size.sizes items + Tm.size.sizes tail + 1 ≤ Tm.size.sizes ts
  | [], [], _, k, h1 => by simp at h1
  | t :: ts, cs :: css, h, k, h1 => by
    unfold TermsIn at h
    cases k with
    | zero =>
      obtain ⟨h0, _⟩ := h
      cases t with
      | mk kd ng limbs tx nm items tail =>
        unfold TermIn at h0
        obtain ⟨la, ln, lc, ia, im, ic, ta, tn, tc, dss, ess, rfl, hb, h1, h2, h3, h4, h5⟩ := h0
        exact ⟨kd, ng, la, ln, lc, tx, nm, ia, im, ic, ta, tn, tc, limbs, items, tail, dss, ess, rfl, rfl, hb, h1, h2, h3, h4, h5, by simp only [Tm.size.sizes, Tm.size]; omega⟩
    | succ k =>
      obtain ⟨kd, ng, la, ln, lc, tx, nm, ia, im, ic, ta, tn, tc, limbs, items, tail, dss, ess, e1, e2, hb, h1, h2, h3, h4, h5, hz⟩ := TermsIn.at h.2 k (by simpa using h1)
      exact ⟨kd, ng, la, ln, lc, tx, nm, ia, im, ic, ta, tn, tc, limbs, items, tail, dss, ess, by simpa using e1, by simpa using e2, hb, h1, h2, h3, h4, h5, by simp only [Tm.size.sizes]; omega⟩
  | [], _ :: _, h, _, _ => by unfold TermsIn at h; exact h.elim
  | _ :: _, [], h, _, _ => by unfold TermsIn at h; exact h.elim

theorem flat_cells {css : List (List Value)} {k : Nat} {v0 v1 v2 v3 v4 v5 v6 : Value} (h7 : ∀ c ∈ css, c.length = 7) (h : css[k]? = some [v0, v1, v2, v3, v4, v5, v6]) :
    css.flatten[k * 7]? = some v0 ∧ css.flatten[k * 7 + 1]? = some v1 ∧ css.flatten[k * 7 + 2]? = some v2 ∧ css.flatten[k * 7 + 3]? = some v3 ∧ css.flatten[k * 7 + 4]? = some v4 ∧ css.flatten[k * 7 + 5]? = some v5 ∧ css.flatten[k * 7 + 6]? = some v6 := by
  obtain ⟨hk, he⟩ := List.getElem?_eq_some_iff.1 h
  have g := fun j hj => flat_get h7 k hk j hj
  rw [he] at g
  exact ⟨by simpa using g 0 (by omega), g 1 (by omega), g 2 (by omega), g 3 (by omega), g 4 (by omega), g 5 (by omega), g 6 (by omega)⟩

mutual
theorem TermIn.weak {w : World} {B : Nat → Prop} {F : Bool} : ∀ (t : Tm) (cs : List Value), TermIn w B F cs t → TermIn w B false cs t
  | .mk k neg limbs text num items tail, cs, h => by
    unfold TermIn at h ⊢
    obtain ⟨la, ln, lc, ia, im, ic, ta, tn, tc, css, dss, e, hb, h1, h2, h3, h4, h5⟩ := h
    exact ⟨la, ln, lc, ia, im, ic, ta, tn, tc, css, dss, e, hb, h1.weak, h2.weak, TermsIn.weak items css h3, h4.weak, TermsIn.weak tail dss h5⟩
theorem TermsIn.weak {w : World} {B : Nat → Prop} {F : Bool} : ∀ (ts : List Tm) (css : List (List Value)), TermsIn w B F css ts → TermsIn w B false css ts
  | [], [], _ => by unfold TermsIn; trivial
  | t :: ts, cs :: css, h => by
    unfold TermsIn at h ⊢
    exact ⟨TermIn.weak t cs h.1, TermsIn.weak ts css h.2⟩
  | [], _ :: _, h => by unfold TermsIn at h; exact h.elim
  | _ :: _, [], h => by unfold TermsIn at h; exact h.elim
end

theorem TermIn.cells {w : World} {B : Nat → Prop} {F : Bool} {cs : List Value} {t : Tm} (h : TermIn w B F cs t) :
    ∃ kd ng la ln lc tx nm ia im ic ta tn tc, cs = [.int .u8 kd, .bool ng, .slice la ln lc, .string tx, .int .i64 nm, .slice ia im ic, .slice ta tn tc] ∧ kd = t.kind ∧ tx = t.text ∧ nm = t.num := by
  cases t
  unfold TermIn at h
  obtain ⟨la, ln, lc, ia, im, ic, ta, tn, tc, css, dss, e, _⟩ := h
  exact ⟨_, _, la, ln, lc, _, _, ia, im, ic, ta, tn, tc, e, rfl, rfl, rfl⟩

theorem Reads.sub {w : World} {B : Nat → Prop} {F : Bool} {g o n i : Nat} {css : List (List Value)} {c : List Value} (h : Reads w B F 7 (some ⟨g, o, none⟩) n css.flatten) (h7 : ∀ c ∈ css, c.length = 7) (hi : css[i]? = some c) :
    Reads w B F 7 (some ⟨g, o + i * 7, none⟩) 1 (List.flatten [c]) := by
  obtain ⟨hlt, he⟩ := List.getElem?_eq_some_iff.1 hi
  have hc7 : c.length = 7 := h7 c (he ▸ List.getElem_mem hlt)
  have hn : css.length = n := by have := h.1; rw [flat_len h7] at this; omega
  refine ⟨by simp [hc7], fun _ => ?_⟩
  obtain ⟨ad, e, hs, hb, hl, hcell⟩ := h.2 (by omega)
  injection e with e
  subst e
  refine ⟨_, rfl, rfl, hb, hl, fun j u hu => ?_⟩
  have hj : j < 7 := by
    have := (List.getElem?_eq_some_iff.1 hu).1
    simp at this; omega
  have := hcell (i * 7 + j) u (by rw [flat_get h7 i hlt j hj, he]; simpa using hu)
  simpa [Nat.add_assoc] using this

/-- A term without limbs, items and tail. -/
abbrev flatT (k : Int) (s : ByteArray) (n : Int) : Tm := .mk k false [] s n [] []
abbrev flatC (k : Int) (s : ByteArray) (n : Int) : List Value := [.int .u8 k, .bool false, .slice none 0 0, .string s, .int .i64 n, .slice none 0 0, .slice none 0 0]

theorem flat_in (w : World) (B : Nat → Prop) (F : Bool) (k : Int) (s : ByteArray) (n : Int) : TermIn w B F (flatC k s n) (flatT k s n) := by
  unfold TermIn
  exact ⟨none, 0, 0, none, 0, 0, none, 0, 0, [], [], rfl, ⟨RoomC.zero _, RoomC.zero _, RoomC.zero _⟩, Reads.zero _ _ _ _ _, Reads.zero _ _ _ _ _, by unfold TermsIn; trivial, Reads.zero _ _ _ _ _, by unfold TermsIn; trivial⟩

theorem Blk.tput7 {w : World} {g : Nat} {t : TypeId} {a0 a1 a2 a3 a4 a5 a6 : Value} (h : Blk w g t #[a0, a1, a2, a3, a4, a5, a6]) (v0 v1 v2 v3 v4 v5 v6 : Value) :
    Blk (((((((w.setCell ⟨g, 0, none⟩ v0).setCell ⟨g, 1, none⟩ v1).setCell ⟨g, 2, none⟩ v2).setCell ⟨g, 3, none⟩ v3).setCell ⟨g, 4, none⟩ v4).setCell ⟨g, 5, none⟩ v5).setCell ⟨g, 6, none⟩ v6) g t #[v0, v1, v2, v3, v4, v5, v6] := by
  have := ((((((h.put 0 v0).put 1 v1).put 2 v2).put 3 v3).put 4 v4).put 5 v5).put 6 v6
  simpa using this

theorem Slab.part {w : World} {e : TypeId} {size n c i : Nat} {B : Option Addr} {xs : List Value} (h : Slab w e size B n c xs) (hi : i ≤ n) : Reads w (rowB B) true size B i (xs.take (i * size)) := (h.upto hi).reads
theorem one_reads7 {w : World} {t : TypeId} {vb : Nat} {v0 v1 v2 v3 v4 v5 v6 : Value} (hv : Blk w vb t #[v0, v1, v2, v3, v4, v5, v6]) : Reads w (fun _ => True) true 7 (some ⟨vb, 0, none⟩) 1 [v0, v1, v2, v3, v4, v5, v6] := by
  refine ⟨rfl, fun _ => ⟨_, rfl, rfl, trivial, hv.lt, fun j u hu => ⟨?_, fun _ => hv.free _⟩⟩⟩
  rw [hv.cell, ← hu]; simp
theorem Tryz.infoTm : (Tryz.prog.info? 26).map (fun i => (i.zero, i.size, i.bytes)) = some (some (.agg #[.int .u8 0, .bool false, .slice none 0 0, .string ByteArray.empty, .int .i64 0, .slice none 0 0, .slice none 0 0]), 7, 104) := by kernel_rfl
theorem Tryz.infoLm : (Tryz.prog.info? 44).map (fun i => (i.zero, i.size, i.bytes)) = some (some (.int .u32 0), 1, 4) := by kernel_rfl
end Go.Proofs.YthbbalkhmofndaaGreatDoor
namespace Go.Proofs.YthbbalkhmofndaaGreatDoor

/-- whole.Right, of a tree. -/
def intT (k : Int) (ng : Bool) (limbs : List Int) (text : ByteArray) (num : Int) (im tm : Nat) : Bool :=
  decide (k = 1) && decide (text = ByteArray.empty) && decide (num = 0) && decide (im + tm = 0) && decide (limbs.length ≤ 32) && (if limbs.length = 0 then !ng else decide (limbs.getD (limbs.length - 1) 0 ≠ 0))
/-- What is asked of a term that is no integer, ahead of its items. -/
def headT (k : Int) (ng : Bool) (limbs : List Int) (text : ByteArray) (num : Int) (items tail : List Tm) : Bool :=
  !ng && decide (limbs.length = 0) &&
    (if k = 2 then decide (num = 0) && decide (items.length = 0) && decide (tail.length = 0) && decide (text.size ≤ 40)
    else decide (text = ByteArray.empty) &&
      (if k = 3 ∨ k = 5 then decide (items.length = 0) && decide (tail.length = 0) && decide (0 ≤ num) && decide (num ≤ 1099511627776)
      else if k = 4 then decide (tail.length = 0) && decide (0 ≤ num) && decide (num ≤ 16384)
      else if k = 6 then decide (num = 0) && decide (tail.length = 0)
      else if k = 7 then decide (num = 0) && decide (tail.length ≤ 1) && decide (tail.length ≤ items.length) && tail.all (fun x => decide (x.kind ≠ 7))
      else false))
def baseT (k : Int) : Int := if k = 4 then 2 else 1
def eachT (k : Int) : Int := if k = 7 then 1 else 0
mutual
def sizeT : Tm → Int
  | .mk k ng limbs text num items tail =>
    if k = 1 then (if intT k ng limbs text num items.length tail.length then 1 + limbs.length else 0)
    else if headT k ng limbs text num items tail then
      match addT (baseT k) (eachT k) items with
      | none => 0
      | some n => match addT n 0 tail with
        | none => 0
        | some m => m
    else 0
def addT (n each : Int) : List Tm → Option Int
  | [] => some n
  | x :: l => if 0 < sizeT x ∧ n + sizeT x + each ≤ 4096 then addT (n + sizeT x + each) each l else none
end
def rightT (t : Tm) : Bool := decide (0 < sizeT t)
end Go.Proofs.YthbbalkhmofndaaGreatDoor
namespace Go.Proofs.YthbbalkhmofndaaGreatDoor
open Go.RowKit
theorem Blk.new2 (w : World) (o : Obj) (t : TypeId) (cs : Array Value) : Blk ((w.alloc o).alloc (.cells cs t)) (w.heap.size + 1) t cs := by
  have h := Blk.new (w.alloc o) t cs
  have e : (w.alloc o).heap.size = w.heap.size + 1 := by unfold World.alloc; exact Array.size_push ..
  rw [e] at h; exact h
theorem Tm.size_pos (t : Tm) : 0 < t.size := by cases t; simp only [Tm.size]; omega
theorem cells_at {w : World} {B : Nat → Prop} {F : Bool} {ts : List Tm} {css : List (List Value)} {A : Option Addr} {n : Nat} (hr : Reads w B F 7 A n css.flatten) (ht : TermsIn w B F css ts) (k : Nat) (hk : k < n) :
    ∃ b o kd ng la ln lc tx nm ia im ic ta tn tc t, A = some ⟨b, o, none⟩ ∧ ts[k]? = some t ∧ TermIn w B F [.int .u8 kd, .bool ng, .slice la ln lc, .string tx, .int .i64 nm, .slice ia im ic, .slice ta tn tc] t ∧ t.size ≤ Tm.size.sizes ts ∧
      w.cell? ⟨b, o + k * 7, none⟩ = some (.int .u8 kd) ∧ w.cell? ⟨b, o + k * 7 + 1, none⟩ = some (.bool ng) ∧ w.cell? ⟨b, o + k * 7 + 2, none⟩ = some (.slice la ln lc) ∧ w.cell? ⟨b, o + k * 7 + 3, none⟩ = some (.string tx) ∧
      w.cell? ⟨b, o + k * 7 + 4, none⟩ = some (.int .i64 nm) ∧ w.cell? ⟨b, o + k * 7 + 5, none⟩ = some (.slice ia im ic) ∧ w.cell? ⟨b, o + k * 7 + 6, none⟩ = some (.slice ta tn tc) := by
  obtain ⟨hl, h7⟩ := ht.lens
  have hn : css.length = n := by have h1 := hr.1; rw [flat_len h7] at h1; omega
  obtain ⟨kd, ng, la, ln, lc, tx, nm, ia, im, ic, ta, tn, tc, limbs, items, tail, dss, ess, hcs, htk, hroom, hrl, hri, hti, hrt, htt, hsz⟩ := TermsIn.at ht k (by omega)
  have hg := TermsIn.get ht k (by omega) (by omega)
  obtain ⟨_, e1⟩ := List.getElem?_eq_some_iff.1 hcs
  obtain ⟨_, e2⟩ := List.getElem?_eq_some_iff.1 htk
  rw [e1, e2] at hg
  obtain ⟨⟨b, o, sp⟩, hA, hs, _, _, hc⟩ := hr.2 (by omega)
  simp only at hs
  subst hs hA
  obtain ⟨g0, g1, g2, g3, g4, g5, g6⟩ := flat_cells h7 hcs
  exact ⟨b, o, kd, ng, la, ln, lc, tx, nm, ia, im, ic, ta, tn, tc, _, rfl, htk, hg, by simp only [Tm.size]; omega, (hc _ _ g0).1, (hc _ _ g1).1, (hc _ _ g2).1, (hc _ _ g3).1, (hc _ _ g4).1, (hc _ _ g5).1, (hc _ _ g6).1⟩

end Go.Proofs.YthbbalkhmofndaaGreatDoor
namespace Go.Proofs.YthbbalkhmofndaaGreatDoor
open Go.RowKit

theorem tkey_inj {s t : ByteArray} (h : s.toList = t.toList) : s = t := by
  rw [Lib.toList_data, Lib.toList_data] at h
  cases s; cases t
  simp only [ByteArray.mk.injEq] at *
  exact Array.toList_inj.1 h
theorem tstr_ne {s : ByteArray} (h : ¬ s = ByteArray.empty) : (s.toList == []) = false := by
  have h2 : ¬ s.toList = ByteArray.empty.toList := fun e => h (tkey_inj e)
  rw [Lib.toList_data ByteArray.empty] at h2
  simp only [beq_eq_false_iff_ne]
  exact h2

def bareB (ng : Bool) (ln : Nat) (tx : ByteArray) (nm : Int) (im tn : Nat) (a b c d : Bool) : Bool :=
  !ng && (decide (ln = 0) && ((a || decide (tx = ByteArray.empty)) && ((b || decide (nm = 0)) && ((c || decide (im = 0)) && (d || decide (tn = 0))))))

set_option maxRecDepth 100000 in
theorem bare_tfff (kd nm : Int) (ng : Bool) (la ia ta : Option Addr) (ln lc im ic tn tc : Nat) (tx : ByteArray) (w : World) :
    Calls Tryz.prog 33 #[.agg #[.int .u8 kd, .bool ng, .slice la ln lc, .string tx, .int .i64 nm, .slice ia im ic, .slice ta tn tc], .bool true, .bool false, .bool false, .bool false] w fun e w' => e = .returned (.bool (bareB ng ln tx nm im tn true false false false)) ∧ Keeps NoB w w' := by
  generalize hr : bareB ng ln tx nm im tn true false false false = r
  rcases ng with _ | _
  · by_cases h : ln = 0
    · subst h
      by_cases h : nm = 0
      · subst h
        by_cases h : im = 0
        · subst h
          by_cases h : tn = 0
          · subst h
            obtain rfl : r = true := by rw [← hr]; unfold bareB; simp
            clear hr
            go_enter Tryz.func33, Tryz.ntmps33
            go_wp2
            go_ret
            exact ⟨rfl, (Keeps.refl _ _).alloc _⟩
          · obtain rfl : r = false := by rw [← hr]; unfold bareB; simp [h]
            have b5 : ((tn : Int) == 0) = false := by simp; omega
            clear hr h
            go_enter Tryz.func33, Tryz.ntmps33
            go_wp2
            go_ret
            exact ⟨rfl, (Keeps.refl _ _).alloc _⟩
        · obtain rfl : r = false := by rw [← hr]; unfold bareB; simp [h]
          have b4 : ((im : Int) == 0) = false := by simp; omega
          clear hr h
          go_enter Tryz.func33, Tryz.ntmps33
          go_wp2
          go_ret
          exact ⟨rfl, (Keeps.refl _ _).alloc _⟩
      · obtain rfl : r = false := by rw [← hr]; unfold bareB; simp [h]
        have b3 : (nm == 0) = false := by simp [h]
        clear hr h
        go_enter Tryz.func33, Tryz.ntmps33
        go_wp2
        go_ret
        exact ⟨rfl, (Keeps.refl _ _).alloc _⟩
    · obtain rfl : r = false := by rw [← hr]; unfold bareB; simp [h]
      have b1 : ((ln : Int) == 0) = false := by simp; omega
      clear hr h
      go_enter Tryz.func33, Tryz.ntmps33
      go_wp2
      go_ret
      exact ⟨rfl, (Keeps.refl _ _).alloc _⟩
  · obtain rfl : r = false := by rw [← hr]; unfold bareB; simp
    clear hr
    go_enter Tryz.func33, Tryz.ntmps33
    go_wp2
    go_ret
    exact ⟨rfl, (Keeps.refl _ _).alloc _⟩

set_option maxRecDepth 100000 in
theorem bare_ftff (kd nm : Int) (ng : Bool) (la ia ta : Option Addr) (ln lc im ic tn tc : Nat) (tx : ByteArray) (w : World) :
    Calls Tryz.prog 33 #[.agg #[.int .u8 kd, .bool ng, .slice la ln lc, .string tx, .int .i64 nm, .slice ia im ic, .slice ta tn tc], .bool false, .bool true, .bool false, .bool false] w fun e w' => e = .returned (.bool (bareB ng ln tx nm im tn false true false false)) ∧ Keeps NoB w w' := by
  generalize hr : bareB ng ln tx nm im tn false true false false = r
  rcases ng with _ | _
  · by_cases h : ln = 0
    · subst h
      by_cases h : tx = ByteArray.empty
      · subst h
        by_cases h : im = 0
        · subst h
          by_cases h : tn = 0
          · subst h
            obtain rfl : r = true := by rw [← hr]; unfold bareB; simp
            clear hr
            go_enter Tryz.func33, Tryz.ntmps33
            go_wp2
            go_ret
            exact ⟨rfl, (Keeps.refl _ _).alloc _⟩
          · obtain rfl : r = false := by rw [← hr]; unfold bareB; simp [h]
            have b5 : ((tn : Int) == 0) = false := by simp; omega
            clear hr h
            go_enter Tryz.func33, Tryz.ntmps33
            go_wp2
            go_ret
            exact ⟨rfl, (Keeps.refl _ _).alloc _⟩
        · obtain rfl : r = false := by rw [← hr]; unfold bareB; simp [h]
          have b4 : ((im : Int) == 0) = false := by simp; omega
          clear hr h
          go_enter Tryz.func33, Tryz.ntmps33
          go_wp2
          go_ret
          exact ⟨rfl, (Keeps.refl _ _).alloc _⟩
      · obtain rfl : r = false := by rw [← hr]; unfold bareB; simp [h]
        have b2 : (tx.toList == []) = false := tstr_ne h
        clear hr h
        go_enter Tryz.func33, Tryz.ntmps33
        go_wp2
        go_ret
        exact ⟨rfl, (Keeps.refl _ _).alloc _⟩
    · obtain rfl : r = false := by rw [← hr]; unfold bareB; simp [h]
      have b1 : ((ln : Int) == 0) = false := by simp; omega
      clear hr h
      go_enter Tryz.func33, Tryz.ntmps33
      go_wp2
      go_ret
      exact ⟨rfl, (Keeps.refl _ _).alloc _⟩
  · obtain rfl : r = false := by rw [← hr]; unfold bareB; simp
    clear hr
    go_enter Tryz.func33, Tryz.ntmps33
    go_wp2
    go_ret
    exact ⟨rfl, (Keeps.refl _ _).alloc _⟩

set_option maxRecDepth 100000 in
theorem bare_fttf (kd nm : Int) (ng : Bool) (la ia ta : Option Addr) (ln lc im ic tn tc : Nat) (tx : ByteArray) (w : World) :
    Calls Tryz.prog 33 #[.agg #[.int .u8 kd, .bool ng, .slice la ln lc, .string tx, .int .i64 nm, .slice ia im ic, .slice ta tn tc], .bool false, .bool true, .bool true, .bool false] w fun e w' => e = .returned (.bool (bareB ng ln tx nm im tn false true true false)) ∧ Keeps NoB w w' := by
  generalize hr : bareB ng ln tx nm im tn false true true false = r
  rcases ng with _ | _
  · by_cases h : ln = 0
    · subst h
      by_cases h : tx = ByteArray.empty
      · subst h
        by_cases h : tn = 0
        · subst h
          obtain rfl : r = true := by rw [← hr]; unfold bareB; simp
          clear hr
          go_enter Tryz.func33, Tryz.ntmps33
          go_wp2
          go_ret
          exact ⟨rfl, (Keeps.refl _ _).alloc _⟩
        · obtain rfl : r = false := by rw [← hr]; unfold bareB; simp [h]
          have b5 : ((tn : Int) == 0) = false := by simp; omega
          clear hr h
          go_enter Tryz.func33, Tryz.ntmps33
          go_wp2
          go_ret
          exact ⟨rfl, (Keeps.refl _ _).alloc _⟩
      · obtain rfl : r = false := by rw [← hr]; unfold bareB; simp [h]
        have b2 : (tx.toList == []) = false := tstr_ne h
        clear hr h
        go_enter Tryz.func33, Tryz.ntmps33
        go_wp2
        go_ret
        exact ⟨rfl, (Keeps.refl _ _).alloc _⟩
    · obtain rfl : r = false := by rw [← hr]; unfold bareB; simp [h]
      have b1 : ((ln : Int) == 0) = false := by simp; omega
      clear hr h
      go_enter Tryz.func33, Tryz.ntmps33
      go_wp2
      go_ret
      exact ⟨rfl, (Keeps.refl _ _).alloc _⟩
  · obtain rfl : r = false := by rw [← hr]; unfold bareB; simp
    clear hr
    go_enter Tryz.func33, Tryz.ntmps33
    go_wp2
    go_ret
    exact ⟨rfl, (Keeps.refl _ _).alloc _⟩

set_option maxRecDepth 100000 in
theorem bare_fftf (kd nm : Int) (ng : Bool) (la ia ta : Option Addr) (ln lc im ic tn tc : Nat) (tx : ByteArray) (w : World) :
    Calls Tryz.prog 33 #[.agg #[.int .u8 kd, .bool ng, .slice la ln lc, .string tx, .int .i64 nm, .slice ia im ic, .slice ta tn tc], .bool false, .bool false, .bool true, .bool false] w fun e w' => e = .returned (.bool (bareB ng ln tx nm im tn false false true false)) ∧ Keeps NoB w w' := by
  generalize hr : bareB ng ln tx nm im tn false false true false = r
  rcases ng with _ | _
  · by_cases h : ln = 0
    · subst h
      by_cases h : tx = ByteArray.empty
      · subst h
        by_cases h : nm = 0
        · subst h
          by_cases h : tn = 0
          · subst h
            obtain rfl : r = true := by rw [← hr]; unfold bareB; simp
            clear hr
            go_enter Tryz.func33, Tryz.ntmps33
            go_wp2
            go_ret
            exact ⟨rfl, (Keeps.refl _ _).alloc _⟩
          · obtain rfl : r = false := by rw [← hr]; unfold bareB; simp [h]
            have b5 : ((tn : Int) == 0) = false := by simp; omega
            clear hr h
            go_enter Tryz.func33, Tryz.ntmps33
            go_wp2
            go_ret
            exact ⟨rfl, (Keeps.refl _ _).alloc _⟩
        · obtain rfl : r = false := by rw [← hr]; unfold bareB; simp [h]
          have b3 : (nm == 0) = false := by simp [h]
          clear hr h
          go_enter Tryz.func33, Tryz.ntmps33
          go_wp2
          go_ret
          exact ⟨rfl, (Keeps.refl _ _).alloc _⟩
      · obtain rfl : r = false := by rw [← hr]; unfold bareB; simp [h]
        have b2 : (tx.toList == []) = false := tstr_ne h
        clear hr h
        go_enter Tryz.func33, Tryz.ntmps33
        go_wp2
        go_ret
        exact ⟨rfl, (Keeps.refl _ _).alloc _⟩
    · obtain rfl : r = false := by rw [← hr]; unfold bareB; simp [h]
      have b1 : ((ln : Int) == 0) = false := by simp; omega
      clear hr h
      go_enter Tryz.func33, Tryz.ntmps33
      go_wp2
      go_ret
      exact ⟨rfl, (Keeps.refl _ _).alloc _⟩
  · obtain rfl : r = false := by rw [← hr]; unfold bareB; simp
    clear hr
    go_enter Tryz.func33, Tryz.ntmps33
    go_wp2
    go_ret
    exact ⟨rfl, (Keeps.refl _ _).alloc _⟩

set_option maxRecDepth 100000 in
theorem bare_fftt (kd nm : Int) (ng : Bool) (la ia ta : Option Addr) (ln lc im ic tn tc : Nat) (tx : ByteArray) (w : World) :
    Calls Tryz.prog 33 #[.agg #[.int .u8 kd, .bool ng, .slice la ln lc, .string tx, .int .i64 nm, .slice ia im ic, .slice ta tn tc], .bool false, .bool false, .bool true, .bool true] w fun e w' => e = .returned (.bool (bareB ng ln tx nm im tn false false true true)) ∧ Keeps NoB w w' := by
  generalize hr : bareB ng ln tx nm im tn false false true true = r
  rcases ng with _ | _
  · by_cases h : ln = 0
    · subst h
      by_cases h : tx = ByteArray.empty
      · subst h
        by_cases h : nm = 0
        · subst h
          obtain rfl : r = true := by rw [← hr]; unfold bareB; simp
          clear hr
          go_enter Tryz.func33, Tryz.ntmps33
          go_wp2
          go_ret
          exact ⟨rfl, (Keeps.refl _ _).alloc _⟩
        · obtain rfl : r = false := by rw [← hr]; unfold bareB; simp [h]
          have b3 : (nm == 0) = false := by simp [h]
          clear hr h
          go_enter Tryz.func33, Tryz.ntmps33
          go_wp2
          go_ret
          exact ⟨rfl, (Keeps.refl _ _).alloc _⟩
      · obtain rfl : r = false := by rw [← hr]; unfold bareB; simp [h]
        have b2 : (tx.toList == []) = false := tstr_ne h
        clear hr h
        go_enter Tryz.func33, Tryz.ntmps33
        go_wp2
        go_ret
        exact ⟨rfl, (Keeps.refl _ _).alloc _⟩
    · obtain rfl : r = false := by rw [← hr]; unfold bareB; simp [h]
      have b1 : ((ln : Int) == 0) = false := by simp; omega
      clear hr h
      go_enter Tryz.func33, Tryz.ntmps33
      go_wp2
      go_ret
      exact ⟨rfl, (Keeps.refl _ _).alloc _⟩
  · obtain rfl : r = false := by rw [← hr]; unfold bareB; simp
    clear hr
    go_enter Tryz.func33, Tryz.ntmps33
    go_wp2
    go_ret
    exact ⟨rfl, (Keeps.refl _ _).alloc _⟩

set_option maxRecDepth 100000 in
theorem wright_any (kd nm : Int) (ng : Bool) (la ia ta : Option Addr) (ln lc im ic tn tc : Nat) (tx : ByteArray) (l : List Int) (w : World) (B : Nat → Prop) (F : Bool) (hl : Reads w B F 1 la ln (l.map (Value.int .u32))) (hr0 : Roomy ln 4 ∧ Roomy im 104 ∧ Roomy tn 104) :
    Calls Tryz.prog 11 #[.agg #[.int .u8 kd, .bool ng, .slice la ln lc, .string tx, .int .i64 nm, .slice ia im ic, .slice ta tn tc]] w fun e w' => e = .returned (.bool (intT kd ng l tx nm im tn)) ∧ Keeps NoB w w' := by
  have hlen : l.length = ln := by have := hl.1; simpa using this
  have hmax : ln ≤ 9223372036854775807 ∧ im ≤ 4611686018427387903 ∧ tn ≤ 4611686018427387903 := by
    unfold Roomy at hr0; omega
  have HL := hide hl; clear hl hr0
  generalize hr : intT kd ng l tx nm im tn = r
  have HR := hide hr
  by_cases h1 : kd = 1
  · subst h1
    by_cases h2 : tx = ByteArray.empty
    · subst h2
      by_cases h3 : nm = 0
      · subst h3
        by_cases h4 : im + tn = 0
        · obtain ⟨rfl, rfl⟩ : im = 0 ∧ tn = 0 := by omega
          clear h4
          by_cases h5 : ln ≤ 32
          · by_cases h6 : ln = 0
            · obtain rfl : r = !ng := by rw [← hr]; unfold intT; simp [hlen, h6]
              subst h6
              clear hr HR hmax
              cases ng
              · (go_enter Tryz.func11, Tryz.ntmps11; go_wp2; go_ret; exact ⟨rfl, (Keeps.refl _ _).alloc _⟩)
              · (go_enter Tryz.func11, Tryz.ntmps11; go_wp2; go_ret; exact ⟨rfl, (Keeps.refl _ _).alloc _⟩)
            · obtain ⟨⟨b, o, sp⟩, hA, hs, _, _, hc⟩ := HL.out.2 (by omega)
              simp only at hs
              subst hs hA
              obtain ⟨k, hkk⟩ : ∃ k, ln = k + 1 := ⟨ln - 1, by omega⟩
              obtain ⟨x, hX⟩ : ∃ x, l[k]? = some x := ⟨_, List.getElem?_eq_getElem (by omega)⟩
              have hk : w.cell? ⟨b, o + k, none⟩ = some (.int .u32 x) := (hc k _ (by simp [hX])).1
              have hk1 : (ln : Int) - 1 = (k : Int) := by omega
              have hk2 : (k : Int) < (ln : Int) := by omega
              have hk0 : (0 : Int) ≤ (k : Int) := by omega
              have hk3 : k < ln := by omega
              obtain rfl : r = decide (x ≠ 0) := by rw [← hr]; unfold intT; rw [hlen, hkk]; simp [List.getD, hX]; omega
              have b5 : decide ((ln : Int) ≤ 32) = true := by simp; omega
              have b6 : ((ln : Int) == 0) = false := by simp; omega
              have b7 : decide (0 < (ln : Int)) = true := by simp; omega
              have hn := hmax.1
              clear hr HR hc hkk h5 hX hmax hlen
              by_cases hx : x = 0
              · subst hx
                (go_enter Tryz.func11, Tryz.ntmps11; go_wp2; go_ret; exact ⟨rfl, (Keeps.refl _ _).alloc _⟩)
              · have b8 : (x == 0) = false := by simp; omega
                have b9 : (x != 0) = true := by simp; omega
                rw [show decide (x ≠ 0) = true from decide_eq_true hx]
                clear hx
                (go_enter Tryz.func11, Tryz.ntmps11; go_wp2; go_ret; exact ⟨rfl, (Keeps.refl _ _).alloc _⟩)
          · obtain rfl : r = false := by rw [← hr]; unfold intT; simp [hlen, h5]
            have b5 : decide ((ln : Int) ≤ 32) = false := by simp; omega
            clear hr HR h5 hlen
            (go_enter Tryz.func11, Tryz.ntmps11; go_wp2; go_ret; exact ⟨rfl, (Keeps.refl _ _).alloc _⟩)
        · obtain rfl : r = false := by rw [← hr]; unfold intT; simp only [h4, decide_false, Bool.false_and, Bool.and_false]
          have b4 : (((im : Int) + tn) == 0) = false := beq_eq_false_iff_ne.2 (by omega)
          have b5 : wrap64 ((im : Int) + tn) = (im : Int) + tn := by unfold wrap64; omega
          clear hr HR hlen
          (go_enter Tryz.func11, Tryz.ntmps11; go_wp2; go_ret; exact ⟨rfl, (Keeps.refl _ _).alloc _⟩)
      · obtain rfl : r = false := by rw [← hr]; unfold intT; simp [h3]
        have b3 : (nm == 0) = false := by simp [h3]
        clear hr HR hlen
        (go_enter Tryz.func11, Tryz.ntmps11; go_wp2; go_ret; exact ⟨rfl, (Keeps.refl _ _).alloc _⟩)
    · obtain rfl : r = false := by rw [← hr]; unfold intT; simp [h2]
      have b2 : (tx.toList == []) = false := tstr_ne h2
      clear hr HR hlen
      (go_enter Tryz.func11, Tryz.ntmps11; go_wp2; go_ret; exact ⟨rfl, (Keeps.refl _ _).alloc _⟩)
  · obtain rfl : r = false := by rw [← hr]; unfold intT; simp [h1]
    have b1 : (kd == 1) = false := by simp [h1]
    clear hr HR hlen
    (go_enter Tryz.func11, Tryz.ntmps11; go_wp2; go_ret; exact ⟨rfl, (Keeps.refl _ _).alloc _⟩)
end Go.Proofs.YthbbalkhmofndaaGreatDoor
namespace Go.Proofs.YthbbalkhmofndaaGreatDoor
open Go.RowKit

theorem addT_le : ∀ (l : List Tm) (n e m : Int), addT n e l = some m → 0 ≤ n → n ≤ 4096 → 0 ≤ e → n ≤ m ∧ m ≤ 4096
  | [], n, e, m, h, h0, h1, _ => by unfold addT at h; injection h with h; omega
  | x :: l, n, e, m, h, h0, h1, he => by
    unfold addT at h
    split at h
    · rename_i hc
      have := addT_le l (n + sizeT x + e) e m h (by omega) hc.2 he
      omega
    · cases h
theorem sizeT_le (t : Tm) : 0 ≤ sizeT t ∧ sizeT t ≤ 4096 := by
  cases t with
  | mk k ng limbs text num items tail =>
    unfold sizeT
    split
    · split
      · rename_i h1 h2
        unfold intT at h2
        simp only [Bool.and_eq_true, decide_eq_true_eq] at h2
        have := h2.1.2
        omega
      · omega
    · split
      · have hb : 0 ≤ baseT k ∧ baseT k ≤ 4096 := by unfold baseT; split <;> omega
        have he : 0 ≤ eachT k := by unfold eachT; split <;> omega
        split
        · omega
        · rename_i n hn
          have h1 := addT_le _ _ _ _ hn hb.1 hb.2 he
          split
          · omega
          · rename_i m hm
            have h2 := addT_le _ _ _ _ hm (by omega) h1.2 (Int.le_refl 0)
            omega
      · omega

def addS (f : Bool) (n e : Int) (l : List Tm) : Option Int := if f = true then addT n e l else none
theorem addS_step {f : Bool} {n e : Int} {l : List Tm} {k : Nat} {t : Tm} (h : l[k]? = some t) (hf : f = true) :
    addS f n e (l.drop k) = addS (decide (0 < sizeT t) && decide (n + (sizeT t + e) ≤ 4096)) (n + (sizeT t + e)) e (l.drop (k + 1)) := by
  obtain ⟨h1, h2⟩ := List.getElem?_eq_some_iff.1 h
  rw [List.drop_eq_getElem_cons h1, h2]
  unfold addS
  rw [if_pos hf]
  rw [addT]
  rw [show n + (sizeT t + e) = n + sizeT t + e by omega]
  by_cases c1 : 0 < sizeT t <;> by_cases c2 : n + sizeT t + e ≤ 4096 <;> simp [c1, c2]
theorem addS_false {n e : Int} {l : List Tm} : addS false n e l = none := by unfold addS; simp

def GF (gf gn : Nat) : Nat → Prop := fun k => k = gf ∨ k = gn
/-- What stands in the two boxes, and what is still to come. -/
def AddAt (w0 : World) (gf gn : Nat) (e : Int) (r : Option Int) (l : List Tm) (w : World) : Prop :=
  Keeps (GF gf gn) w0 w ∧ ∃ (f : Bool) (N : Int), Blk w gf 4 #[.bool f] ∧ Blk w gn 3 #[.int .i64 N] ∧ 0 ≤ N ∧ N ≤ 16384 ∧ (f = true → N ≤ 4096) ∧ r = addS f N e l

def SizeSaid (M : Nat) : Prop := ∀ (t : Tm), t.size ≤ M → ∀ (w : World) (B : Nat → Prop) (F : Bool)
    (kd : Int) (ng : Bool) (la : Option Addr) (ln lc : Nat) (tx : ByteArray) (nm : Int) (ia : Option Addr) (im ic : Nat) (ta : Option Addr) (tn tc : Nat),
    TermIn w B F [.int .u8 kd, .bool ng, .slice la ln lc, .string tx, .int .i64 nm, .slice ia im ic, .slice ta tn tc] t →
    Calls Tryz.prog 19 #[.agg #[.int .u8 kd, .bool ng, .slice la ln lc, .string tx, .int .i64 nm, .slice ia im ic, .slice ta tn tc]] w fun e w' => e = .returned (.int .i64 (sizeT t)) ∧ Keeps NoB w w'

set_option maxRecDepth 100000 in
set_option maxHeartbeats 1000000 in
theorem add_of (M : Nat) (IH : Hid (SizeSaid M)) (ts : List Tm) (hM : Tm.size.sizes ts ≤ M) (css : List (List Value)) (A : Option Addr) (n c : Nat) (e : Int) (gf gn : Nat) (r : Option Int) (w : World) (B : Nat → Prop) (F : Bool)
    (hr : Reads w B F 7 A n css.flatten) (ht : TermsIn w B F css ts) (hroom : Roomy n 104) (he0 : 0 ≤ e) (he1 : e ≤ 1) (hB : ∀ k, B k → ¬ GF gf gn k) (hg : gf ≠ gn) (hat : AddAt w gf gn e r ts w) :
    Calls Tryz.prog 34 #[.slice A n c, .int .i64 e, .pointer (some ⟨gf, 0, none⟩), .pointer (some ⟨gn, 0, none⟩)] w fun x w' => x = .returned (.tuple #[]) ∧ AddAt w gf gn e r [] w' := by
  have hln : ts.length = n := by have h1 := hr.1; rw [flat_len ht.lens.2, ht.lens.1] at h1; omega
  have hnm : n ≤ 9223372036854775807 := by have := hroom.len (by omega); unfold maxLen at this; exact this
  have HR := hide hr; have HT := hide ht; have HLN := hide hln; have HM := hide hM; have HB := hide hB; have HAT := hide hat; have HG := hide hg
  clear hr ht hln hM hroom hB hat
  go_enter Tryz.func34, Tryz.ntmps34
  go_wp2
  go_loopw [6] (fun i wr => ∃ k : Nat, k ≤ n ∧ i = .int .i64 k ∧ AddAt w gf gn e r (ts.drop k) wr) (fun i _ => n - (intOf i).toNat)
  case atStart => exact ⟨0, Nat.zero_le _, rfl, by rw [List.drop_zero]; exact HAT.out⟩
  case round =>
    obtain ⟨k, hk, rfl, hinv⟩ := hrel
    obtain ⟨hkw, f, N, hbf, hbn, hN0, hN1, hfN, hrr⟩ := hinv
    have HKW := hide hkw; have HBF := hide hbf; have HBN := hide hbn; have HFN := hide hfN; have HRR := hide hrr
    have pf : wr.cell? ⟨gf, 0, none⟩ = some (.bool f) := hbf.cell 0
    have pn : wr.cell? ⟨gn, 0, none⟩ = some (.int .i64 N) := hbn.cell 0
    clear hkw hbf hbn hfN hrr
    by_cases hlt : k < n
    · cases f with
      | false =>
        go_wp2
        go_end0
        refine ⟨rfl, HKW.out, false, N, HBF.out, HBN.out, hN0, hN1, HFN.out, ?_⟩
        rw [HRR.out, addS_false, addS_false]
      | true =>
        obtain ⟨b, o, kd, ng, la, ln, lc, tx, nm, ia, im, ic, ta, tn, tc, t, hA, h1, h2, h3, f0, f1, f2, f3, f4, f5, f6⟩ := cells_at (HR.out.keep HKW.out HB.out) (TermsIn.keep HKW.out HB.out _ _ HT.out) k hlt
        subst hA
        have hk1 : (k : Int) < (n : Int) := by omega
        have hk0 : (0 : Int) ≤ (k : Int) := by omega
        have hNN : N ≤ 4096 := HFN.out rfl
        have HE := hide h1; have HT2 := hide h2; have HZ := hide h3
        clear h1 h2 h3
        go_wp2_with
          first
          | (go_at_call 19
             refine (IH.out t (by have := HM.out; have := HZ.out; omega) _ _ _ _ _ _ _ _ _ _ _ _ _ _ _ _ HT2.out).mono ?_
             rintro x w2 ⟨rfl, hk2⟩
             have hb2f := HBF.out.keep hk2 id
             have hb2n := HBN.out.keep hk2 id
             have HK2 := hide hk2; have HF2 := hide hb2f; have HN2 := hide hb2n
             clear pf pn f0 f1 f2 f3 f4 f5 f6
             have pf : w2.cell? ⟨gf, 0, none⟩ = some (.bool true) := hb2f.cell 0
             have pn : w2.cell? ⟨gn, 0, none⟩ = some (.int .i64 N) := hb2n.cell 0
             have qf : w2.frozen? ⟨gf, 0, none⟩ = false := hb2f.free 0
             have qn : w2.frozen? ⟨gn, 0, none⟩ = false := hb2n.free 0
             have hs0 := (sizeT_le t).1
             have hs1 := (sizeT_le t).2
             have HST := hide (addS_step (n := N) (e := e) HE.out rfl)
             clear hk2 hb2f hb2n
             generalize sizeT t = s at *
             have hw1 : wrap64 (s + e) = s + e := by unfold wrap64; omega
             have hw2 : wrap64 (N + (s + e)) = N + (s + e) := by unfold wrap64; omega)
          | fail
        all_goals
          have hgn : gn ≠ gf := fun h => HG.out h.symm
          refine ⟨⟨k + 1, by omega, by go_num, ?_, ?_⟩, by simp [intOf]; omega⟩
        · exact ((HKW.out.trans' HK2.out (fun _ _ => id) (fun _ _ h => h.elim)).setCell (p := ⟨gn, 0, none⟩) (Or.inl (Or.inr rfl)) _).setCell (p := ⟨gf, 0, none⟩) (Or.inl (Or.inl rfl)) _
        · refine ⟨decide (N + (s + e) ≤ 4096), N + (s + e), (HF2.out.far (p := ⟨gn, 0, none⟩) hg _).put 0 _, (HN2.out.put 0 _).far (p := ⟨gf, 0, none⟩) hgn _, by omega, by omega, by simp, ?_⟩
          rw [HRR.out, HST.out]
          simp [*]
        · exact ((HKW.out.trans' HK2.out (fun _ _ => id) (fun _ _ h => h.elim)).setCell (p := ⟨gn, 0, none⟩) (Or.inl (Or.inr rfl)) _).setCell (p := ⟨gf, 0, none⟩) (Or.inl (Or.inl rfl)) _
        · refine ⟨false, N + (s + e), (HF2.out.far (p := ⟨gn, 0, none⟩) hg _).put 0 _, (HN2.out.put 0 _).far (p := ⟨gf, 0, none⟩) hgn _, by omega, by omega, by simp, ?_⟩
          rw [HRR.out, HST.out]
          simp [*]
    · go_wp2
      go_end0
      refine ⟨rfl, HKW.out, f, N, HBF.out, HBN.out, hN0, hN1, HFN.out, ?_⟩
      rw [HRR.out, List.drop_eq_nil_of_le (by have := HLN.out; omega)]
end Go.Proofs.YthbbalkhmofndaaGreatDoor
