/- bif.one at hd of what is no list. Printed by mksplit.py. bif.Call. Printed by mkcallr.py. Cores as trees, and what cells read as them. -/
import Derived.Test.YtjdbjjjbgibpaaaGreatDoorSplitNJn
import Derived.Test.YtjdbjjjbgibpaaaGreatDoorRowJn
import Derived.Test.YtjdbjjjbgibpaaaGreatDoorOrdSJn
namespace Go.Proofs.YtjdbjjjbgibpaaaGreatDoor
set_option maxRecDepth 100000
open Go.RowKit

/-- bif.kinds, as the program lays it. -/
def KindsAt (w : World) : Prop := w.cell? ⟨1, 0, none⟩ = some (.string ⟨#[105, 115, 95, 105, 110, 116, 101, 103, 101, 114]⟩) ∧ w.cell? ⟨1, 1, none⟩ = some (.int .u8 1) ∧ w.cell? ⟨1, 2, none⟩ = some (.string ⟨#[105, 115, 95, 97, 116, 111, 109]⟩) ∧ w.cell? ⟨1, 3, none⟩ = some (.int .u8 2) ∧ w.cell? ⟨1, 4, none⟩ = some (.string ⟨#[105, 115, 95, 116, 117, 112, 108, 101]⟩) ∧ w.cell? ⟨1, 5, none⟩ = some (.int .u8 6) ∧ w.cell? ⟨1, 6, none⟩ = some (.string ⟨#[105, 115, 95, 108, 105, 115, 116]⟩) ∧ w.cell? ⟨1, 7, none⟩ = some (.int .u8 7) ∧ w.cell? ⟨1, 8, none⟩ = some (.string ⟨#[105, 115, 95, 112, 105, 100]⟩) ∧ w.cell? ⟨1, 9, none⟩ = some (.int .u8 5) ∧ w.cell? ⟨1, 10, none⟩ = some (.string ⟨#[105, 115, 95, 114, 101, 102, 101, 114, 101, 110, 99, 101]⟩) ∧ w.cell? ⟨1, 11, none⟩ = some (.int .u8 3) ∧ w.cell? ⟨1, 12, none⟩ = some (.string ⟨#[105, 115, 95, 102, 117, 110, 99, 116, 105, 111, 110]⟩) ∧ w.cell? ⟨1, 13, none⟩ = some (.int .u8 4)
theorem KindsAt.keep {w w' : World} (h : KindsAt w) (hk : Keeps NoB w w') : KindsAt w' := by
  obtain ⟨h0, h1, h2, h3, h4, h5, h6, h7, h8, h9, h10, h11, h12, h13⟩ := h
  exact ⟨hk.cell id h0, hk.cell id h1, hk.cell id h2, hk.cell id h3, hk.cell id h4, hk.cell id h5, hk.cell id h6, hk.cell id h7, hk.cell id h8, hk.cell id h9, hk.cell id h10, hk.cell id h11, hk.cell id h12, hk.cell id h13⟩
theorem idx_kinds_0 (w : World) : (Instr.index 107 (.agg #[.string ⟨#[105, 115, 95, 105, 110, 116, 101, 103, 101, 114]⟩, .int .u8 1, .string ⟨#[105, 115, 95, 97, 116, 111, 109]⟩, .int .u8 2, .string ⟨#[105, 115, 95, 116, 117, 112, 108, 101]⟩, .int .u8 6, .string ⟨#[105, 115, 95, 108, 105, 115, 116]⟩, .int .u8 7, .string ⟨#[105, 115, 95, 112, 105, 100]⟩, .int .u8 5, .string ⟨#[105, 115, 95, 114, 101, 102, 101, 114, 101, 110, 99, 101]⟩, .int .u8 3, .string ⟨#[105, 115, 95, 102, 117, 110, 99, 116, 105, 111, 110]⟩, .int .u8 4]) (.int .i64 0)).run Tryz.prog w = .ok (.agg #[.string ⟨#[105, 115, 95, 105, 110, 116, 101, 103, 101, 114]⟩, .int .u8 1]) w := by kernel_rfl
theorem idx_kinds_1 (w : World) : (Instr.index 107 (.agg #[.string ⟨#[105, 115, 95, 105, 110, 116, 101, 103, 101, 114]⟩, .int .u8 1, .string ⟨#[105, 115, 95, 97, 116, 111, 109]⟩, .int .u8 2, .string ⟨#[105, 115, 95, 116, 117, 112, 108, 101]⟩, .int .u8 6, .string ⟨#[105, 115, 95, 108, 105, 115, 116]⟩, .int .u8 7, .string ⟨#[105, 115, 95, 112, 105, 100]⟩, .int .u8 5, .string ⟨#[105, 115, 95, 114, 101, 102, 101, 114, 101, 110, 99, 101]⟩, .int .u8 3, .string ⟨#[105, 115, 95, 102, 117, 110, 99, 116, 105, 111, 110]⟩, .int .u8 4]) (.int .i64 1)).run Tryz.prog w = .ok (.agg #[.string ⟨#[105, 115, 95, 97, 116, 111, 109]⟩, .int .u8 2]) w := by kernel_rfl
theorem idx_kinds_2 (w : World) : (Instr.index 107 (.agg #[.string ⟨#[105, 115, 95, 105, 110, 116, 101, 103, 101, 114]⟩, .int .u8 1, .string ⟨#[105, 115, 95, 97, 116, 111, 109]⟩, .int .u8 2, .string ⟨#[105, 115, 95, 116, 117, 112, 108, 101]⟩, .int .u8 6, .string ⟨#[105, 115, 95, 108, 105, 115, 116]⟩, .int .u8 7, .string ⟨#[105, 115, 95, 112, 105, 100]⟩, .int .u8 5, .string ⟨#[105, 115, 95, 114, 101, 102, 101, 114, 101, 110, 99, 101]⟩, .int .u8 3, .string ⟨#[105, 115, 95, 102, 117, 110, 99, 116, 105, 111, 110]⟩, .int .u8 4]) (.int .i64 2)).run Tryz.prog w = .ok (.agg #[.string ⟨#[105, 115, 95, 116, 117, 112, 108, 101]⟩, .int .u8 6]) w := by kernel_rfl
theorem idx_kinds_3 (w : World) : (Instr.index 107 (.agg #[.string ⟨#[105, 115, 95, 105, 110, 116, 101, 103, 101, 114]⟩, .int .u8 1, .string ⟨#[105, 115, 95, 97, 116, 111, 109]⟩, .int .u8 2, .string ⟨#[105, 115, 95, 116, 117, 112, 108, 101]⟩, .int .u8 6, .string ⟨#[105, 115, 95, 108, 105, 115, 116]⟩, .int .u8 7, .string ⟨#[105, 115, 95, 112, 105, 100]⟩, .int .u8 5, .string ⟨#[105, 115, 95, 114, 101, 102, 101, 114, 101, 110, 99, 101]⟩, .int .u8 3, .string ⟨#[105, 115, 95, 102, 117, 110, 99, 116, 105, 111, 110]⟩, .int .u8 4]) (.int .i64 3)).run Tryz.prog w = .ok (.agg #[.string ⟨#[105, 115, 95, 108, 105, 115, 116]⟩, .int .u8 7]) w := by kernel_rfl
theorem idx_kinds_4 (w : World) : (Instr.index 107 (.agg #[.string ⟨#[105, 115, 95, 105, 110, 116, 101, 103, 101, 114]⟩, .int .u8 1, .string ⟨#[105, 115, 95, 97, 116, 111, 109]⟩, .int .u8 2, .string ⟨#[105, 115, 95, 116, 117, 112, 108, 101]⟩, .int .u8 6, .string ⟨#[105, 115, 95, 108, 105, 115, 116]⟩, .int .u8 7, .string ⟨#[105, 115, 95, 112, 105, 100]⟩, .int .u8 5, .string ⟨#[105, 115, 95, 114, 101, 102, 101, 114, 101, 110, 99, 101]⟩, .int .u8 3, .string ⟨#[105, 115, 95, 102, 117, 110, 99, 116, 105, 111, 110]⟩, .int .u8 4]) (.int .i64 4)).run Tryz.prog w = .ok (.agg #[.string ⟨#[105, 115, 95, 112, 105, 100]⟩, .int .u8 5]) w := by kernel_rfl
theorem idx_kinds_5 (w : World) : (Instr.index 107 (.agg #[.string ⟨#[105, 115, 95, 105, 110, 116, 101, 103, 101, 114]⟩, .int .u8 1, .string ⟨#[105, 115, 95, 97, 116, 111, 109]⟩, .int .u8 2, .string ⟨#[105, 115, 95, 116, 117, 112, 108, 101]⟩, .int .u8 6, .string ⟨#[105, 115, 95, 108, 105, 115, 116]⟩, .int .u8 7, .string ⟨#[105, 115, 95, 112, 105, 100]⟩, .int .u8 5, .string ⟨#[105, 115, 95, 114, 101, 102, 101, 114, 101, 110, 99, 101]⟩, .int .u8 3, .string ⟨#[105, 115, 95, 102, 117, 110, 99, 116, 105, 111, 110]⟩, .int .u8 4]) (.int .i64 5)).run Tryz.prog w = .ok (.agg #[.string ⟨#[105, 115, 95, 114, 101, 102, 101, 114, 101, 110, 99, 101]⟩, .int .u8 3]) w := by kernel_rfl
theorem idx_kinds_6 (w : World) : (Instr.index 107 (.agg #[.string ⟨#[105, 115, 95, 105, 110, 116, 101, 103, 101, 114]⟩, .int .u8 1, .string ⟨#[105, 115, 95, 97, 116, 111, 109]⟩, .int .u8 2, .string ⟨#[105, 115, 95, 116, 117, 112, 108, 101]⟩, .int .u8 6, .string ⟨#[105, 115, 95, 108, 105, 115, 116]⟩, .int .u8 7, .string ⟨#[105, 115, 95, 112, 105, 100]⟩, .int .u8 5, .string ⟨#[105, 115, 95, 114, 101, 102, 101, 114, 101, 110, 99, 101]⟩, .int .u8 3, .string ⟨#[105, 115, 95, 102, 117, 110, 99, 116, 105, 111, 110]⟩, .int .u8 4]) (.int .i64 6)).run Tryz.prog w = .ok (.agg #[.string ⟨#[105, 115, 95, 102, 117, 110, 99, 116, 105, 111, 110]⟩, .int .u8 4]) w := by kernel_rfl
end Go.Proofs.YtjdbjjjbgibpaaaGreatDoor
namespace Go.Proofs.YtjdbjjjbgibpaaaGreatDoor
set_option maxRecDepth 100000
open Go.RowKit

end Go.Proofs.YtjdbjjjbgibpaaaGreatDoor
namespace Go.Proofs.YtjdbjjjbgibpaaaGreatDoor
open Go.RowKit

/-- A core as a tree. -/
inductive Co where
  | mk (kind : Int) (text : ByteArray) (num : Int) (term : Tm) (kids : List Co)

def Co.size : Co → Nat
  | .mk _ _ _ _ kids => 1 + sizes kids
where sizes : List Co → Nat
  | [] => 0
  | t :: ts => t.size + sizes ts + 1
def Co.kind : Co → Int | .mk k _ _ _ _ => k
def Co.num : Co → Int | .mk _ _ n _ _ => n
def Co.term : Co → Tm | .mk _ _ _ t _ => t
def Co.kids : Co → List Co | .mk _ _ _ _ l => l
theorem Co.size_pos (t : Co) : 0 < t.size := by cases t; simp only [Co.size]; omega

mutual
/-- Eleven cells read as a core. -/
def CoreIn (w : World) (B : Nat → Prop) (F : Bool) : List Value → Co → Prop
  | cs, .mk k text num t kids => ∃ tcs ka kn kc css,
      cs = .int .u8 k :: .string text :: .int .i64 num :: (tcs ++ [.slice ka kn kc]) ∧ TermIn w B F tcs t ∧ Roomy kn 160 ∧
      Reads w B F 11 ka kn css.flatten ∧ CoresIn w B F css kids
def CoresIn (w : World) (B : Nat → Prop) (F : Bool) : List (List Value) → List Co → Prop
  | [], [] => True
  | cs :: css, t :: ts => CoreIn w B F cs t ∧ CoresIn w B F css ts
  | [], _ :: _ => False
  | _ :: _, [] => False
end

mutual
theorem CoreIn.keep {w w' : World} {B : Nat → Prop} {F : Bool} {fp : Nat → Prop} (hk : Keeps fp w w') (hf : ∀ k, B k → ¬ fp k) : ∀ (t : Co) (cs : List Value), CoreIn w B F cs t → CoreIn w' B F cs t
  | .mk k text num t kids, cs, h => by
    unfold CoreIn at h ⊢
    obtain ⟨tcs, ka, kn, kc, css, e, h1, hb, h2, h3⟩ := h
    exact ⟨tcs, ka, kn, kc, css, e, TermIn.keep hk hf _ _ h1, hb, h2.keep hk hf, CoresIn.keep hk hf kids css h3⟩
theorem CoresIn.keep {w w' : World} {B : Nat → Prop} {F : Bool} {fp : Nat → Prop} (hk : Keeps fp w w') (hf : ∀ k, B k → ¬ fp k) : ∀ (ts : List Co) (css : List (List Value)), CoresIn w B F css ts → CoresIn w' B F css ts
  | [], [], _ => by unfold CoresIn; trivial
  | t :: ts, cs :: css, h => by
    unfold CoresIn at h ⊢
    exact ⟨CoreIn.keep hk hf t cs h.1, CoresIn.keep hk hf ts css h.2⟩
  | [], _ :: _, h => by unfold CoresIn at h; exact h.elim
  | _ :: _, [], h => by unfold CoresIn at h; exact h.elim
end

mutual
theorem CoreIn.more {w : World} {B B' : Nat → Prop} {F : Bool} (hB : ∀ k, k < w.heap.size → B k → B' k) : ∀ (t : Co) (cs : List Value), CoreIn w B F cs t → CoreIn w B' F cs t
  | .mk k text num t kids, cs, h => by
    unfold CoreIn at h ⊢
    obtain ⟨tcs, ka, kn, kc, css, e, h1, hb, h2, h3⟩ := h
    exact ⟨tcs, ka, kn, kc, css, e, TermIn.more hB _ _ h1, hb, h2.more hB, CoresIn.more hB kids css h3⟩
theorem CoresIn.more {w : World} {B B' : Nat → Prop} {F : Bool} (hB : ∀ k, k < w.heap.size → B k → B' k) : ∀ (ts : List Co) (css : List (List Value)), CoresIn w B F css ts → CoresIn w B' F css ts
  | [], [], _ => by unfold CoresIn; trivial
  | t :: ts, cs :: css, h => by
    unfold CoresIn at h ⊢
    exact ⟨CoreIn.more hB t cs h.1, CoresIn.more hB ts css h.2⟩
  | [], _ :: _, h => by unfold CoresIn at h; exact h.elim
  | _ :: _, [], h => by unfold CoresIn at h; exact h.elim
end

mutual
theorem CoreIn.weak {w : World} {B : Nat → Prop} {F : Bool} : ∀ (t : Co) (cs : List Value), CoreIn w B F cs t → CoreIn w B false cs t
  | .mk k text num t kids, cs, h => by
    unfold CoreIn at h ⊢
    obtain ⟨tcs, ka, kn, kc, css, e, h1, hb, h2, h3⟩ := h
    exact ⟨tcs, ka, kn, kc, css, e, TermIn.weak _ _ h1, hb, h2.weak, CoresIn.weak kids css h3⟩
theorem CoresIn.weak {w : World} {B : Nat → Prop} {F : Bool} : ∀ (ts : List Co) (css : List (List Value)), CoresIn w B F css ts → CoresIn w B false css ts
  | [], [], _ => by unfold CoresIn; trivial
  | t :: ts, cs :: css, h => by
    unfold CoresIn at h ⊢
    exact ⟨CoreIn.weak t cs h.1, CoresIn.weak ts css h.2⟩
  | [], _ :: _, h => by unfold CoresIn at h; exact h.elim
  | _ :: _, [], h => by unfold CoresIn at h; exact h.elim
end

theorem CoreIn.len {w : World} {B : Nat → Prop} {F : Bool} {t : Co} {cs : List Value} (h : CoreIn w B F cs t) : cs.length = 11 := by
  cases t
  unfold CoreIn at h
  obtain ⟨tcs, ka, kn, kc, css, rfl, h1, _⟩ := h
  simp [h1.len]

theorem CoresIn.lens {w : World} {B : Nat → Prop} {F : Bool} : ∀ {ts : List Co} {css : List (List Value)}, CoresIn w B F css ts → css.length = ts.length ∧ ∀ c ∈ css, c.length = 11
  | [], [], _ => ⟨rfl, fun _ h => by cases h⟩
  | t :: ts, cs :: css, h => by
    unfold CoresIn at h
    obtain ⟨h1, h2⟩ := CoresIn.lens h.2
    refine ⟨by simp [h1], fun c hc => ?_⟩
    rcases List.mem_cons.1 hc with rfl | hc
    · exact h.1.len
    · exact h2 c hc
  | [], _ :: _, h => by unfold CoresIn at h; exact h.elim
  | _ :: _, [], h => by unfold CoresIn at h; exact h.elim

theorem CoresIn.append {w : World} {B : Nat → Prop} {F : Bool} : ∀ {ts us : List Co} {css dss : List (List Value)}, CoresIn w B F css ts → CoresIn w B F dss us → CoresIn w B F (css ++ dss) (ts ++ us)
  | [], us, [], dss, _, k => k
  | t :: ts, us, cs :: css, dss, h, k => by
    unfold CoresIn at h
    rw [List.cons_append, List.cons_append]
    unfold CoresIn
    exact ⟨h.1, CoresIn.append h.2 k⟩
  | [], _, _ :: _, _, h, _ => by unfold CoresIn at h; exact h.elim
  | _ :: _, _, [], _, h, _ => by unfold CoresIn at h; exact h.elim
theorem CoresIn.one {w : World} {B : Nat → Prop} {F : Bool} {t : Co} {cs : List Value} (h : CoreIn w B F cs t) : CoresIn w B F [cs] [t] := by
  unfold CoresIn
  exact ⟨h, by unfold CoresIn; trivial⟩

/-- A core's eleven cells, written out; its term, its kids. -/
theorem CoreIn.opened {w : World} {B : Nat → Prop} {F : Bool} {t : Co} {cs : List Value} (h : CoreIn w B F cs t) :
    ∃ kd tx nm tk ng la ln lc tt tn ia im ic ta tm tc ka kn kc tr kids css, t = .mk kd tx nm tr kids ∧
      cs = [.int .u8 kd, .string tx, .int .i64 nm, .int .u8 tk, .bool ng, .slice la ln lc, .string tt, .int .i64 tn, .slice ia im ic, .slice ta tm tc, .slice ka kn kc] ∧
      TermIn w B F [.int .u8 tk, .bool ng, .slice la ln lc, .string tt, .int .i64 tn, .slice ia im ic, .slice ta tm tc] tr ∧ Roomy kn 160 ∧ Reads w B F 11 ka kn (List.flatten css) ∧ CoresIn w B F css kids ∧ List.length kids = kn := by
  cases t with
  | mk k text num t kids =>
    unfold CoreIn at h
    obtain ⟨tcs, ka, kn, kc, css, rfl, h1, hb, h2, h3⟩ := h
    obtain ⟨tk, ng, la, ln, lc, tt, tn, ia, im, ic, ta, tm, tc, rfl, _⟩ := h1.cells
    have hl : kids.length = kn := by have h5 := h2.1; rw [flat_len h3.lens.2, h3.lens.1] at h5; omega
    exact ⟨k, text, num, tk, ng, la, ln, lc, tt, tn, ia, im, ic, ta, tm, tc, ka, kn, kc, t, kids, css, rfl, rfl, h1, hb, h2, h3, hl⟩

theorem CoresIn.get {w : World} {B : Nat → Prop} {F : Bool} : ∀ {ts : List Co} {css : List (List Value)}, CoresIn w B F css ts → ∀ k, k < ts.length → ∃ cs t, css[k]? = some cs ∧ ts[k]? = some t ∧ CoreIn w B F cs t ∧ t.size ≤ Co.size.sizes ts
  | [], [], _, k, h1 => by simp at h1
  | t :: ts, cs :: css, h, k, h1 => by
    unfold CoresIn at h
    cases k with
    | zero => exact ⟨cs, t, rfl, rfl, h.1, by simp only [Co.size.sizes]; omega⟩
    | succ k =>
      obtain ⟨cs', t', e1, e2, e3, e4⟩ := CoresIn.get h.2 k (by simpa using h1)
      exact ⟨cs', t', e1, e2, e3, by simp only [Co.size.sizes]; omega⟩
  | [], _ :: _, h, _, _ => by unfold CoresIn at h; exact h.elim
  | _ :: _, [], h, _, _ => by unfold CoresIn at h; exact h.elim

/-- The cells of the k-th core, where they lie. -/
theorem core_at {w : World} {B : Nat → Prop} {F : Bool} {ts : List Co} {css : List (List Value)} {A : Option Addr} {n : Nat} (hr : Reads w B F 11 A n css.flatten) (ht : CoresIn w B F css ts) (k : Nat) (hk : k < n) :
    ∃ b o kd tx nm tk ng la ln lc tt tn ia im ic ta tm tc ka kn kc t, A = some ⟨b, o, none⟩ ∧ ts[k]? = some t ∧ t.size ≤ Co.size.sizes ts ∧
      CoreIn w B F [.int .u8 kd, .string tx, .int .i64 nm, .int .u8 tk, .bool ng, .slice la ln lc, .string tt, .int .i64 tn, .slice ia im ic, .slice ta tm tc, .slice ka kn kc] t ∧
      w.cell? ⟨b, o + k * 11, none⟩ = some (.int .u8 kd) ∧ w.cell? ⟨b, o + k * 11 + 1, none⟩ = some (.string tx) ∧ w.cell? ⟨b, o + k * 11 + 2, none⟩ = some (.int .i64 nm) ∧ w.cell? ⟨b, o + k * 11 + 3, none⟩ = some (.int .u8 tk) ∧
      w.cell? ⟨b, o + k * 11 + 4, none⟩ = some (.bool ng) ∧ w.cell? ⟨b, o + k * 11 + 5, none⟩ = some (.slice la ln lc) ∧ w.cell? ⟨b, o + k * 11 + 6, none⟩ = some (.string tt) ∧ w.cell? ⟨b, o + k * 11 + 7, none⟩ = some (.int .i64 tn) ∧
      w.cell? ⟨b, o + k * 11 + 8, none⟩ = some (.slice ia im ic) ∧ w.cell? ⟨b, o + k * 11 + 9, none⟩ = some (.slice ta tm tc) ∧ w.cell? ⟨b, o + k * 11 + 10, none⟩ = some (.slice ka kn kc) := by
  obtain ⟨hl, h11⟩ := ht.lens
  have hn : css.length = n := by have h1 := hr.1; rw [flat_len h11] at h1; omega
  obtain ⟨cs, t, e1, e2, e3, e4⟩ := CoresIn.get ht k (by omega)
  obtain ⟨⟨b, o, sp⟩, hA, hs, _, _, hc⟩ := hr.2 (by omega)
  simp only at hs
  subst hs hA
  obtain ⟨kd, tx, nm, tk, ng, la, ln, lc, tt, tn, ia, im, ic, ta, tm, tc, ka, kn, kc, tr, kids, dss, rfl, rfl, _⟩ := e3.opened
  obtain ⟨hkl, hke⟩ := List.getElem?_eq_some_iff.1 e1
  have g : ∀ j (_ : j < 11) u, css[k][j]? = some u → w.cell? ⟨b, o + k * 11 + j, none⟩ = some u := fun j hj u hu => by
    have := (hc (k * 11 + j) u (by rw [flat_get h11 k hkl j hj]; exact hu)).1
    rw [← Nat.add_assoc] at this; exact this
  rw [hke] at g
  exact ⟨b, o, kd, tx, nm, tk, ng, la, ln, lc, tt, tn, ia, im, ic, ta, tm, tc, ka, kn, kc, _, rfl, e2, e4, e3, g 0 (by omega) _ rfl, g 1 (by omega) _ rfl, g 2 (by omega) _ rfl, g 3 (by omega) _ rfl, g 4 (by omega) _ rfl, g 5 (by omega) _ rfl, g 6 (by omega) _ rfl, g 7 (by omega) _ rfl, g 8 (by omega) _ rfl, g 9 (by omega) _ rfl, g 10 (by omega) _ rfl⟩
end Go.Proofs.YtjdbjjjbgibpaaaGreatDoor
