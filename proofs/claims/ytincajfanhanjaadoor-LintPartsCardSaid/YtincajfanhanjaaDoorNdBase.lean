/- Nodes as trees, and what cells read as them. -/
import Derived.Test.YtincajfanhanjaaDoorRows
import Derived.Test.YtincajfanhanjaaDoorMore
namespace Go.Proofs.YtincajfanhanjaaDoor
open Go.RowKit

/-- A node as a tree. -/
inductive Nd where
  | mk (kind : Int) (text : ByteArray) (num place : Int) (kids : List Nd)

def Nd.size : Nd → Nat
  | .mk _ _ _ _ kids => 1 + sizes kids
where sizes : List Nd → Nat
  | [] => 0
  | t :: ts => t.size + sizes ts + 1
def Nd.kind : Nd → Int | .mk k _ _ _ _ => k
def Nd.text : Nd → ByteArray | .mk _ s _ _ _ => s
def Nd.num : Nd → Int | .mk _ _ n _ _ => n
def Nd.place : Nd → Int | .mk _ _ _ p _ => p
def Nd.kids : Nd → List Nd | .mk _ _ _ _ l => l
theorem Nd.size_pos (t : Nd) : 0 < t.size := by cases t; simp only [Nd.size]; omega

mutual
/-- Five cells read as a node. -/
def NodeIn (w : World) (B : Nat → Prop) (F : Bool) : List Value → Nd → Prop
  | cs, .mk k text num pl kids => ∃ ka kn kc css,
      cs = [.int .u8 k, .string text, .int .i64 num, .int .i64 pl, .slice ka kn kc] ∧ (Roomy kn 64 ∧ kn ≤ kc) ∧
      Reads w B F 5 ka kn css.flatten ∧ NodesIn w B F css kids
def NodesIn (w : World) (B : Nat → Prop) (F : Bool) : List (List Value) → List Nd → Prop
  | [], [] => True
  | cs :: css, t :: ts => NodeIn w B F cs t ∧ NodesIn w B F css ts
  | [], _ :: _ => False
  | _ :: _, [] => False
end
mutual
theorem NodeIn.keep {w w' : World} {B : Nat → Prop} {F : Bool} {fp : Nat → Prop} (hk : Keeps fp w w') (hf : ∀ k, B k → ¬ fp k) : ∀ (t : Nd) (cs : List Value), NodeIn w B F cs t → NodeIn w' B F cs t
  | .mk k text num pl kids, cs, h => by
    unfold NodeIn at h ⊢
    obtain ⟨ka, kn, kc, css, e, hb, h2, h3⟩ := h
    exact ⟨ka, kn, kc, css, e, hb, h2.keep hk hf, NodesIn.keep hk hf kids css h3⟩
theorem NodesIn.keep {w w' : World} {B : Nat → Prop} {F : Bool} {fp : Nat → Prop} (hk : Keeps fp w w') (hf : ∀ k, B k → ¬ fp k) : ∀ (ts : List Nd) (css : List (List Value)), NodesIn w B F css ts → NodesIn w' B F css ts
  | [], [], _ => by unfold NodesIn; trivial
  | t :: ts, cs :: css, h => by
    unfold NodesIn at h ⊢
    exact ⟨NodeIn.keep hk hf t cs h.1, NodesIn.keep hk hf ts css h.2⟩
  | [], _ :: _, h => by unfold NodesIn at h; exact h.elim
  | _ :: _, [], h => by unfold NodesIn at h; exact h.elim
end

mutual
theorem NodeIn.more {w : World} {B B' : Nat → Prop} {F : Bool} (hB : ∀ k, k < w.heap.size → B k → B' k) : ∀ (t : Nd) (cs : List Value), NodeIn w B F cs t → NodeIn w B' F cs t
  | .mk k text num pl kids, cs, h => by
    unfold NodeIn at h ⊢
    obtain ⟨ka, kn, kc, css, e, hb, h2, h3⟩ := h
    exact ⟨ka, kn, kc, css, e, hb, h2.more hB, NodesIn.more hB kids css h3⟩
theorem NodesIn.more {w : World} {B B' : Nat → Prop} {F : Bool} (hB : ∀ k, k < w.heap.size → B k → B' k) : ∀ (ts : List Nd) (css : List (List Value)), NodesIn w B F css ts → NodesIn w B' F css ts
  | [], [], _ => by unfold NodesIn; trivial
  | t :: ts, cs :: css, h => by
    unfold NodesIn at h ⊢
    exact ⟨NodeIn.more hB t cs h.1, NodesIn.more hB ts css h.2⟩
  | [], _ :: _, h => by unfold NodesIn at h; exact h.elim
  | _ :: _, [], h => by unfold NodesIn at h; exact h.elim
end

mutual
theorem NodeIn.weak {w : World} {B : Nat → Prop} {F : Bool} : ∀ (t : Nd) (cs : List Value), NodeIn w B F cs t → NodeIn w B false cs t
  | .mk k text num pl kids, cs, h => by
    unfold NodeIn at h ⊢
    obtain ⟨ka, kn, kc, css, e, hb, h2, h3⟩ := h
    exact ⟨ka, kn, kc, css, e, hb, h2.weak, NodesIn.weak kids css h3⟩
theorem NodesIn.weak {w : World} {B : Nat → Prop} {F : Bool} : ∀ (ts : List Nd) (css : List (List Value)), NodesIn w B F css ts → NodesIn w B false css ts
  | [], [], _ => by unfold NodesIn; trivial
  | t :: ts, cs :: css, h => by
    unfold NodesIn at h ⊢
    exact ⟨NodeIn.weak t cs h.1, NodesIn.weak ts css h.2⟩
  | [], _ :: _, h => by unfold NodesIn at h; exact h.elim
  | _ :: _, [], h => by unfold NodesIn at h; exact h.elim
end

theorem NodeIn.len {w : World} {B : Nat → Prop} {F : Bool} {t : Nd} {cs : List Value} (h : NodeIn w B F cs t) : cs.length = 5 := by
  cases t
  unfold NodeIn at h
  obtain ⟨ka, kn, kc, css, rfl, _⟩ := h
  rfl

theorem NodesIn.lens {w : World} {B : Nat → Prop} {F : Bool} : ∀ {ts : List Nd} {css : List (List Value)}, NodesIn w B F css ts → css.length = ts.length ∧ ∀ c ∈ css, c.length = 5
  | [], [], _ => ⟨rfl, fun _ h => by cases h⟩
  | t :: ts, cs :: css, h => by
    unfold NodesIn at h
    obtain ⟨h1, h2⟩ := NodesIn.lens h.2
    refine ⟨by simp [h1], fun c hc => ?_⟩
    rcases List.mem_cons.1 hc with rfl | hc
    · exact h.1.len
    · exact h2 c hc
  | [], _ :: _, h => by unfold NodesIn at h; exact h.elim
  | _ :: _, [], h => by unfold NodesIn at h; exact h.elim

theorem NodesIn.append {w : World} {B : Nat → Prop} {F : Bool} : ∀ {ts us : List Nd} {css dss : List (List Value)}, NodesIn w B F css ts → NodesIn w B F dss us → NodesIn w B F (css ++ dss) (ts ++ us)
  | [], us, [], dss, _, k => k
  | t :: ts, us, cs :: css, dss, h, k => by
    unfold NodesIn at h
    rw [List.cons_append, List.cons_append]
    unfold NodesIn
    exact ⟨h.1, NodesIn.append h.2 k⟩
  | [], _, _ :: _, _, h, _ => by unfold NodesIn at h; exact h.elim
  | _ :: _, _, [], _, h, _ => by unfold NodesIn at h; exact h.elim
theorem NodesIn.one {w : World} {B : Nat → Prop} {F : Bool} {t : Nd} {cs : List Value} (h : NodeIn w B F cs t) : NodesIn w B F [cs] [t] := by
  unfold NodesIn
  exact ⟨h, by unfold NodesIn; trivial⟩

/-- A node's five cells, written out; its kids. -/
theorem NodeIn.opened {w : World} {B : Nat → Prop} {F : Bool} {t : Nd} {cs : List Value} (h : NodeIn w B F cs t) :
    ∃ kd tx nm pl ka kn kc kids css, t = .mk kd tx nm pl kids ∧ cs = [.int .u8 kd, .string tx, .int .i64 nm, .int .i64 pl, .slice ka kn kc] ∧
      (Roomy kn 64 ∧ kn ≤ kc) ∧ Reads w B F 5 ka kn (List.flatten css) ∧ NodesIn w B F css kids ∧ List.length kids = kn := by
  cases t with
  | mk k text num pl kids =>
    unfold NodeIn at h
    obtain ⟨ka, kn, kc, css, rfl, hb, h2, h3⟩ := h
    have hl : kids.length = kn := by have h5 := h2.1; rw [flat_len h3.lens.2, h3.lens.1] at h5; omega
    exact ⟨k, text, num, pl, ka, kn, kc, kids, css, rfl, rfl, hb, h2, h3, hl⟩
/-- Of five cells that are given. -/
theorem NodeIn.kidsIn {w : World} {B : Nat → Prop} {F : Bool} {t : Nd} {kd : Int} {tx : ByteArray} {nm pl : Int} {ka : Option Addr} {kn kc : Nat} (h : NodeIn w B F [.int .u8 kd, .string tx, .int .i64 nm, .int .i64 pl, .slice ka kn kc] t) :
    ∃ kids css, t = .mk kd tx nm pl kids ∧ (Roomy kn 64 ∧ kn ≤ kc) ∧ Reads w B F 5 ka kn (List.flatten css) ∧ NodesIn w B F css kids ∧ List.length kids = kn := by
  obtain ⟨_, _, _, _, _, _, _, kids, css, e1, e2, h1, h2, h3, h4⟩ := h.opened
  simp only [List.cons.injEq, Value.int.injEq, Value.slice.injEq, Value.string.injEq, true_and, and_true] at e2
  obtain ⟨rfl, rfl, rfl, rfl, rfl, rfl, rfl⟩ := e2
  exact ⟨kids, css, e1, h1, h2, h3, h4⟩

theorem NodesIn.get {w : World} {B : Nat → Prop} {F : Bool} : ∀ {ts : List Nd} {css : List (List Value)}, NodesIn w B F css ts → ∀ k, k < ts.length → ∃ cs t, css[k]? = some cs ∧ ts[k]? = some t ∧ NodeIn w B F cs t ∧ t.size ≤ Nd.size.sizes ts
  | [], [], _, k, h1 => by simp at h1
  | t :: ts, cs :: css, h, k, h1 => by
    unfold NodesIn at h
    cases k with
    | zero => exact ⟨cs, t, rfl, rfl, h.1, by simp only [Nd.size.sizes]; omega⟩
    | succ k =>
      obtain ⟨cs', t', e1, e2, e3, e4⟩ := NodesIn.get h.2 k (by simpa using h1)
      exact ⟨cs', t', e1, e2, e3, by simp only [Nd.size.sizes]; omega⟩
  | [], _ :: _, h, _, _ => by unfold NodesIn at h; exact h.elim
  | _ :: _, [], h, _, _ => by unfold NodesIn at h; exact h.elim

/-- The cells of the k-th node, where they lie. -/
theorem node_at {w : World} {B : Nat → Prop} {F : Bool} {ts : List Nd} {css : List (List Value)} {A : Option Addr} {n : Nat} (hr : Reads w B F 5 A n css.flatten) (ht : NodesIn w B F css ts) (k : Nat) (hk : k < n) :
    ∃ b o kd tx nm pl ka kn kc t, A = some ⟨b, o, none⟩ ∧ B b ∧ b < w.heap.size ∧ ts[k]? = some t ∧ t.size ≤ Nd.size.sizes ts ∧
      NodeIn w B F [.int .u8 kd, .string tx, .int .i64 nm, .int .i64 pl, .slice ka kn kc] t ∧
      w.cell? ⟨b, o + k * 5, none⟩ = some (.int .u8 kd) ∧ w.cell? ⟨b, o + k * 5 + 1, none⟩ = some (.string tx) ∧ w.cell? ⟨b, o + k * 5 + 2, none⟩ = some (.int .i64 nm) ∧ w.cell? ⟨b, o + k * 5 + 3, none⟩ = some (.int .i64 pl) ∧
      w.cell? ⟨b, o + k * 5 + 4, none⟩ = some (.slice ka kn kc) := by
  obtain ⟨hl, h11⟩ := ht.lens
  have hn : css.length = n := by have h1 := hr.1; rw [flat_len h11] at h1; omega
  obtain ⟨cs, t, e1, e2, e3, e4⟩ := NodesIn.get ht k (by omega)
  obtain ⟨⟨b, o, sp⟩, hA, hs, hB, hlt, hc⟩ := hr.2 (by omega)
  simp only at hs
  subst hs hA
  obtain ⟨kd, tx, nm, pl, ka, kn, kc, kids, dss, rfl, rfl, _⟩ := e3.opened
  obtain ⟨hkl, hke⟩ := List.getElem?_eq_some_iff.1 e1
  have g : ∀ j (_ : j < 5) u, css[k][j]? = some u → w.cell? ⟨b, o + k * 5 + j, none⟩ = some u := fun j hj u hu => by
    have := (hc (k * 5 + j) u (by rw [flat_get h11 k hkl j hj]; exact hu)).1
    rw [← Nat.add_assoc] at this; exact this
  rw [hke] at g
  exact ⟨b, o, kd, tx, nm, pl, ka, kn, kc, _, rfl, hB, hlt, e2, e4, e3, g 0 (by omega) _ rfl, g 1 (by omega) _ rfl, g 2 (by omega) _ rfl, g 3 (by omega) _ rfl, g 4 (by omega) _ rfl⟩
end Go.Proofs.YtincajfanhanjaaDoor
