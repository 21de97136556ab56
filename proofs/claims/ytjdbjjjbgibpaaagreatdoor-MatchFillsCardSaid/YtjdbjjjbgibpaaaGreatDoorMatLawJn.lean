/- bif.Call. Printed by mkcallr.py. Cores as trees, and what cells read as them. What an argument of cores holds, cell by cell. match as a plain function on trees: what a pattern binds. -/
import Derived.Test.YtjdbjjjbgibpaaaGreatDoorRowJn
import Derived.Test.YtjdbjjjbgibpaaaGreatDoorTmSamesJn
import Derived.Test.YtjdbjjjbgibpaaaGreatDoorOrdLawJn
import Derived.Test.YtjdbjjjbgibpaaaGreatDoorBifSJn
namespace Go.Proofs.YtjdbjjjbgibpaaaGreatDoor
set_option maxRecDepth 100000
open Go.RowKit

end Go.Proofs.YtjdbjjjbgibpaaaGreatDoor
namespace Go.Proofs.YtjdbjjjbgibpaaaGreatDoor
open Go.RowKit

/-- A core as a tree. -/
inductive Co where
  | mk (kind : Int) (text : ByteArray) (num : Int) (term : Tm) (kids : List Co)

def Co.size : Co → Nat
  | .mk _ _ _ _ kids => 1 + sizes kids
where sizes : List Co → Nat
  | [] => 0
  | t :: ts => t.size + sizes ts + 1
def Co.kind : Co → Int | .mk k _ _ _ _ => k
def Co.num : Co → Int | .mk _ _ n _ _ => n
def Co.term : Co → Tm | .mk _ _ _ t _ => t
def Co.kids : Co → List Co | .mk _ _ _ _ l => l
theorem Co.size_pos (t : Co) : 0 < t.size := by cases t; simp only [Co.size]; omega

mutual
/-- Eleven cells read as a core. -/
def CoreIn (w : World) (B : Nat → Prop) (F : Bool) : List Value → Co → Prop
  | cs, .mk k text num t kids => ∃ tcs ka kn kc css,
      cs = .int .u8 k :: .string text :: .int .i64 num :: (tcs ++ [.slice ka kn kc]) ∧ TermIn w B F tcs t ∧ Roomy kn 160 ∧
      Reads w B F 11 ka kn css.flatten ∧ CoresIn w B F css kids
def CoresIn (w : World) (B : Nat → Prop) (F : Bool) : List (List Value) → List Co → Prop
  | [], [] => True
  | cs :: css, t :: ts => CoreIn w B F cs t ∧ CoresIn w B F css ts
  | [], _ :: _ => False
  | _ :: _, [] => False
end

mutual
theorem CoreIn.keep {w w' : World} {B : Nat → Prop} {F : Bool} {fp : Nat → Prop} (hk : Keeps fp w w') (hf : ∀ k, B k → ¬ fp k) : ∀ (t : Co) (cs : List Value), CoreIn w B F cs t → CoreIn w' B F cs t
  | .mk k text num t kids, cs, h => by
    unfold CoreIn at h ⊢
    obtain ⟨tcs, ka, kn, kc, css, e, h1, hb, h2, h3⟩ := h
    exact ⟨tcs, ka, kn, kc, css, e, TermIn.keep hk hf _ _ h1, hb, h2.keep hk hf, CoresIn.keep hk hf kids css h3⟩
theorem CoresIn.keep {w w' : World} {B : Nat → Prop} {F : Bool} {fp : Nat → Prop} (hk : Keeps fp w w') (hf : ∀ k, B k → ¬ fp k) : ∀ (ts : List Co) (css : List (List Value)), CoresIn w B F css ts → CoresIn w' B F css ts
  | [], [], _ => by unfold CoresIn; trivial
  | t :: ts, cs :: css, h => by
    unfold CoresIn at h ⊢
    exact ⟨CoreIn.keep hk hf t cs h.1, CoresIn.keep hk hf ts css h.2⟩
  | [], _ :: _, h => by unfold CoresIn at h; exact h.elim
  | _ :: _, [], h => by unfold CoresIn at h; exact h.elim
end

mutual
theorem CoreIn.more {w : World} {B B' : Nat → Prop} {F : Bool} (hB : ∀ k, k < w.heap.size → B k → B' k) : ∀ (t : Co) (cs : List Value), CoreIn w B F cs t → CoreIn w B' F cs t
  | .mk k text num t kids, cs, h => by
    unfold CoreIn at h ⊢
    obtain ⟨tcs, ka, kn, kc, css, e, h1, hb, h2, h3⟩ := h
    exact ⟨tcs, ka, kn, kc, css, e, TermIn.more hB _ _ h1, hb, h2.more hB, CoresIn.more hB kids css h3⟩
theorem CoresIn.more {w : World} {B B' : Nat → Prop} {F : Bool} (hB : ∀ k, k < w.heap.size → B k → B' k) : ∀ (ts : List Co) (css : List (List Value)), CoresIn w B F css ts → CoresIn w B' F css ts
  | [], [], _ => by unfold CoresIn; trivial
  | t :: ts, cs :: css, h => by
    unfold CoresIn at h ⊢
    exact ⟨CoreIn.more hB t cs h.1, CoresIn.more hB ts css h.2⟩
  | [], _ :: _, h => by unfold CoresIn at h; exact h.elim
  | _ :: _, [], h => by unfold CoresIn at h; exact h.elim
end

mutual
theorem CoreIn.weak {w : World} {B : Nat → Prop} {F : Bool} : ∀ (t : Co) (cs : List Value), CoreIn w B F cs t → CoreIn w B false cs t
  | .mk k text num t kids, cs, h => by
    unfold CoreIn at h ⊢
    obtain ⟨tcs, ka, kn, kc, css, e, h1, hb, h2, h3⟩ := h
    exact ⟨tcs, ka, kn, kc, css, e, TermIn.weak _ _ h1, hb, h2.weak, CoresIn.weak kids css h3⟩
theorem CoresIn.weak {w : World} {B : Nat → Prop} {F : Bool} : ∀ (ts : List Co) (css : List (List Value)), CoresIn w B F css ts → CoresIn w B false css ts
  | [], [], _ => by unfold CoresIn; trivial
  | t :: ts, cs :: css, h => by
    unfold CoresIn at h ⊢
    exact ⟨CoreIn.weak t cs h.1, CoresIn.weak ts css h.2⟩
  | [], _ :: _, h => by unfold CoresIn at h; exact h.elim
  | _ :: _, [], h => by unfold CoresIn at h; exact h.elim
end

theorem CoreIn.len {w : World} {B : Nat → Prop} {F : Bool} {t : Co} {cs : List Value} (h : CoreIn w B F cs t) : cs.length = 11 := by
  cases t
  unfold CoreIn at h
  obtain ⟨tcs, ka, kn, kc, css, rfl, h1, _⟩ := h
  simp [h1.len]

theorem CoresIn.lens {w : World} {B : Nat → Prop} {F : Bool} : ∀ {ts : List Co} {css : List (List Value)}, CoresIn w B F css ts → css.length = ts.length ∧ ∀ c ∈ css, c.length = 11
  | [], [], _ => ⟨rfl, fun _ h => by cases h⟩
  | t :: ts, cs :: css, h => by
    unfold CoresIn at h
    obtain ⟨h1, h2⟩ := CoresIn.lens h.2
    refine ⟨by simp [h1], fun c hc => ?_⟩
    rcases List.mem_cons.1 hc with rfl | hc
    · exact h.1.len
    · exact h2 c hc
  | [], _ :: _, h => by unfold CoresIn at h; exact h.elim
  | _ :: _, [], h => by unfold CoresIn at h; exact h.elim

theorem CoresIn.append {w : World} {B : Nat → Prop} {F : Bool} : ∀ {ts us : List Co} {css dss : List (List Value)}, CoresIn w B F css ts → CoresIn w B F dss us → CoresIn w B F (css ++ dss) (ts ++ us)
  | [], us, [], dss, _, k => k
  | t :: ts, us, cs :: css, dss, h, k => by
    unfold CoresIn at h
    rw [List.cons_append, List.cons_append]
    unfold CoresIn
    exact ⟨h.1, CoresIn.append h.2 k⟩
  | [], _, _ :: _, _, h, _ => by unfold CoresIn at h; exact h.elim
  | _ :: _, _, [], _, h, _ => by unfold CoresIn at h; exact h.elim
theorem CoresIn.one {w : World} {B : Nat → Prop} {F : Bool} {t : Co} {cs : List Value} (h : CoreIn w B F cs t) : CoresIn w B F [cs] [t] := by
  unfold CoresIn
  exact ⟨h, by unfold CoresIn; trivial⟩

/-- A core's eleven cells, written out; its term, its kids. -/
theorem CoreIn.opened {w : World} {B : Nat → Prop} {F : Bool} {t : Co} {cs : List Value} (h : CoreIn w B F cs t) :
    ∃ kd tx nm tk ng la ln lc tt tn ia im ic ta tm tc ka kn kc tr kids css, t = .mk kd tx nm tr kids ∧
      cs = [.int .u8 kd, .string tx, .int .i64 nm, .int .u8 tk, .bool ng, .slice la ln lc, .string tt, .int .i64 tn, .slice ia im ic, .slice ta tm tc, .slice ka kn kc] ∧
      TermIn w B F [.int .u8 tk, .bool ng, .slice la ln lc, .string tt, .int .i64 tn, .slice ia im ic, .slice ta tm tc] tr ∧ Roomy kn 160 ∧ Reads w B F 11 ka kn (List.flatten css) ∧ CoresIn w B F css kids ∧ List.length kids = kn := by
  cases t with
  | mk k text num t kids =>
    unfold CoreIn at h
    obtain ⟨tcs, ka, kn, kc, css, rfl, h1, hb, h2, h3⟩ := h
    obtain ⟨tk, ng, la, ln, lc, tt, tn, ia, im, ic, ta, tm, tc, rfl, _⟩ := h1.cells
    have hl : kids.length = kn := by have h5 := h2.1; rw [flat_len h3.lens.2, h3.lens.1] at h5; omega
    exact ⟨k, text, num, tk, ng, la, ln, lc, tt, tn, ia, im, ic, ta, tm, tc, ka, kn, kc, t, kids, css, rfl, rfl, h1, hb, h2, h3, hl⟩

theorem CoresIn.get {w : World} {B : Nat → Prop} {F : Bool} : ∀ {ts : List Co} {css : List (List Value)}, CoresIn w B F css ts → ∀ k, k < ts.length → ∃ cs t, css[k]? = some cs ∧ ts[k]? = some t ∧ CoreIn w B F cs t ∧ t.size ≤ Co.size.sizes ts
  | [], [], _, k, h1 => by simp at h1
  | t :: ts, cs :: css, h, k, h1 => by
    unfold CoresIn at h
    cases k with
    | zero => exact ⟨cs, t, rfl, rfl, h.1, by simp only [Co.size.sizes]; omega⟩
    | succ k =>
      obtain ⟨cs', t', e1, e2, e3, e4⟩ := CoresIn.get h.2 k (by simpa using h1)
      exact ⟨cs', t', e1, e2, e3, by simp only [Co.size.sizes]; omega⟩
  | [], _ :: _, h, _, _ => by unfold CoresIn at h; exact h.elim
  | _ :: _, [], h, _, _ => by unfold CoresIn at h; exact h.elim

/-- The cells of the k-th core, where they lie. -/
theorem core_at {w : World} {B : Nat → Prop} {F : Bool} {ts : List Co} {css : List (List Value)} {A : Option Addr} {n : Nat} (hr : Reads w B F 11 A n css.flatten) (ht : CoresIn w B F css ts) (k : Nat) (hk : k < n) :
    ∃ b o kd tx nm tk ng la ln lc tt tn ia im ic ta tm tc ka kn kc t, A = some ⟨b, o, none⟩ ∧ ts[k]? = some t ∧ t.size ≤ Co.size.sizes ts ∧
      CoreIn w B F [.int .u8 kd, .string tx, .int .i64 nm, .int .u8 tk, .bool ng, .slice la ln lc, .string tt, .int .i64 tn, .slice ia im ic, .slice ta tm tc, .slice ka kn kc] t ∧
      w.cell? ⟨b, o + k * 11, none⟩ = some (.int .u8 kd) ∧ w.cell? ⟨b, o + k * 11 + 1, none⟩ = some (.string tx) ∧ w.cell? ⟨b, o + k * 11 + 2, none⟩ = some (.int .i64 nm) ∧ w.cell? ⟨b, o + k * 11 + 3, none⟩ = some (.int .u8 tk) ∧
      w.cell? ⟨b, o + k * 11 + 4, none⟩ = some (.bool ng) ∧ w.cell? ⟨b, o + k * 11 + 5, none⟩ = some (.slice la ln lc) ∧ w.cell? ⟨b, o + k * 11 + 6, none⟩ = some (.string tt) ∧ w.cell? ⟨b, o + k * 11 + 7, none⟩ = some (.int .i64 tn) ∧
      w.cell? ⟨b, o + k * 11 + 8, none⟩ = some (.slice ia im ic) ∧ w.cell? ⟨b, o + k * 11 + 9, none⟩ = some (.slice ta tm tc) ∧ w.cell? ⟨b, o + k * 11 + 10, none⟩ = some (.slice ka kn kc) := by
  obtain ⟨hl, h11⟩ := ht.lens
  have hn : css.length = n := by have h1 := hr.1; rw [flat_len h11] at h1; omega
  obtain ⟨cs, t, e1, e2, e3, e4⟩ := CoresIn.get ht k (by omega)
  obtain ⟨⟨b, o, sp⟩, hA, hs, _, _, hc⟩ := hr.2 (by omega)
  simp only at hs
  subst hs hA
  obtain ⟨kd, tx, nm, tk, ng, la, ln, lc, tt, tn, ia, im, ic, ta, tm, tc, ka, kn, kc, tr, kids, dss, rfl, rfl, _⟩ := e3.opened
  obtain ⟨hkl, hke⟩ := List.getElem?_eq_some_iff.1 e1
  have g : ∀ j (_ : j < 11) u, css[k][j]? = some u → w.cell? ⟨b, o + k * 11 + j, none⟩ = some u := fun j hj u hu => by
    have := (hc (k * 11 + j) u (by rw [flat_get h11 k hkl j hj]; exact hu)).1
    rw [← Nat.add_assoc] at this; exact this
  rw [hke] at g
  exact ⟨b, o, kd, tx, nm, tk, ng, la, ln, lc, tt, tn, ia, im, ic, ta, tm, tc, ka, kn, kc, _, rfl, e2, e4, e3, g 0 (by omega) _ rfl, g 1 (by omega) _ rfl, g 2 (by omega) _ rfl, g 3 (by omega) _ rfl, g 4 (by omega) _ rfl, g 5 (by omega) _ rfl, g 6 (by omega) _ rfl, g 7 (by omega) _ rfl, g 8 (by omega) _ rfl, g 9 (by omega) _ rfl, g 10 (by omega) _ rfl⟩
end Go.Proofs.YtjdbjjjbgibpaaaGreatDoor
namespace Go.Proofs.YtjdbjjjbgibpaaaGreatDoor
open Go.ChangeShapes Go.WideShapes Go.ChangeAt Go.RowKit Go.Deep

mutual
/-- What every core that comes in holds to. -/
def okC : Co → Prop
  | .mk k text num t kids => (0 ≤ k ∧ k ≤ 255) ∧ text.size ≤ 140737488355328 ∧ (-9223372036854775808 ≤ num ∧ num ≤ 9223372036854775807) ∧ okT t ∧ okCs kids
def okCs : List Co → Prop
  | [] => True
  | t :: ts => okC t ∧ okCs ts
end
theorem okCs_mem : ∀ {ts : List Co}, okCs ts → ∀ t ∈ ts, okC t
  | [], _, _, h => by cases h
  | a :: ts, h, t, hm => by
    unfold okCs at h
    rcases List.mem_cons.1 hm with rfl | hm
    · exact h.1
    · exact okCs_mem h.2 t hm
section
variable {H : Type} {enc : TypeId × Value → H} {w : World} {base : Nat} {spare : Nat → Bool} {held : Bool}

def CoOpenSaid (enc : TypeId × Value → H) (w : World) (base : Nat) (spare : Nat → Bool) (held : Bool) (fuel : Nat) : Prop := ∀ (cs : List Value) (x : DataW H × List MemPlace), DataW.trod enc Tryz.prog w base spare held fuel 34 cs = some x → (∀ m ∈ x.1.weights Tryz.prog 34, m ≤ reachBytes) →
  ∃ t, CoreIn w (fun k => k < w.heap.size) false cs t ∧ okC t

end
end Go.Proofs.YtjdbjjjbgibpaaaGreatDoor
namespace Go.Proofs.YtjdbjjjbgibpaaaGreatDoor

def Co.text : Co → ByteArray | .mk _ s _ _ _ => s
/-- Variables: which have a value, and it. -/
structure VSt where
  has : List Bool
  vals : List Tm
/-- term.Split -/
def splitT (t : Tm) : Option (Tm × Tm) :=
  if rightT t = true ∧ t.kind = 7 then
    match t.items with
    | [] => none
    | x :: [] => some (x, restT t.tail)
    | x :: y :: l => some (x, .mk 7 false [] ByteArray.empty 0 (y :: l) t.tail)
  else none
/-- A variable's value, if it has one. -/
def VSt.get (v : VSt) (n : Int) : Option Tm := if 0 ≤ n ∧ n < v.has.length ∧ v.has[n.toNat]? = some true then v.vals[n.toNat]? else none
def VSt.bind (v : VSt) (n : Int) (t : Tm) : VSt := ⟨v.has.set n.toNat true, v.vals.set n.toNat t⟩
mutual
/-- Does a pattern match; what it binds. -/
def matchN : Co → Tm → VSt → Option VSt
  | .mk k _ num term kids, t, v =>
    if k = 20 then some v
    else if k = 21 then (if num < 0 ∨ (v.has.length : Int) ≤ num then none else some (v.bind num t))
    else if k = 22 then (match v.get num with | some u => if sameT u t then some v else none | none => none)
    else if k = 23 then (if sameT term t then some v else none)
    else if k = 24 then (if t.kind = 6 then rowsN kids t.items v else none)
    else if k = 25 then (match splitT t with | some (h, r) => rowsN kids [h, r] v | none => none)
    else if k = 26 then rowsN kids [t, t] v
    else none
def rowsN : List Co → List Tm → VSt → Option VSt
  | [], [], v => some v
  | k :: ks, t :: ts, v => if ks.length = ts.length then (match matchN k t v with | some v' => rowsN ks ts v' | none => none) else none
  | [], _ :: _, _ => none
  | _ :: _, [], _ => none
end
/-- Well made: as many values as truths. -/
def VSt.made (v : VSt) : Prop := v.has.length = v.vals.length
mutual
theorem matchN_len : ∀ (p : Co) (t : Tm) (v v' : VSt), matchN p t v = some v' → v'.has.length = v.has.length ∧ v'.vals.length = v.vals.length
  | .mk k _ num term kids, t, v, v', h => by
    unfold matchN at h
    split at h
    · injection h with h; subst h; exact ⟨rfl, rfl⟩
    · split at h
      · split at h
        · cases h
        · injection h with h; subst h
          exact ⟨by simp [VSt.bind], by simp [VSt.bind]⟩
      · split at h
        · split at h
          · split at h
            · injection h with h; subst h; exact ⟨rfl, rfl⟩
            · cases h
          · cases h
        · split at h
          · split at h
            · injection h with h; subst h; exact ⟨rfl, rfl⟩
            · cases h
          · split at h
            · split at h
              · exact rowsN_len _ _ _ _ h
              · cases h
            · split at h
              · split at h
                · exact rowsN_len _ _ _ _ h
                · cases h
              · split at h
                · exact rowsN_len _ _ _ _ h
                · cases h
theorem rowsN_len : ∀ (ks : List Co) (ts : List Tm) (v v' : VSt), rowsN ks ts v = some v' → v'.has.length = v.has.length ∧ v'.vals.length = v.vals.length
  | [], [], v, v', h => by unfold rowsN at h; injection h with h; subst h; exact ⟨rfl, rfl⟩
  | k :: ks, t :: ts, v, v', h => by
    unfold rowsN at h
    split at h
    · split at h
      · rename_i v1 h1
        have e1 := matchN_len k t v v1 h1
        have e2 := rowsN_len ks ts v1 v' h
        exact ⟨e2.1.trans e1.1, e2.2.trans e1.2⟩
      · cases h
    · cases h
  | [], _ :: _, _, _, h => by unfold rowsN at h; cases h
  | _ :: _, [], _, _, h => by unfold rowsN at h; cases h
end
/-- match.Match -/
def matchF (p : Co) (t : Tm) (v : VSt) : Option VSt := if rightT t = true ∧ v.has.length = v.vals.length then matchN p t v else none
def noV : VSt := ⟨[], []⟩
def newV (n : Nat) : VSt := ⟨List.replicate n false, List.replicate n (.mk 0 false [] ByteArray.empty 0 [] [])⟩
/-- What a Match tells, whether or not it matches. -/
def matchR (p : Co) (t : Tm) (v : VSt) : VSt := (matchF p t v).getD noV
theorem two_rows (p q : Co) (t u : Tm) (v : VSt) : rowsN [p, q] [t, u] v = (matchN p t v).bind (matchN q u) := by
  unfold rowsN
  rw [if_pos (show [q].length = [u].length from rfl)]
  cases h : matchN p t v with
  | none => rfl
  | some v1 =>
    show rowsN [q] [u] v1 = matchN q u v1
    unfold rowsN
    rw [if_pos (show ([] : List Co).length = ([] : List Tm).length from rfl)]
    cases h2 : matchN q u v1 with
    | none => rfl
    | some v2 => show rowsN [] [] v2 = _; unfold rowsN; rfl
end Go.Proofs.YtjdbjjjbgibpaaaGreatDoor
