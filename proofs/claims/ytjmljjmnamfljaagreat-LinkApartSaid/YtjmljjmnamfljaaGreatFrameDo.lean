/- Words that each row of the chapter wants: steps that came in. -/
import Derived.Test.YtjmljjmnamfljaaGreatFrame
import Derived.Test.YtjmljjmnamfljaaGreatDos
namespace Go.Proofs.YtjmljjmnamfljaaGreat
set_option maxRecDepth 100000
open Go.ChangeShapes Go.WideShapes Go.ChangeAt Go.RowKit Go.Deep

theorem Tryz.cells44 : Tryz.prog.cellsOf 44 = 4 := by kernel_rfl

theorem list_of {α : Type} {P : Nat → α → Prop} : ∀ n, (∀ i, i < n → ∃ x, P i x) → ∃ D : List α, D.length = n ∧ ∀ i x, D[i]? = some x → P i x
  | 0, _ => ⟨[], rfl, fun i x h => by simp at h⟩
  | n + 1, h => by
    obtain ⟨D, h1, h2⟩ := list_of n (fun i hi => h i (by omega))
    obtain ⟨y, hy⟩ := h n (by omega)
    refine ⟨D ++ [y], by simp [h1], fun i x hx => ?_⟩
    by_cases hi : i < n
    · rw [List.getElem?_append_left (by omega)] at hx; exact h2 i x hx
    · rw [List.getElem?_append_right (by omega)] at hx
      have : i - D.length = 0 := by
        have := (List.getElem?_eq_some_iff.1 hx).1
        simp at this; omega
      rw [this] at hx
      simp only [List.getElem?_cons_zero, Option.some.injEq] at hx
      obtain rfl : i = n := by omega
      exact hx ▸ hy

/-- Cells that lie one behind the other. -/
theorem cells_of {w : World} {base : Nat} {a : Addr} {n : Nat} {cs : List Value} (h : w.cells? base a n = some cs) (hn : 0 < n) : a.spot = none ∧ cs.length = n ∧ ∀ j, j < n → w.cell? ⟨a.block, a.off + j, none⟩ = cs[j]? := by
  obtain ⟨_, hl, hc⟩ := World.cells?_some h
  have h0 := hc 0 hn
  rw [List.getElem?_eq_getElem (by omega)] at h0
  have hs : a.spot = none := by simpa [Addr.add] using World.cell?_spot h0
  refine ⟨hs, hl, fun j hj => ?_⟩
  rw [← hc j hj, Addr.add_eq _ _ hs]

theorem get_of_take {cs : List Value} {k : Nat} {v : Value} (h : List.take 1 (List.drop k cs) = [v]) : cs[k]? = some v := by
  have e : (List.take 1 (List.drop k cs))[0]? = [v][0]? := congrArg (·[0]?) h
  rw [List.getElem?_take_of_lt Nat.zero_lt_one, List.getElem?_drop] at e
  simpa using e

set_option maxRecDepth 100000 in
theorem open_dos {H : Type} {enc : TypeId × Value → H} {w : World} {base : Nat} {spare : Nat → Bool} {held : Bool} {A : Option Addr} {n c fuel : Nat} {x : DataW H × List MemPlace} (h : DataW.trod enc Tryz.prog w base spare held fuel 22 [.slice A n c] = some x) : (∃ D, DosAt w A n D) ∧ n ≤ c := by
  rcases open_slice Tryz.underlying22 h with ⟨e, _⟩ | ⟨a, len, cap, m, k, D, Pl, e, _, hl, hcap, hm, _, hi⟩
  · simp only [List.cons.injEq, Value.slice.injEq, and_true] at e
    obtain ⟨rfl, rfl, rfl⟩ := e
    exact ⟨⟨[], rfl, fun i x h => by simp at h⟩, Nat.le_refl _⟩
  · simp only [List.cons.injEq, Value.slice.injEq, and_true] at e
    obtain ⟨rfl, rfl, rfl⟩ := e
    clear hcap
    refine ⟨list_of n (fun i hin => ?_), hl⟩
    obtain ⟨cs', hc, ht⟩ := hi i (by rw [hm]; split <;> omega)
    rw [Tryz.cells44] at hc
    obtain ⟨hs, h3, hat⟩ := cells_of hc (by omega)
    obtain ⟨xs, k', _, _, _, hlen, hf⟩ := DataW.trod_struct Tryz.underlying44 ht
    have h0 := hf 0 _ rfl
    have h1 := hf 1 _ rfl
    have h2 := hf 2 _ rfl
    have h3 := hf 3 _ rfl
    have hx0 : 0 < xs.length := by rw [hlen]; decide
    have hx1 : 1 < xs.length := by rw [hlen]; decide
    have hx2 : 2 < xs.length := by rw [hlen]; decide
    have hx3 : 3 < xs.length := by rw [hlen]; decide
    rw [List.getElem?_eq_getElem hx0] at h0
    rw [List.getElem?_eq_getElem hx1] at h1
    rw [List.getElem?_eq_getElem hx2] at h2
    rw [List.getElem?_eq_getElem hx3] at h3
    obtain ⟨v0, hv0, _, w0⟩ := DataW.trod_int Tryz.underlying3 h0
    obtain ⟨v1, hv1, _, w1⟩ := DataW.trod_int Tryz.underlying3 h1
    obtain ⟨v2, hv2, _, w2⟩ := DataW.trod_int Tryz.underlying3 h2
    obtain ⟨v3, hv3, _, w3⟩ := DataW.trod_int Tryz.underlying3 h3
    have hsp : a.spot = none := by
      obtain ⟨cs0, hc0, _⟩ := hi 0 (by rw [hm]; split <;> omega)
      rw [Tryz.cells44] at hc0
      have := (cells_of hc0 (by omega)).1
      simpa [Addr.add] using this
    obtain ⟨b, o, sp⟩ := a
    simp only at hsp
    subst hsp
    have g0 := hat 0 (by omega)
    have g1 := hat 1 (by omega)
    have g2 := hat 2 (by omega)
    have g3 := hat 3 (by omega)
    rw [get_of_take (k := 0) hv0, Addr.add_eq _ _ rfl] at g0
    rw [get_of_take (k := 1) hv1, Addr.add_eq _ _ rfl] at g1
    rw [get_of_take (k := 2) hv2, Addr.add_eq _ _ rfl] at g2
    rw [get_of_take (k := 3) hv3, Addr.add_eq _ _ rfl] at g3
    exact ⟨⟨v0, v1, v2, v3⟩, ⟨w1, w2, w3⟩, b, o, rfl, g0, g1, g2, g3⟩
end Go.Proofs.YtjmljjmnamfljaaGreat
