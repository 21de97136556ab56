/- Two monitors compared; links, while rows turn. -/
import Derived.Test.YtjmljjmnamfljaaGreatOnceLaw
import Derived.Test.YtjmljjmnamfljaaGreatApartInts
namespace Go.Proofs.YtjmljjmnamfljaaGreat
open Go.RowKit Go.Maps

theorem neq33 (x y : Mon) (w : World) : (binOp .neq 33 (monV x) (monV y)).run Tryz.prog w = .ok (.bool (!eqMb x y)) w := by
  rw [show monV x = .agg #[.int .i64 x.ref, .int .i64 x.who, .int .i64 x.whom] from rfl, show monV y = .agg #[.int .i64 y.ref, .int .i64 y.who, .int .i64 y.whom] from rfl, run_neq_struct]
  have := eqI36 x y w
  unfold monV at this
  rw [this]; rfl
theorem guardN33 (p q : Operand) (x y : Mon) (w : World) : (eqGuard .neq 33 p q (monV x) (monV y)).run Tryz.prog w = .ok () w := by kernel_rfl
theorem execN33 (o : Oper) (a : Act) (p q : Operand) (r : TypeId) (x y : Mon) (ho : o.op = .binOp .neq 33 p q r) (hx : a.eval p = monV x) (hy : a.eval q = monV y) (w : World) : (execOp a.eval o).run Tryz.prog w = .ok (.value (.bool (!eqMb x y))) w := by
  unfold execOp
  simp only [ho, hx, hy, Sem.run_bind, guardN33, Result.andThen_ok, neq33, Sem.run_pure]

theorem Run.cells {w wx wy : World} {b m1 m2 N : Nat} {L : LK} {M : List Mon} {fp : Nat → Prop} (h : Run w wx b m1 m2 N L M) (hk : Keeps fp wx wy) (hf : ∀ k, fp k → ∃ t cs, Blk wx k t cs ∧ t ≠ 53) (hl : ∀ k, fp k → w.heap.size ≤ k) : Run w wy b m1 m2 N L M :=
  ⟨h.at'.cells hk (fun k e => let ⟨t, cs, hb, _⟩ := hf k e; ⟨t, cs, hb⟩) (fun e => by obtain ⟨t, cs, hb, hne⟩ := hf b e; exact hne (Blk.one hb h.at'.blk).1), h.keep.trans' hk (fun _ _ => id) (fun k hk e => by have := hl k e; omega)⟩
/-- A row of monitors, from the i-th on as it was. -/
def MonRow (w : World) (A : Option Addr) (n c : Nat) (M : List Mon) (i : Nat) : Prop := ∃ ys, Slab w 33 3 A n c ys ∧ ∀ j, i * 3 ≤ j → j < n * 3 → ys[j]? = (mons M)[j]?
section
variable {w w' : World} {A : Option Addr} {n c i : Nat} {M : List Mon} {fp : Nat → Prop}
theorem MonRow.keep (h : MonRow w A n c M i) (hk : Keeps fp w w') (hf : ∀ k, rowB A k → ¬ fp k) : MonRow w' A n c M i := let ⟨ys, h1, h2⟩ := h; ⟨ys, h1.keep hk hf, h2⟩
theorem MonRow.at' (h : MonRow w A n c M i) (hi : i < n) {x : Mon} (hx : M[i]? = some x) : ∃ g o, A = some ⟨g, o, none⟩ ∧ (w.cell? ⟨g, o + i * 3, none⟩ = some (.int .i64 x.ref) ∧ w.cell? ⟨g, o + i * 3 + 1, none⟩ = some (.int .i64 x.who) ∧ w.cell? ⟨g, o + i * 3 + 2, none⟩ = some (.int .i64 x.whom)) ∧ w.frozen? ⟨g, o + i * 3, none⟩ = false ∧ w.frozen? ⟨g, o + i * 3 + 1, none⟩ = false := by
  obtain ⟨ys, h1, h2⟩ := h
  obtain ⟨⟨g, o, sp⟩, hA, hs, _, _, hc⟩ := h1.reads.2 (by omega)
  simp only at hs
  subst hs
  obtain ⟨m0, m1, m2⟩ := mons_at hx
  have p0 := hc (i * 3) _ ((h2 (i * 3) (Nat.le_refl _) (by omega)).trans m0)
  have p1 := hc (i * 3 + 1) _ ((h2 (i * 3 + 1) (by omega) (by omega)).trans m1)
  have p2 := hc (i * 3 + 2) _ ((h2 (i * 3 + 2) (by omega) (by omega)).trans m2)
  exact ⟨g, o, hA, ⟨p0.1, p1.1, p2.1⟩, p0.2 rfl, p1.2 rfl⟩
theorem MonRow.put {g o : Nat} (h : MonRow w (some ⟨g, o, none⟩) n c M i) (hi : i < n) (u v : Value) : MonRow ((w.setCell ⟨g, o + i * 3, none⟩ u).setCell ⟨g, o + i * 3 + 1, none⟩ v) (some ⟨g, o, none⟩) n c M (i + 1) := by
  obtain ⟨ys, h1, h2⟩ := h
  have h3 := (h1.put1 (j := i * 3) (by omega) u).put1 (j := i * 3 + 1) (by omega) v
  rw [show o + (i * 3 + 1) = o + i * 3 + 1 from by omega] at h3
  refine ⟨_, h3, fun j hj1 hj2 => ?_⟩
  rw [List.getElem?_set_ne (by omega), List.getElem?_set_ne (by omega)]
  exact h2 j (by omega) hj2
end
/-- What the two stores turn. -/
theorem two_keeps (w : World) (g p q : Nat) (u v : Value) : Keeps (fun k => k = g) w ((w.setCell ⟨g, p, none⟩ u).setCell ⟨g, q, none⟩ v) :=
  ((Keeps.refl (fun k => k = g) w).setCell (p := ⟨g, p, none⟩) (.inl rfl) u).setCell (p := ⟨g, q, none⟩) (.inl rfl) v
def twoL (X1 X2 : Option Addr) (n c1 c2 : Nat) (k : Nat) : Ld := if k = 0 then ⟨X1, n, c1⟩ else ⟨X2, n, c2⟩
theorem twoL_reads {w : World} {g n c1 c2 : Nat} {X1 X2 : Option Addr} (h : Blk w g 25 #[.slice X1 n c1, .slice X2 n c2]) : Reads w (fun _ => True) true 1 (some ⟨g, 0, none⟩) 2 (cellsL (twoL X1 X2 n c1 c2) 2) := by
  refine ⟨by simp [cellsL], fun _ => ⟨_, rfl, rfl, trivial, h.lt, fun j u hu => ⟨?_, fun _ => h.free _⟩⟩⟩
  rw [h.cell, ← hu]; simp [cellsL, twoL, List.range_succ]
theorem fp_two {X1 X2 : Option Addr} {n c1 c2 k : Nat} (h : fpL (twoL X1 X2 n c1 c2) 2 k) : rowB X1 k ∨ rowB X2 k := by
  obtain ⟨j, hj, h⟩ := h
  rcases (by omega : j = 0 ∨ j = 1) with rfl | rfl
  · exact .inl h
  · exact .inr h
end Go.Proofs.YtjmljjmnamfljaaGreat
