/- Words on slices that were wanted later. -/
import Derived.Test.YtaiphjgklfioeaaTick
namespace Go.Proofs.Ytaiphjgklfioeaa
open Go.RowKit

theorem step_append_any {P : Program} (w : World) {ops : Array Oper} {o : Oper} {a : Act} {K : Act → World → Prop} {Q : Exit → Act → World → Prop} {E : Prop} (hgd : o.guard = none) (s x : Operand) (t : TypeId)
    (ho : o.op = .call { callee := .builtin .append, args := #[s, x], argTypes := #[t, t] })
    (e : TypeId) (i : TypeInfo) (z : Value) (size bytes : Nat) (ht : P.underlying t = some (.slice e)) (hi : P.info? e = some i) (hz : i.zero = some z)
    (hsize : i.size = size) (hby : i.bytes = bytes) (hzs : z.cells.size = size) (hsz : 0 < size)
    (A : Option Addr) (n c : Nat) (xs : List Value) (he : a.eval s = .slice A n c) (hs : Slab w e size A n c xs)
    (B : Nat → Prop) (F : Bool) (A2 : Option Addr) (m c2 : Nat) (news : List Value) (hx : a.eval x = .slice A2 m c2) (hr : Reads w B F size A2 m news) (h1 : ∀ u ∈ news, u.oneCell' = true)
    (h63 : n + m ≤ maxLen) (hbytes : (n + m) * bytes ≤ 140737488355328)
    (h : ∀ A' c' w', Slab w' e size A' (n + m) c' (xs ++ news) → Keeps (rowB A) w w' → Moved w A A' → K (a.put o.dst (.slice A' (n + m) c')) w') :
    if Region.wanted o (yielded ops a.tmps) = true then Oper.wp P o a w K Q else E := by
  have hw : Region.wanted o (yielded ops a.tmps) = true := by simp [Region.wanted, hgd]
  rw [if_pos hw]
  have hrun : ∃ A' c' w', (Builtin.append_ #[t, t] o.type #[.slice A n c, .slice A2 m c2]).run P w = .ok (.slice A' (n + m) c') w' ∧ Slab w' e size A' (n + m) c' (xs ++ news) ∧ Keeps (rowB A) w w' ∧ Moved w A A' := by
    rcases Nat.eq_zero_or_pos m with rfl | hm
    · obtain ⟨w', h0, h2, h3⟩ := run_append_room_slab (P := P) w t o.type e i size ht hi hsize A n c xs hs B F A2 0 c2 news hr h1 (by have := hs.2.1; omega)
      exact ⟨A, c, w', h0, h2, h3, Moved.same _ _⟩
    · exact run_append_slab (P := P) w t o.type e i z size bytes ht hi hz hsize hby hzs hsz A n c xs hs B F A2 m c2 news hr hm h1 h63 hbytes
  obtain ⟨A', c', w', h0, h2, h3, h4⟩ := hrun
  unfold Oper.wp execOp
  simp only [ho, resolve, invoke, builtin, Sem.run_bind, Sem.run_pure, Result.andThen_ok, List.map_toArray, List.map_cons, List.map_nil, he, hx, h0]
  exact h A' c' w' h2 h3 h4

theorem Slab.made (w : World) (e : TypeId) (size : Nat) : Slab (w.alloc (.cells #[] e)) e size (some ⟨w.heap.size, 0, none⟩) 0 0 [] :=
  ⟨by simp, Nat.le_refl _, Nat.zero_le _, .inr ⟨w.heap.size, 0, #[], rfl, Blk.new w e #[], by simp, by simp⟩⟩
end Go.Proofs.Ytaiphjgklfioeaa
