/- Words on slices that were wanted later. -/
import Derived.Test.YtincajfanhanjaaDoorSlab
import Derived.Test.YtincajfanhanjaaDoorSeq
namespace Go.Proofs.YtincajfanhanjaaDoor
open Go.RowKit

theorem Slab.put1 {w : World} {e : TypeId} {size n c g o j : Nat} {xs : List Value} (h : Slab w e size (some ⟨g, o, none⟩) n c xs) (hj : j < n * size) (v : Value) : Slab (w.setCell ⟨g, o + j, none⟩ v) e size (some ⟨g, o, none⟩) n c (xs.set j v) := by
  obtain ⟨hl, hn, hm, ⟨h0, _⟩ | ⟨g', o', cur, h0, hb, hs, hw⟩⟩ := h
  · cases h0
  · injection h0 with h0; injection h0 with h0 h1; subst h0; subst h1
    refine Slab.mk' (by simpa using hl) hn hm (hb.put (o + j) v) (by simpa using hs) (fun i hi => ?_)
    rw [Array.getElem?_setIfInBounds]
    by_cases e : j = i
    · subst e
      have hle := Nat.mul_le_mul_right size hn
      rw [if_pos (by omega), if_pos (by omega), List.getElem?_set_self (by omega)]
    · rw [if_neg (by omega), List.getElem?_set_ne e]
      exact window_get hw hi

theorem Slab.put7 {w : World} {g o c n m : Nat} {front : List Value} {z0 z1 z2 z3 z4 z5 z6 : Value} (h : Slab w 33 7 (some ⟨g, o, none⟩) m c (front ++ [z0, z1, z2, z3, z4, z5, z6])) (hf : front.length = n * 7) (hm : m = n + 1) (v0 v1 v2 v3 v4 v5 v6 : Value) :
    Slab (((((((w.setCell ⟨g, o + n * 7, none⟩ v0).setCell ⟨g, o + n * 7 + 1, none⟩ v1).setCell ⟨g, o + n * 7 + 2, none⟩ v2).setCell ⟨g, o + n * 7 + 3, none⟩ v3).setCell ⟨g, o + n * 7 + 4, none⟩ v4).setCell ⟨g, o + n * 7 + 5, none⟩ v5).setCell ⟨g, o + n * 7 + 6, none⟩ v6) 33 7 (some ⟨g, o, none⟩) m c (front ++ [v0, v1, v2, v3, v4, v5, v6]) := by
  have h7 := Slab.put1 (j := n * 7 + 6) (Slab.put1 (j := n * 7 + 5) (Slab.put1 (j := n * 7 + 4) (Slab.put1 (j := n * 7 + 3) (Slab.put1 (j := n * 7 + 2) (Slab.put1 (j := n * 7 + 1) (Slab.put1 (j := n * 7) h (by omega) v0) (by omega) v1) (by omega) v2) (by omega) v3) (by omega) v4) (by omega) v5) (by omega) v6
  have e : (((((((front ++ [z0, z1, z2, z3, z4, z5, z6]).set (n * 7) v0).set (n * 7 + 1) v1).set (n * 7 + 2) v2).set (n * 7 + 3) v3).set (n * 7 + 4) v4).set (n * 7 + 5) v5).set (n * 7 + 6) v6 = front ++ [v0, v1, v2, v3, v4, v5, v6] := by
    simp [← hf]
  rw [e] at h7
  exact h7

theorem step_append_any {P : Program} (w : World) {ops : Array Oper} {o : Oper} {a : Act} {K : Act → World → Prop} {Q : Exit → Act → World → Prop} {E : Prop} (hgd : o.guard = none) (s x : Operand) (t : TypeId)
    (ho : o.op = .call { callee := .builtin .append, args := #[s, x], argTypes := #[t, t] })
    (e : TypeId) (i : TypeInfo) (z : Value) (size bytes : Nat) (ht : P.underlying t = some (.slice e)) (hi : P.info? e = some i) (hz : i.zero = some z)
    (hsize : i.size = size) (hby : i.bytes = bytes) (hzs : z.cells.size = size) (hsz : 0 < size)
    (A : Option Addr) (n c : Nat) (xs : List Value) (he : a.eval s = .slice A n c) (hs : Slab w e size A n c xs)
    (B : Nat → Prop) (F : Bool) (A2 : Option Addr) (m c2 : Nat) (news : List Value) (hx : a.eval x = .slice A2 m c2) (hr : Reads w B F size A2 m news) (h1 : ∀ u ∈ news, u.oneCell' = true)
    (h63 : n + m ≤ maxLen) (hbytes : (n + m) * bytes ≤ 140737488355328)
    (h : ∀ A' c' w', Slab w' e size A' (n + m) c' (xs ++ news) → Keeps (rowB A) w w' → Moved w A A' → K (a.put o.dst (.slice A' (n + m) c')) w') :
    if Region.wanted o (yielded ops a.tmps) = true then Oper.wp P o a w K Q else E := by
  have hw : Region.wanted o (yielded ops a.tmps) = true := by simp [Region.wanted, hgd]
  rw [if_pos hw]
  have hrun : ∃ A' c' w', (Builtin.append_ #[t, t] o.type #[.slice A n c, .slice A2 m c2]).run P w = .ok (.slice A' (n + m) c') w' ∧ Slab w' e size A' (n + m) c' (xs ++ news) ∧ Keeps (rowB A) w w' ∧ Moved w A A' := by
    rcases Nat.eq_zero_or_pos m with rfl | hm
    · obtain ⟨w', h0, h2, h3⟩ := run_append_room_slab (P := P) w t o.type e i size ht hi hsize A n c xs hs B F A2 0 c2 news hr h1 (by have := hs.2.1; omega)
      exact ⟨A, c, w', h0, h2, h3, Moved.same _ _⟩
    · exact run_append_slab (P := P) w t o.type e i z size bytes ht hi hz hsize hby hzs hsz A n c xs hs B F A2 m c2 news hr hm h1 h63 hbytes
  obtain ⟨A', c', w', h0, h2, h3, h4⟩ := hrun
  unfold Oper.wp execOp
  simp only [ho, resolve, invoke, builtin, Sem.run_bind, Sem.run_pure, Result.andThen_ok, List.map_toArray, List.map_cons, List.map_nil, he, hx, h0]
  exact h A' c' w' h2 h3 h4

theorem Slab.made (w : World) (e : TypeId) (size : Nat) : Slab (w.alloc (.cells #[] e)) e size (some ⟨w.heap.size, 0, none⟩) 0 0 [] :=
  ⟨by simp, Nat.le_refl _, Nat.zero_le _, .inr ⟨w.heap.size, 0, #[], rfl, Blk.new w e #[], by simp, by simp⟩⟩
section
variable {P : Program} {ops : Array Oper} {Q : Exit → Act → World → Prop} {S T : World → Prop} {need : Nat → Bool}
theorem wpAnyN_more : ∀ (fuel : Nat) (listed : Array Bool) (a : Act) (w : World), S w → T w → wpAnyN P ops Q (fun W => S W ∧ T W) (fun _ => true) fuel listed a w → wpAnyN P ops Q S need fuel listed a w
  | 0, _, _, _, _, _, h => h
  | fuel + 1, _, _, _, hS, hT, h => ⟨h.1, fun i hi => wpOp_mono (fun a' w' h' => by
      have h2 := h'.1 rfl ⟨hS, hT⟩
      exact ⟨fun _ _ => h2.1, wpAnyN_more fuel _ a' w' h2.1 h2.2 h'.2⟩) (h.2 i hi)⟩
/-- A condition more, from here on. -/
theorem order_more {fuel : Nat} {done : List Nat} {a : Act} {w : World} (T : World → Prop) (hS : S w) (hT : T w) (h : Order P ops Q (fun W => S W ∧ T W) (fun _ => true) fuel done a w) : Order P ops Q S need fuel done a w :=
  fun listed hag => wpAnyN_more fuel listed a w hS hT (h listed hag)
end
end Go.Proofs.YtincajfanhanjaaDoor
