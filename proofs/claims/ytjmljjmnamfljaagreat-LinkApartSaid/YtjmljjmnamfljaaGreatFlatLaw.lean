/- Lists that lie apart, marked: plain lemmas for pigeonholekit's flatInts. -/
import Derived.Test.YtjmljjmnamfljaaGreatMore
import Derived.OwnWalk
namespace Go.Proofs.YtjmljjmnamfljaaGreat
open Go.RowKit

/-- Grown where it lay, or in a new block. -/
def Grew (w w' : World) (A : Option Addr) (c : Nat) (A' : Option Addr) (c' : Nat) : Prop := (A' = A ∧ c' = c ∧ Keeps (rowB A) w w') ∨ ((∀ k, rowB A' k → w.heap.size ≤ k) ∧ Keeps NoB w w')

section
variable {P : Program} (w : World)
theorem run_append_grew (t ty e : TypeId) (i : TypeInfo) (z : Value) (size bytes : Nat) (ht : P.underlying t = some (.slice e)) (hi : P.info? e = some i) (hz : i.zero = some z)
    (hsize : i.size = size) (hby : i.bytes = bytes) (hzs : z.cells.size = size) (hsz : 0 < size)
    (A : Option Addr) (n c : Nat) (xs : List Value) (hs : Slab w e size A n c xs)
    (B : Nat → Prop) (F : Bool) (A2 : Option Addr) (m c2 : Nat) (news : List Value) (hr : Reads w B F size A2 m news) (hm0 : 0 < m) (h1 : ∀ u ∈ news, u.oneCell' = true)
    (h63 : n + m ≤ maxLen) (hbytes : (n + m) * bytes ≤ 140737488355328) :
    ∃ A' c' w', (Builtin.append_ #[t, t] ty #[.slice A n c, .slice A2 m c2]).run P w = .ok (.slice A' (n + m) c') w' ∧ Slab w' e size A' (n + m) c' (xs ++ news) ∧ Grew w w' A c A' c' := by
  by_cases hroom : n + m ≤ c
  · obtain ⟨w', h0, h2, h3⟩ := run_append_room_slab (P := P) w t ty e i size ht hi hsize A n c xs hs B F A2 m c2 news hr h1 hroom
    exact ⟨A, c, w', h0, h2, .inl ⟨rfl, rfl, h3⟩⟩
  · obtain ⟨ad, rfl, hsp, _, _, hc⟩ := hr.2 hm0
    have hnews : ∀ j u, news[j]? = some u → w.cell? (ad.add j) = some u := fun j u hu => by rw [Addr.add_eq _ _ hsp]; exact (hc j u hu).1
    have hfin : ∃ v' w', (Builtin.append_ #[t, t] ty #[.slice A n c, .slice (some ad) m c2]).run P w = .ok v' w' ∧ w'.ownsRow w.heap.size e size v' (n + m) (xs ++ news) ∧ Keeps NoB w w' := by
      obtain ⟨hl, hn, hm, ⟨rfl, rfl⟩ | ⟨g, o, cur, rfl, hb, hsc, hw⟩⟩ := id hs
      · obtain rfl : n = 0 := by omega
        obtain rfl : xs = [] := List.eq_nil_of_length_eq_zero (by simpa using hl)
        obtain ⟨v', w', hrun, r1, r2, _⟩ := run_append_own (P := P) w w.heap.size t ty e i z size bytes ht hi hz hsize hby hzs hsz (.slice none 0 0) 0 [] (World.ownsRow_nil w _ e size) ad m c2 news hr.1 hnews h1 h63 hbytes (Nat.le_refl _)
        exact ⟨v', w', hrun, r1, (Keeps.refl NoB w).grown r2 (fun k h _ => by cases h)⟩
      · obtain ⟨v', w', hrun, r1, r2⟩ := run_append_arg_grows (P := P) w t ty e i z size bytes ht hi hz hsize hby hzs hsz ⟨g, o, none⟩ n c xs hl (fun j u hj => by
            have := (hs.reads.2 (by have := (List.getElem?_eq_some_iff.1 hj).1; rcases Nat.eq_zero_or_pos n with h0 | h0; (rw [h0] at hl; simp at hl; subst hl; simp at hj); exact h0))
            obtain ⟨ad', e', _, _, _, hc'⟩ := this
            injection e' with e'; subst e'
            rw [Addr.add_lit]; exact (hc' j u hj).1) ad m c2 news hr.1 hnews (by omega) h63 hbytes
        exact ⟨v', w', hrun, r1, (Keeps.refl NoB w).grown r2 (fun k h _ => by cases h)⟩
    obtain ⟨v', w', hrun, r1, r2⟩ := hfin
    obtain ⟨A', c', rfl, r3⟩ := Slab.of_own r1
    refine ⟨A', c', w', hrun, r3, .inr ⟨?_, r2⟩⟩
    rintro k ⟨o, rfl⟩
    exact (r1.lt k rfl).1
theorem wpList_append_grew {ops : Array Oper} {rest : List Oper} {o : Oper} {a : Act} {Q : Exit → Act → World → Prop} (hgd : o.guard = none) (s x : Operand) (t : TypeId)
    (ho : o.op = .call { callee := .builtin .append, args := #[s, x], argTypes := #[t, t] })
    (e : TypeId) (i : TypeInfo) (z : Value) (size bytes : Nat) (ht : P.underlying t = some (.slice e)) (hi : P.info? e = some i) (hz : i.zero = some z)
    (hsize : i.size = size) (hby : i.bytes = bytes) (hzs : z.cells.size = size) (hsz : 0 < size)
    (A : Option Addr) (n c : Nat) (xs : List Value) (he : a.eval s = .slice A n c) (hs : Slab w e size A n c xs)
    (B : Nat → Prop) (F : Bool) (A2 : Option Addr) (m c2 : Nat) (news : List Value) (hx : a.eval x = .slice A2 m c2) (hr : Reads w B F size A2 m news) (hm0 : 0 < m) (h1 : ∀ u ∈ news, u.oneCell' = true)
    (h63 : n + m ≤ maxLen) (hbytes : (n + m) * bytes ≤ 140737488355328)
    (h : ∀ A' c' w', Slab w' e size A' (n + m) c' (xs ++ news) → Grew w w' A c A' c' → wpList P ops Q rest (a.put o.dst (.slice A' (n + m) c')) w') : wpList P ops Q (o :: rest) a w := by
  obtain ⟨A', c', w', hrun, h2, h3⟩ := run_append_grew (P := P) w t o.type e i z size bytes ht hi hz hsize hby hzs hsz A n c xs hs B F A2 m c2 news hr hm0 h1 h63 hbytes
  refine wpList_plain hgd fun _ hK => ?_
  unfold Oper.wp execOp
  simp only [ho, resolve, invoke, builtin, Sem.run_bind, Sem.run_pure, Result.andThen_ok, List.map_toArray, List.map_cons, List.map_nil, he, hx, hrun]
  exact hK _ _ (h A' c' w' h2 h3)
end

theorem Slab.put {w : World} {e : TypeId} {n c g o j : Nat} {xs : List Value} (h : Slab w e 1 (some ⟨g, o, none⟩) n c xs) (hj : j < n) (v : Value) : Slab (w.setCell ⟨g, o + j, none⟩ v) e 1 (some ⟨g, o, none⟩) n c (xs.set j v) := by
  obtain ⟨hl, hn, hm, ⟨h0, _⟩ | ⟨g', o', cur, h0, hb, hs, hw⟩⟩ := h
  · cases h0
  · injection h0 with h0; injection h0 with h0 h1; subst h0; subst h1
    refine Slab.mk' (by simpa using hl) hn hm (hb.put (o + j) v) (by simpa using hs) (fun i hi => ?_)
    rw [Array.getElem?_setIfInBounds]
    by_cases e : j = i
    · subst e
      rw [if_pos (by omega), if_pos (by omega), List.getElem?_set_self (by omega)]
    · rw [if_neg (by omega), List.getElem?_set_ne e]
      exact window_get hw hi

theorem slab_apart {w : World} {e e2 : TypeId} {size size2 n n2 c c2 : Nat} {A A2 : Option Addr} {xs ys : List Value} (h : Slab w e size A n c xs) (h2 : Slab w e2 size2 A2 n2 c2 ys) (hne : e ≠ e2) (k : Nat) (hk : rowB A k) : ¬ rowB A2 k := by
  obtain ⟨o, rfl⟩ := hk
  obtain ⟨_, _, _, ⟨h0, _⟩ | ⟨g, o', cur, h0, hb, _⟩⟩ := h
  · cases h0
  · injection h0 with h0; injection h0 with h0; subst h0
    exact h2.ne hb (Ne.symm hne)

/-- The mark of the i-th in list k. -/
def mkI (k i : Nat) : Int := 1000003 * ((k : Int) + 7) + (i : Int)
def Marked (w : World) (A : Option Addr) (n c k p : Nat) : Prop := ∃ ys, Slab w 3 1 A n c ys ∧ ∀ j, j < p → ys[j]? = some (.int .i64 (mkI k j))
theorem Marked.keep {w w' : World} {A : Option Addr} {n c k p : Nat} {fp : Nat → Prop} (h : Marked w A n c k p) (hk : Keeps fp w w') (hf : ∀ b, rowB A b → ¬ fp b) : Marked w' A n c k p := by
  obtain ⟨ys, h1, h2⟩ := h
  exact ⟨ys, h1.keep hk hf, h2⟩
theorem Marked.fresh {w w' : World} {A : Option Addr} {n c k p : Nat} (h : Marked w A n c k p) (hk : Keeps NoB w w') : Marked w' A n c k p := h.keep hk (fun _ _ => id)
theorem Marked.lt {w : World} {A : Option Addr} {n c k p : Nat} (h : Marked w A n c k p) {b : Nat} (hb : rowB A b) : b < w.heap.size := by obtain ⟨_, h1, _⟩ := h; exact h1.lt hb
theorem Marked.ne {w : World} {A : Option Addr} {n c k p b : Nat} {t : TypeId} {cs : Array Value} (h : Marked w A n c k p) (hb : Blk w b t cs) (hne : (3 : TypeId) ≠ t) : ¬ rowB A b := by obtain ⟨_, h1, _⟩ := h; exact h1.ne hb hne
theorem Marked.cell {w : World} {A : Option Addr} {n c k p j : Nat} (h : Marked w A n c k p) (hj : j < p) (hp : p ≤ n) : ∃ g o, A = some ⟨g, o, none⟩ ∧ w.cell? ⟨g, o + j, none⟩ = some (.int .i64 (mkI k j)) := by
  obtain ⟨ys, h1, h2⟩ := h
  obtain ⟨⟨g, o, sp⟩, hA, hs, _, _, hc⟩ := h1.reads.2 (by omega)
  simp only at hs
  subst hs
  exact ⟨g, o, hA, (hc j _ (h2 j hj)).1⟩
theorem Marked.put {w : World} {g o n c k j : Nat} (h : Marked w (some ⟨g, o, none⟩) n c k j) (hj : j < n) : Marked (w.setCell ⟨g, o + j, none⟩ (.int .i64 (mkI k j))) (some ⟨g, o, none⟩) n c k (j + 1) := by
  obtain ⟨ys, h1, h2⟩ := h
  refine ⟨_, h1.put hj _, fun i hi => ?_⟩
  by_cases e : j = i
  · subst e; rw [List.getElem?_set_self (by have := h1.1; omega)]
  · rw [List.getElem?_set_ne e]; exact h2 i (by omega)
theorem Marked.less {w : World} {A : Option Addr} {n c k p q : Nat} (h : Marked w A n c k p) (hq : q ≤ p) : Marked w A n c k q := by
  obtain ⟨ys, h1, h2⟩ := h
  exact ⟨ys, h1, fun j hj => h2 j (by omega)⟩
theorem Marked.upto {w : World} {A : Option Addr} {n c k m : Nat} (h : Marked w A n c k m) (hm : m ≤ n) : Marked w A m c k m := by
  obtain ⟨ys, h1, h2⟩ := h
  have h3 := h1.upto (i := m) hm
  refine ⟨_, h3, fun j hj => ?_⟩
  rw [Nat.mul_one, List.getElem?_take_of_lt hj]; exact h2 j hj

/-- A list: where it lies, how long it is, how long it may be. -/
structure Ld where
  A : Option Addr
  n : Nat
  c : Nat
def cellsL (L : Nat → Ld) (K : Nat) : List Value := (List.range K).map fun k => .slice (L k).A (L k).n (L k).c
theorem cellsL_at {L : Nat → Ld} {K k : Nat} (h : k < K) : (cellsL L K)[k]? = some (.slice (L k).A (L k).n (L k).c) := by
  unfold cellsL; rw [List.getElem?_map, List.getElem?_range h]; rfl
def fpL (L : Nat → Ld) (K : Nat) (b : Nat) : Prop := ∃ k, k < K ∧ rowB (L k).A b

/-- Lists that lie apart; of each so many are marked. -/
structure P1 (w wr : World) (K : Nat) (O : Option Addr) (cO : Nat) (L : Nat → Ld) (p : Nat → Nat) : Prop where
  out : Slab wr 25 1 O K cO (cellsL L K)
  ls : ∀ k, k < K → Marked wr (L k).A (L k).n (L k).c k (p k)
  ap : ∀ k j, k < K → j < K → k ≠ j → ∀ b, rowB (L k).A b → ¬ rowB (L j).A b
  kp : Keeps (fpL L K) w wr
section
variable {w wr w' : World} {K cO : Nat} {O : Option Addr} {L : Nat → Ld} {p : Nat → Nat}
theorem P1.fresh (h : P1 w wr K O cO L p) (hk : Keeps NoB wr w') : P1 w w' K O cO L p :=
  ⟨h.out.fresh hk, fun k hk1 => (h.ls k hk1).fresh hk, h.ap, h.kp.trans' hk (fun _ _ => id) (fun _ _ h => h.elim)⟩
theorem P1.keepOut (h : P1 w wr K O cO L p) {A : Option Addr} {n c k q : Nat} (hA : Marked wr A n c k q) (hk : Keeps (rowB A) wr w') : Slab w' 25 1 O K cO (cellsL L K) :=
  h.out.keep hk (fun b hb hr => by obtain ⟨ys, h1, _⟩ := hA; exact slab_apart h.out h1 (by decide) b hb hr)
end
end Go.Proofs.YtjmljjmnamfljaaGreat
