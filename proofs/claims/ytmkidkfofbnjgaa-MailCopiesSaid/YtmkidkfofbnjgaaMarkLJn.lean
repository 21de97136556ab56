/- Lists that lie apart, marked, and what has grown of them: plain lemmas for pigeonholekit's flat.. functions, whatever the elements are. pigeonholekit: markTerm, as flatTerms marks; two marked terms are the same. Printed by mkflat.py. pigeonholekit: mark, as flatLimbs marks. Printed by mkflatl.py. -/
import Derived.Test.YtmkidkfofbnjgaaMoreJn
import Derived.OwnWalk
import Derived.Test.YtmkidkfofbnjgaaLentLawJn
import Derived.Test.YtmkidkfofbnjgaaLooksJn
namespace Go.Proofs.Ytmkidkfofbnjgaa
open Go.RowKit

/-- Grown where it lay, or in a new block. -/
def Grew (w w' : World) (A : Option Addr) (c : Nat) (A' : Option Addr) (c' : Nat) : Prop := (A' = A ∧ c' = c ∧ Keeps (rowB A) w w') ∨ ((∀ k, rowB A' k → w.heap.size ≤ k) ∧ Keeps NoB w w')

section
variable {P : Program} (w : World)
theorem run_append_grew (t ty e : TypeId) (i : TypeInfo) (z : Value) (size bytes : Nat) (ht : P.underlying t = some (.slice e)) (hi : P.info? e = some i) (hz : i.zero = some z)
    (hsize : i.size = size) (hby : i.bytes = bytes) (hzs : z.cells.size = size) (hsz : 0 < size)
    (A : Option Addr) (n c : Nat) (xs : List Value) (hs : Slab w e size A n c xs)
    (B : Nat → Prop) (F : Bool) (A2 : Option Addr) (m c2 : Nat) (news : List Value) (hr : Reads w B F size A2 m news) (hm0 : 0 < m) (h1 : ∀ u ∈ news, u.oneCell' = true)
    (h63 : n + m ≤ maxLen) (hbytes : (n + m) * bytes ≤ 140737488355328) :
    ∃ A' c' w', (Builtin.append_ #[t, t] ty #[.slice A n c, .slice A2 m c2]).run P w = .ok (.slice A' (n + m) c') w' ∧ Slab w' e size A' (n + m) c' (xs ++ news) ∧ Grew w w' A c A' c' := by
  by_cases hroom : n + m ≤ c
  · obtain ⟨w', h0, h2, h3⟩ := run_append_room_slab (P := P) w t ty e i size ht hi hsize A n c xs hs B F A2 m c2 news hr h1 hroom
    exact ⟨A, c, w', h0, h2, .inl ⟨rfl, rfl, h3⟩⟩
  · obtain ⟨ad, rfl, hsp, _, _, hc⟩ := hr.2 hm0
    have hnews : ∀ j u, news[j]? = some u → w.cell? (ad.add j) = some u := fun j u hu => by rw [Addr.add_eq _ _ hsp]; exact (hc j u hu).1
    have hfin : ∃ v' w', (Builtin.append_ #[t, t] ty #[.slice A n c, .slice (some ad) m c2]).run P w = .ok v' w' ∧ w'.ownsRow w.heap.size e size v' (n + m) (xs ++ news) ∧ Keeps NoB w w' := by
      obtain ⟨hl, hn, hm, ⟨rfl, rfl⟩ | ⟨g, o, cur, rfl, hb, hsc, hw⟩⟩ := id hs
      · obtain rfl : n = 0 := by omega
        obtain rfl : xs = [] := List.eq_nil_of_length_eq_zero (by simpa using hl)
        obtain ⟨v', w', hrun, r1, r2, _⟩ := run_append_own (P := P) w w.heap.size t ty e i z size bytes ht hi hz hsize hby hzs hsz (.slice none 0 0) 0 [] (World.ownsRow_nil w _ e size) ad m c2 news hr.1 hnews h1 h63 hbytes (Nat.le_refl _)
        exact ⟨v', w', hrun, r1, (Keeps.refl NoB w).grown r2 (fun k h _ => by cases h)⟩
      · obtain ⟨v', w', hrun, r1, r2⟩ := run_append_arg_grows (P := P) w t ty e i z size bytes ht hi hz hsize hby hzs hsz ⟨g, o, none⟩ n c xs hl (fun j u hj => by
            have := (hs.reads.2 (by have := (List.getElem?_eq_some_iff.1 hj).1; rcases Nat.eq_zero_or_pos n with h0 | h0; (rw [h0] at hl; simp at hl; subst hl; simp at hj); exact h0))
            obtain ⟨ad', e', _, _, _, hc'⟩ := this
            injection e' with e'; subst e'
            rw [Addr.add_lit]; exact (hc' j u hj).1) ad m c2 news hr.1 hnews (by omega) h63 hbytes
        exact ⟨v', w', hrun, r1, (Keeps.refl NoB w).grown r2 (fun k h _ => by cases h)⟩
    obtain ⟨v', w', hrun, r1, r2⟩ := hfin
    obtain ⟨A', c', rfl, r3⟩ := Slab.of_own r1
    refine ⟨A', c', w', hrun, r3, .inr ⟨?_, r2⟩⟩
    rintro k ⟨o, rfl⟩
    exact (r1.lt k rfl).1
theorem wpList_append_grew {ops : Array Oper} {rest : List Oper} {o : Oper} {a : Act} {Q : Exit → Act → World → Prop} (hgd : o.guard = none) (s x : Operand) (t : TypeId)
    (ho : o.op = .call { callee := .builtin .append, args := #[s, x], argTypes := #[t, t] })
    (e : TypeId) (i : TypeInfo) (z : Value) (size bytes : Nat) (ht : P.underlying t = some (.slice e)) (hi : P.info? e = some i) (hz : i.zero = some z)
    (hsize : i.size = size) (hby : i.bytes = bytes) (hzs : z.cells.size = size) (hsz : 0 < size)
    (A : Option Addr) (n c : Nat) (xs : List Value) (he : a.eval s = .slice A n c) (hs : Slab w e size A n c xs)
    (B : Nat → Prop) (F : Bool) (A2 : Option Addr) (m c2 : Nat) (news : List Value) (hx : a.eval x = .slice A2 m c2) (hr : Reads w B F size A2 m news) (hm0 : 0 < m) (h1 : ∀ u ∈ news, u.oneCell' = true)
    (h63 : n + m ≤ maxLen) (hbytes : (n + m) * bytes ≤ 140737488355328)
    (h : ∀ A' c' w', Slab w' e size A' (n + m) c' (xs ++ news) → Grew w w' A c A' c' → wpList P ops Q rest (a.put o.dst (.slice A' (n + m) c')) w') : wpList P ops Q (o :: rest) a w := by
  obtain ⟨A', c', w', hrun, h2, h3⟩ := run_append_grew (P := P) w t o.type e i z size bytes ht hi hz hsize hby hzs hsz A n c xs hs B F A2 m c2 news hr hm0 h1 h63 hbytes
  refine wpList_plain hgd fun _ hK => ?_
  unfold Oper.wp execOp
  simp only [ho, resolve, invoke, builtin, Sem.run_bind, Sem.run_pure, Result.andThen_ok, List.map_toArray, List.map_cons, List.map_nil, he, hx, hrun]
  exact hK _ _ (h A' c' w' h2 h3)
end

theorem slab_apart {w : World} {e e2 : TypeId} {size size2 n n2 c c2 : Nat} {A A2 : Option Addr} {xs ys : List Value} (h : Slab w e size A n c xs) (h2 : Slab w e2 size2 A2 n2 c2 ys) (hne : e ≠ e2) (k : Nat) (hk : rowB A k) : ¬ rowB A2 k := by
  obtain ⟨o, rfl⟩ := hk
  obtain ⟨_, _, _, ⟨h0, _⟩ | ⟨g, o', cur, h0, hb, _⟩⟩ := h
  · cases h0
  · injection h0 with h0; injection h0 with h0; subst h0
    exact h2.ne hb (Ne.symm hne)

/-- A kind of lists: their elements' type, their own, the cells of an element, the mark of the i-th element of list k. -/
structure Kd where
  e : TypeId
  E : TypeId
  sz : Nat
  el : Nat → Nat → List Value
def mkI (k i : Nat) : Int := 1000003 * ((k : Int) + 7) + (i : Int)
/-- A list of which the first p are marked. -/
def Marked (S : Kd) (w : World) (A : Option Addr) (n c k p : Nat) : Prop := ∃ ys, Slab w S.e S.sz A n c ys ∧ ∀ j, j < p → ∀ t, t < S.sz → ys[j * S.sz + t]? = (S.el k j)[t]?
section
variable {S : Kd} {w w' : World} {A : Option Addr} {n c k p : Nat} {fp : Nat → Prop}
theorem Marked.keep (h : Marked S w A n c k p) (hk : Keeps fp w w') (hf : ∀ b, rowB A b → ¬ fp b) : Marked S w' A n c k p := by
  obtain ⟨ys, h1, h2⟩ := h
  exact ⟨ys, h1.keep hk hf, h2⟩
theorem Marked.fresh (h : Marked S w A n c k p) (hk : Keeps NoB w w') : Marked S w' A n c k p := h.keep hk (fun _ _ => id)
theorem Marked.lt (h : Marked S w A n c k p) {b : Nat} (hb : rowB A b) : b < w.heap.size := by obtain ⟨_, h1, _⟩ := h; exact h1.lt hb
theorem Marked.ne {b : Nat} {t : TypeId} {cs : Array Value} (h : Marked S w A n c k p) (hb : Blk w b t cs) (hne : S.e ≠ t) : ¬ rowB A b := by obtain ⟨_, h1, _⟩ := h; exact h1.ne hb hne
theorem Marked.len (h : Marked S w A n c k p) : n ≤ c := by obtain ⟨_, h1, _⟩ := h; exact h1.2.1
theorem idx_lt {j n sz t : Nat} (hj : j < n) (ht : t < sz) : j * sz + t < n * sz := by
  have : (j + 1) * sz ≤ n * sz := Nat.mul_le_mul_right _ hj
  rw [Nat.add_mul] at this; omega
/-- A marked element, cell by cell. -/
theorem Marked.cells (h : Marked S w A n c k p) {j : Nat} (hj : j < p) (hp : p ≤ n) : ∃ g o, A = some ⟨g, o, none⟩ ∧ ∀ t v, t < S.sz → (S.el k j)[t]? = some v → w.cell? ⟨g, o + j * S.sz + t, none⟩ = some v := by
  obtain ⟨ys, h1, h2⟩ := h
  obtain ⟨⟨g, o, sp⟩, hA, hs, _, _, hc⟩ := h1.reads.2 (by omega)
  simp only at hs
  subst hs
  exact ⟨g, o, hA, fun t v ht hv => by
    have := (hc (j * S.sz + t) v (by rw [h2 j hj t ht]; exact hv)).1
    rw [← Nat.add_assoc] at this; exact this⟩
/-- Whatever element, cell by cell. -/
theorem Marked.place (h : Marked S w A n c k p) {j : Nat} (hj : j < n) : ∃ g o, A = some ⟨g, o, none⟩ ∧ ∀ t, t < S.sz → ∃ v, w.cell? ⟨g, o + j * S.sz + t, none⟩ = some v ∧ w.frozen? ⟨g, o + j * S.sz + t, none⟩ = false := by
  obtain ⟨ys, h1, _⟩ := h
  obtain ⟨⟨g, o, sp⟩, hA, hs, _, _, hc⟩ := h1.reads.2 (by omega)
  simp only at hs
  subst hs
  refine ⟨g, o, hA, fun t ht => ?_⟩
  obtain ⟨u, hu⟩ : ∃ u, ys[j * S.sz + t]? = some u := ⟨_, List.getElem?_eq_getElem (by rw [h1.1]; exact idx_lt hj ht)⟩
  have := hc _ u hu
  rw [← Nat.add_assoc] at this
  exact ⟨u, this.1, this.2 rfl⟩
theorem Marked.less {q : Nat} (h : Marked S w A n c k p) (hq : q ≤ p) : Marked S w A n c k q := by
  obtain ⟨ys, h1, h2⟩ := h
  exact ⟨ys, h1, fun j hj => h2 j (by omega)⟩
theorem Marked.upto {m : Nat} (h : Marked S w A n c k m) (hm : m ≤ n) : Marked S w A m c k m := by
  obtain ⟨ys, h1, h2⟩ := h
  refine ⟨_, h1.upto (i := m) hm, fun j hj t ht => ?_⟩
  rw [List.getElem?_take_of_lt (idx_lt hj ht)]; exact h2 j hj t ht
theorem Marked.cut {q : Nat} (h : Marked S w A n c k p) (hq : q ≤ n) (hp : q ≤ p) : Marked S w A q c k q := by
  obtain ⟨ys, h1, h2⟩ := h
  refine ⟨_, h1.upto (i := q) hq, fun j hj t ht => ?_⟩
  rw [List.getElem?_take_of_lt (idx_lt hj ht)]; exact h2 j (by omega) t ht
/-- One more behind, or many. -/
theorem Marked.more {ys zs : List Value} {A' : Option Addr} {m c' q : Nat} (h2 : ∀ j, j < n → ∀ t, t < S.sz → ys[j * S.sz + t]? = (S.el k j)[t]?) (hl : ys.length = n * S.sz) (hs : Slab w' S.e S.sz A' (n + m) c' (ys ++ zs)) (hq : q ≤ n) : Marked S w' A' (n + m) c' k q :=
  ⟨_, hs, fun j hj t ht => by rw [List.getElem?_append_left (by rw [hl]; exact idx_lt (by omega) ht)]; exact h2 j (by omega) t ht⟩
theorem Marked.one {ys : List Value} {A' : Option Addr} {c' : Nat} (h2 : ∀ j, j < n → ∀ t, t < S.sz → ys[j * S.sz + t]? = (S.el k j)[t]?) (hl : ys.length = n * S.sz) (hs : Slab w' S.e S.sz A' (n + 1) c' (ys ++ S.el k n)) : Marked S w' A' (n + 1) c' k (n + 1) :=
  ⟨_, hs, fun j hj t ht => by
    rcases Nat.lt_succ_iff_lt_or_eq.1 hj with h | rfl
    · rw [List.getElem?_append_left (by rw [hl]; exact idx_lt h ht)]; exact h2 j h t ht
    · rw [List.getElem?_append_right (by omega), hl]; congr 1; omega⟩
end

/-- A list: where it lies, how long it is, how long it may be. -/
structure Ld where
  A : Option Addr
  n : Nat
  c : Nat
def cellsL (L : Nat → Ld) (K : Nat) : List Value := (List.range K).map fun k => .slice (L k).A (L k).n (L k).c
theorem cellsL_at {L : Nat → Ld} {K k : Nat} (h : k < K) : (cellsL L K)[k]? = some (.slice (L k).A (L k).n (L k).c) := by
  unfold cellsL; rw [List.getElem?_map, List.getElem?_range h]; rfl
theorem cellsL_succ (L : Nat → Ld) (k : Nat) : cellsL L (k + 1) = cellsL L k ++ [.slice (L k).A (L k).n (L k).c] := by
  unfold cellsL; rw [List.range_succ, List.map_append]; rfl
def fpL (L : Nat → Ld) (K : Nat) (b : Nat) : Prop := ∃ k, k < K ∧ rowB (L k).A b

/-- Lists that lie apart; of each so many are marked. -/
structure P1 (S : Kd) (w wr : World) (K : Nat) (O : Option Addr) (cO : Nat) (L : Nat → Ld) (p : Nat → Nat) : Prop where
  out : Slab wr S.E 1 O K cO (cellsL L K)
  ls : ∀ k, k < K → Marked S wr (L k).A (L k).n (L k).c k (p k)
  ap : ∀ k j, k < K → j < K → k ≠ j → ∀ b, rowB (L k).A b → ¬ rowB (L j).A b
  kp : Keeps (fpL L K) w wr
  ne : S.e ≠ S.E
section
variable {S : Kd} {w wr w' : World} {K cO : Nat} {O : Option Addr} {L : Nat → Ld} {p : Nat → Nat}
theorem P1.fresh (h : P1 S w wr K O cO L p) (hk : Keeps NoB wr w') : P1 S w w' K O cO L p :=
  ⟨h.out.fresh hk, fun k hk1 => (h.ls k hk1).fresh hk, h.ap, h.kp.trans' hk (fun _ _ => id) (fun _ _ h => h.elim), h.ne⟩
theorem P1.again (h : P1 S w wr K O cO L p) : P1 S wr wr K O cO L p := ⟨h.out, h.ls, h.ap, Keeps.refl _ _, h.ne⟩
theorem P1.keepOut (h : P1 S w wr K O cO L p) {A : Option Addr} {n c k q : Nat} (hA : Marked S wr A n c k q) (hk : Keeps (rowB A) wr w') : Slab w' S.E 1 O K cO (cellsL L K) :=
  h.out.keep hk (fun b hb hr => by obtain ⟨ys, h1, _⟩ := hA; exact slab_apart h.out h1 (Ne.symm h.ne) b hb hr)
theorem P1.cong {q : Nat → Nat} (h : P1 S w wr K O cO L p) (he : ∀ k, k < K → q k ≤ p k) : P1 S w wr K O cO L q := ⟨h.out, fun k hk => (h.ls k hk).less (he k hk), h.ap, h.kp, h.ne⟩
/-- What is written in list k leaves the others. -/
theorem P1.put {k j : Nat} (h : P1 S w wr K O cO L p) (hk : k < K) (hkp : Keeps (rowB (L k).A) wr w') (hm : Marked S w' (L k).A (L k).n (L k).c k j) : P1 S w w' K O cO L (fun x => if x = k then j else p x) := by
  refine ⟨h.keepOut (h.ls k hk) hkp, fun x hx => ?_, h.ap, h.kp.trans' hkp (fun _ _ h => h) (fun b _ e => ⟨k, hk, e⟩), h.ne⟩
  by_cases e : x = k
  · subst e
    simp only [if_true]
    exact hm
  · rw [if_neg e]
    exact (h.ls x hx).keep hkp (fun b hb e2 => h.ap x k hx hk e b hb e2)
/-- The k-th list, as the outer one tells it. -/
theorem P1.head {k : Nat} (h : P1 S w wr K O cO L p) (hk : k < K) : ∃ g o, O = some ⟨g, o, none⟩ ∧ wr.cell? ⟨g, o + k, none⟩ = some (.slice (L k).A (L k).n (L k).c) := by
  obtain ⟨⟨g, o, sp⟩, hA, hs, _, _, hc⟩ := h.out.reads.2 (by omega)
  simp only at hs
  subst hs
  exact ⟨g, o, hA, (hc k _ (cellsL_at hk)).1⟩
end

/-- The lists, all marked; a row for what has grown; the first k0 of these, so many of each marked. -/
structure P2 (S : Kd) (w wr : World) (K : Nat) (O : Option Addr) (cO : Nat) (L : Nat → Ld) (gb : Nat) (G : Nat → Ld) (k0 : Nat) (lim : Nat → Nat) : Prop where
  base : P1 S w wr K O cO L (fun k => (L k).n)
  row : ∃ ys, Slab wr S.E 1 (some ⟨gb, 0, none⟩) K K ys ∧ ∀ k, k < k0 → ys[k]? = some (.slice (G k).A ((L k).n + 64) (G k).c)
  gm : ∀ k, k < k0 → Marked S wr (G k).A ((L k).n + 64) (G k).c k (lim k)
  g1 : ∀ k j, k < k0 → j < K → j ≠ k → ∀ b, rowB (G k).A b → ¬ rowB (L j).A b
  g2 : ∀ k j, k < k0 → j < k0 → j ≠ k → ∀ b, rowB (G k).A b → ¬ rowB (G j).A b
  gn : w.heap.size ≤ gb
  og : ¬ rowB O gb

/-- A list that has grown out of the k0-th: where that lies, or in a block that is nobody's. -/
def Mine (w : World) (K : Nat) (L : Nat → Ld) (G : Nat → Ld) (k0 : Nat) (A : Option Addr) (c : Nat) : Prop :=
  (A = (L k0).A ∧ c = (L k0).c) ∨ ∀ b, rowB A b → (∀ j, j < K → ¬ rowB (L j).A b) ∧ (∀ j, j < k0 → ¬ rowB (G j).A b) ∧ w.heap.size ≤ b

section
variable {S : Kd} {w wr w' : World} {K cO gb k0 : Nat} {O : Option Addr} {L G : Nat → Ld} {lim : Nat → Nat}
theorem P2.fresh (h : P2 S w wr K O cO L gb G k0 lim) (hk : Keeps NoB wr w') : P2 S w w' K O cO L gb G k0 lim := by
  obtain ⟨ys, h1, h2⟩ := h.row
  exact ⟨h.base.fresh hk, ⟨ys, h1.fresh hk, h2⟩, fun k hk1 => (h.gm k hk1).fresh hk, h.g1, h.g2, h.gn, h.og⟩
/-- What is written in a list that is nobody's leaves all. -/
theorem P2.keepInts {A : Option Addr} {n c : Nat} {zs : List Value} (h : P2 S w wr K O cO L gb G k0 lim) (hA : Slab wr S.e S.sz A n c zs) (hk : Keeps (rowB A) wr w') (hl : ∀ b, rowB A b → (∀ j, j < K → ¬ rowB (L j).A b) ∧ (∀ j, j < k0 → ¬ rowB (G j).A b) ∧ w.heap.size ≤ b) : P2 S w w' K O cO L gb G k0 lim := by
  obtain ⟨ys, h1, h2⟩ := h.row
  refine ⟨⟨h.base.keepOut (k := 0) (q := 0) ⟨zs, hA, fun j hj => by omega⟩ hk, fun j hj => (h.base.ls j hj).keep hk (fun b hb hr => (hl b hr).1 j hj hb), h.base.ap, h.base.kp.trans' hk (fun _ _ h => h) (fun b hb hr => by have := (hl b hr).2.2; omega), h.base.ne⟩, ⟨ys, h1.keep hk (fun b hb hr => slab_apart h1 hA (Ne.symm h.base.ne) b hb hr), h2⟩, fun j hj => (h.gm j hj).keep hk (fun b hb hr => (hl b hr).2.1 j hj hb), h.g1, h.g2, h.gn, h.og⟩
/-- The k0-th list grown on where it lies. -/
theorem P2.keepList {n' q : Nat} (h : P2 S w wr K O cO L gb G k0 lim) (hk0 : k0 < K) (hk : Keeps (rowB (L k0).A) wr w') (hm : Marked S w' (L k0).A n' (L k0).c k0 q) (hn : (L k0).n ≤ n') (hq : (L k0).n ≤ q) : P2 S w w' K O cO L gb G k0 lim := by
  obtain ⟨ys, h1, h2⟩ := h.row
  have hA := h.base.ls k0 hk0
  obtain ⟨zs, hz, _⟩ := id hA
  refine ⟨⟨h.base.keepOut hA hk, fun j hj => ?_, h.base.ap, h.base.kp.trans' hk (fun _ _ h => h) (fun b hb hr => ⟨k0, hk0, hr⟩), h.base.ne⟩, ⟨ys, h1.keep hk (fun b hb hr => slab_apart h1 hz (Ne.symm h.base.ne) b hb hr), h2⟩, fun j hj => (h.gm j hj).keep hk (fun b hb hr => h.g1 j k0 hj hk0 (by omega) b hb hr), h.g1, h.g2, h.gn, h.og⟩
  by_cases e : j = k0
  · subst e
    exact hm.cut hn hq
  · exact (h.base.ls j hj).keep hk (fun b hb hr => h.base.ap j k0 hj hk0 e b hb hr)

/-- More behind a list that grows. -/
theorem P2.grow {A A' : Option Addr} {c c' i n' : Nat} {ys : List Value} (h : P2 S w wr K O cO L gb G k0 lim) (hk0 : k0 < K) (hA : Slab wr S.e S.sz A ((L k0).n + i) c ys) (hM : Mine w K L G k0 A c)
    (hs : Marked S w' A' n' c' k0 (L k0).n) (hn : (L k0).n ≤ n') (hg : Grew wr w' A c A' c') : P2 S w w' K O cO L gb G k0 lim ∧ Mine w K L G k0 A' c' := by
  rcases hg with ⟨rfl, rfl, hk⟩ | ⟨hnew, hk⟩
  · refine ⟨?_, hM⟩
    rcases hM with ⟨rfl, rfl⟩ | hM
    · exact h.keepList hk0 hk (q := (L k0).n) hs hn (Nat.le_refl _)
    · exact h.keepInts hA hk hM
  · refine ⟨h.fresh hk, .inr fun b hb => ?_⟩
    have hb2 := hnew b hb
    refine ⟨fun j hj hr => ?_, fun j hj hr => ?_, Nat.le_trans h.base.kp.size hb2⟩
    · have := (h.base.ls j hj).lt hr; omega
    · have := (h.gm j hj).lt hr; omega
theorem Slab.putE {w : World} {e : TypeId} {n c g o j : Nat} {xs : List Value} (h : Slab w e 1 (some ⟨g, o, none⟩) n c xs) (hj : j < n) (v : Value) : Slab (w.setCell ⟨g, o + j, none⟩ v) e 1 (some ⟨g, o, none⟩) n c (xs.set j v) := h.put1 (by omega) v
/-- It is laid down in the row. -/
theorem P2.lay {A : Option Addr} {c : Nat} (h : P2 S w wr K O cO L gb G k0 lim) (hk0 : k0 < K) (hm : Marked S wr A ((L k0).n + 64) c k0 (lim k0)) (hM : Mine w K L G k0 A c) :
    P2 S w (wr.setCell ⟨gb, k0, none⟩ (.slice A ((L k0).n + 64) c)) K O cO L gb (fun x => if x = k0 then ⟨A, 0, c⟩ else G x) (k0 + 1) lim := by
  obtain ⟨ys, h1, h2⟩ := h.row
  have hkp : Keeps (fun b => b = gb) wr (wr.setCell ⟨gb, k0, none⟩ (.slice A ((L k0).n + 64) c)) := (Keeps.refl (fun b => b = gb) wr).setCell (p := ⟨gb, k0, none⟩) (.inl rfl) _
  have hint : ∀ {B : Option Addr} {n c k q : Nat}, Marked S wr B n c k q → ∀ b, rowB B b → ¬ b = gb := by
    rintro B n c k q ⟨zs, hz, _⟩ b hb rfl
    exact slab_apart h1 hz (Ne.symm h.base.ne) b ⟨0, rfl⟩ hb
  refine ⟨⟨h.base.out.keep hkp (fun b hb e => h.og (e ▸ hb)), fun j hj => (h.base.ls j hj).keep hkp (hint (h.base.ls j hj)), h.base.ap, h.base.kp.trans' hkp (fun _ _ h => h) (fun b hb e => by have := h.gn; omega), h.base.ne⟩, ?_, fun j hj => ?_, fun k j hk hj hne b hb => ?_, fun k j hk hj hne b hb => ?_, h.gn, h.og⟩
  · refine ⟨ys.set k0 (.slice A ((L k0).n + 64) c), by have := h1.putE (j := k0) hk0 (.slice A ((L k0).n + 64) c); rw [Nat.zero_add] at this; exact this, fun k hk => ?_⟩
    by_cases e : k0 = k
    · subst e; rw [List.getElem?_set_self (by have := h1.1; omega)]; simp
    · rw [List.getElem?_set_ne e, if_neg (Ne.symm e)]; exact h2 k (by omega)
  · by_cases e : j = k0
    · subst e; simp only [if_true]; exact hm.keep hkp (hint hm)
    · rw [if_neg e]; exact (h.gm j (by omega)).keep hkp (hint (h.gm j (by omega)))
  · by_cases e : k = k0
    · subst e
      simp only [if_true] at hb
      rcases hM with ⟨rfl, _⟩ | hM
      · exact h.base.ap k j hk0 hj (Ne.symm hne) b hb
      · exact (hM b hb).1 j hj
    · rw [if_neg e] at hb; exact h.g1 k j (by omega) hj hne b hb
  · by_cases e : k = k0
    · subst e
      simp only [if_true] at hb
      rw [if_neg hne]
      rcases hM with ⟨rfl, _⟩ | hM
      · exact fun hr => h.g1 j k (by omega) hk0 (Ne.symm hne) b hr hb
      · exact (hM b hb).2.1 j (by omega)
    · rw [if_neg e] at hb
      by_cases e2 : j = k0
      · subst e2
        simp only [if_true]
        rcases hM with ⟨rfl, _⟩ | hM
        · exact h.g1 k j (by omega) hk0 (Ne.symm e) b hb
        · exact fun hr => (hM b hr).2.1 k (by omega) hb
      · rw [if_neg e2]; exact h.g2 k j (by omega) (by omega) hne b hb
/-- The k-th that has grown, as the row tells it. -/
theorem P2.head {k : Nat} (h : P2 S w wr K O cO L gb G k0 lim) (hk : k < k0) : wr.cell? ⟨gb, k, none⟩ = some (.slice (G k).A ((L k).n + 64) (G k).c) := by
  obtain ⟨ys, h1, h2⟩ := h.row
  have hy := h2 k hk
  have hlt := (List.getElem?_eq_some_iff.1 hy).1
  obtain ⟨⟨g, o, sp⟩, hA, hs, _, _, hc⟩ := h1.reads.2 (by have := h1.1; omega)
  injection hA with hA; injection hA with e1 e2 e3; subst e1 e2 e3
  have := (hc k _ hy).1
  simpa using this
/-- The row's k-th place is there. -/
theorem P2.slot {k : Nat} (h : P2 S w wr K O cO L gb G k0 lim) (hk : k < K) : ∃ v, wr.cell? ⟨gb, k, none⟩ = some v ∧ wr.frozen? ⟨gb, k, none⟩ = false := by
  obtain ⟨zs, h1, _⟩ := h.row
  obtain ⟨⟨g, o, sp⟩, hA, hs, _, _, hc⟩ := h1.reads.2 (by omega)
  injection hA with hA; injection hA with e1 e2 e3; subst e1 e2 e3
  obtain ⟨zv, hzv⟩ : ∃ zv, zs[k]? = some zv := ⟨_, List.getElem?_eq_getElem (by have := h1.1; omega)⟩
  have := hc k zv hzv
  exact ⟨zv, by simpa using this.1, by simpa using this.2 rfl⟩
end
end Go.Proofs.Ytmkidkfofbnjgaa
namespace Go.Proofs.Ytmkidkfofbnjgaa
open Go.RowKit

theorem mkI_eq (k i : Nat) : 1000003 * ((k : Int) + 7) + (i : Int) = mkI k i := rfl
abbrev KT : Kd := ⟨33, 25, 7, fun k i => [.int .u8 0, .bool false, .slice none 0 0, .string { data := #[] }, .int .i64 (mkI k i), .slice none 0 0, .slice none 0 0]⟩
def MarkPost (w : World) (v : Int) (e : Ending) (w' : World) : Prop := e = .returned (.agg #[.int .u8 0, .bool false, .slice none 0 0, .string { data := #[] }, .int .i64 v, .slice none 0 0, .slice none 0 0]) ∧ Keeps NoB w w'
theorem mark_term (a b v : Int) (w : World) (ha : 0 ≤ a) (ha2 : a ≤ 1000000) (hb : 0 ≤ b) (hb2 : b ≤ 1000000) (hv : 1000003 * (a + 7) + b = v) : Calls Try.prog 73 #[.int .i64 a, .int .i64 b] w (MarkPost w v) := by
  subst hv
  exact markTerm_any a b ha ha2 hb hb2 w
theorem same_flat (v : Int) (w : World) : Calls Try.prog 27 #[.agg #[.int .u8 0, .bool false, .slice none 0 0, .string { data := #[] }, .int .i64 v, .slice none 0 0, .slice none 0 0], .agg #[.int .u8 0, .bool false, .slice none 0 0, .string { data := #[] }, .int .i64 v, .slice none 0 0, .slice none 0 0]] w fun e w' => e = .returned (.bool true) ∧ Keeps NoB w w' :=
  same_self (flatT 0 ⟨#[]⟩ v) w (fun _ => True) (fun _ => True) false false _ _ (flat_in w _ _ 0 ⟨#[]⟩ v) (flat_in w _ _ 0 ⟨#[]⟩ v)
theorem seven_reads {w : World} {g : Nat} {t : TypeId} {cs : List Value} (h : Blk w g t cs.toArray) (hl : cs.length = 7) : Reads w (fun _ => True) true 7 (some ⟨g, 0, none⟩) 1 cs := by
  refine ⟨by omega, fun _ => ⟨_, rfl, rfl, trivial, h.lt, fun j u hu => ⟨?_, fun _ => h.free _⟩⟩⟩
  rw [h.cell, Nat.zero_add]; simpa using hu
theorem term_put {w : World} {g o n c k j : Nat} (h : Marked KT w (some ⟨g, o, none⟩) n c k j) (hj : j < n) : Marked KT (((((((w.setCell ⟨g, o + j * 7, none⟩ (.int .u8 0)).setCell ⟨g, o + j * 7 + 1, none⟩ (.bool false)).setCell ⟨g, o + j * 7 + 2, none⟩ (.slice none 0 0)).setCell ⟨g, o + j * 7 + 3, none⟩ (.string { data := #[] })).setCell ⟨g, o + j * 7 + 4, none⟩ (.int .i64 (mkI k j))).setCell ⟨g, o + j * 7 + 5, none⟩ (.slice none 0 0)).setCell ⟨g, o + j * 7 + 6, none⟩ (.slice none 0 0)) (some ⟨g, o, none⟩) n c k (j + 1) := by
  obtain ⟨ys, h1, h2⟩ := h
  have h3 := (Slab.put1 (j := j * 7 + 6) (Slab.put1 (j := j * 7 + 5) (Slab.put1 (j := j * 7 + 4) (Slab.put1 (j := j * 7 + 3) (Slab.put1 (j := j * 7 + 2) (Slab.put1 (j := j * 7 + 1) (Slab.put1 (j := j * 7) h1 (by show j * 7 < n * 7; omega) (.int .u8 0)) (by show j * 7 + 1 < n * 7; omega) (.bool false)) (by show j * 7 + 2 < n * 7; omega) (.slice none 0 0)) (by show j * 7 + 3 < n * 7; omega) (.string { data := #[] })) (by show j * 7 + 4 < n * 7; omega) (.int .i64 (mkI k j))) (by show j * 7 + 5 < n * 7; omega) (.slice none 0 0)) (by show j * 7 + 6 < n * 7; omega) (.slice none 0 0))
  have hl : ys.length = n * 7 := h1.1
  refine ⟨_, h3, fun i hi t ht => ?_⟩
  show (((((((ys.set (j * 7) (.int .u8 0)).set (j * 7 + 1) (.bool false)).set (j * 7 + 2) (.slice none 0 0)).set (j * 7 + 3) (.string { data := #[] })).set (j * 7 + 4) (.int .i64 (mkI k j))).set (j * 7 + 5) (.slice none 0 0)).set (j * 7 + 6) (.slice none 0 0))[i * 7 + t]? = _
  have ht' : t < 7 := ht
  rcases Nat.lt_succ_iff_lt_or_eq.1 hi with h | rfl
  · rw [List.getElem?_set_ne (by omega), List.getElem?_set_ne (by omega), List.getElem?_set_ne (by omega), List.getElem?_set_ne (by omega), List.getElem?_set_ne (by omega), List.getElem?_set_ne (by omega), List.getElem?_set_ne (by omega)]; exact h2 i h t ht
  · rcases (by omega : t = 0 ∨ t = 1 ∨ t = 2 ∨ t = 3 ∨ t = 4 ∨ t = 5 ∨ t = 6) with rfl | rfl | rfl | rfl | rfl | rfl | rfl
    · rw [List.getElem?_set_ne (by omega), List.getElem?_set_ne (by omega), List.getElem?_set_ne (by omega), List.getElem?_set_ne (by omega), List.getElem?_set_ne (by omega), List.getElem?_set_ne (by omega), Nat.add_zero, List.getElem?_set_self (by (try simp only [List.length_set]); omega)]; rfl
    · rw [List.getElem?_set_ne (by omega), List.getElem?_set_ne (by omega), List.getElem?_set_ne (by omega), List.getElem?_set_ne (by omega), List.getElem?_set_ne (by omega), List.getElem?_set_self (by (try simp only [List.length_set]); omega)]; rfl
    · rw [List.getElem?_set_ne (by omega), List.getElem?_set_ne (by omega), List.getElem?_set_ne (by omega), List.getElem?_set_ne (by omega), List.getElem?_set_self (by (try simp only [List.length_set]); omega)]; rfl
    · rw [List.getElem?_set_ne (by omega), List.getElem?_set_ne (by omega), List.getElem?_set_ne (by omega), List.getElem?_set_self (by (try simp only [List.length_set]); omega)]; rfl
    · rw [List.getElem?_set_ne (by omega), List.getElem?_set_ne (by omega), List.getElem?_set_self (by (try simp only [List.length_set]); omega)]; rfl
    · rw [List.getElem?_set_ne (by omega), List.getElem?_set_self (by (try simp only [List.length_set]); omega)]; rfl
    · rw [List.getElem?_set_self (by (try simp only [List.length_set]); omega)]; rfl
end Go.Proofs.Ytmkidkfofbnjgaa
namespace Go.Proofs.Ytmkidkfofbnjgaa
open Go.RowKit

abbrev KL : Kd := ⟨92, 31, 1, fun k i => [.int .u32 (IntKind.u32.wrap (mkI k i))]⟩
theorem mark_big (a b v : Int) (w : World) (ha : 0 ≤ a) (ha2 : a ≤ 1000000) (hb : 0 ≤ b) (hb2 : b ≤ 100000000000000) (hv : 1000003 * (a + 7) + b = v) : Calls Try.prog 72 #[.int .i64 a, .int .i64 b] w fun e w' => e = .returned (.int .i64 v) ∧ w = w' := by
  have HV := hide hv
  clear hv
  go_enter Try.func72, Try.ntmps72
  go_wp2
  go_ret
  exact ⟨by rw [← HV.out]; rfl, rfl⟩
theorem limb_put {w : World} {g o n c k j : Nat} (h : Marked KL w (some ⟨g, o, none⟩) n c k j) (hj : j < n) : Marked KL (w.setCell ⟨g, o + j, none⟩ (.int .u32 (IntKind.u32.wrap (mkI k j)))) (some ⟨g, o, none⟩) n c k (j + 1) := by
  obtain ⟨ys, h1, h2⟩ := h
  have h3 := Slab.put1 (j := j) h1 (by show j < n * 1; omega) (.int .u32 (IntKind.u32.wrap (mkI k j)))
  have hl : ys.length = n * 1 := h1.1
  refine ⟨_, h3, fun i hi t ht => ?_⟩
  show (ys.set j _)[i * 1 + t]? = _
  have ht' : t < 1 := ht
  rcases Nat.lt_succ_iff_lt_or_eq.1 hi with h | rfl
  · rw [List.getElem?_set_ne (by omega)]; exact h2 i h t ht
  · obtain rfl : t = 0 := by omega
    rw [Nat.mul_one, Nat.add_zero, List.getElem?_set_self (by omega)]; rfl
theorem one_reads1 {w : World} {g : Nat} {t : TypeId} {v : Value} (h : Blk w g t #[v]) : Reads w (fun _ => True) true 1 (some ⟨g, 0, none⟩) 1 [v] := by
  refine ⟨by rfl, fun _ => ⟨_, rfl, rfl, trivial, h.lt, fun j u hu => ⟨?_, fun _ => h.free _⟩⟩⟩
  rw [h.cell, Nat.zero_add]; simpa using hu
theorem on_set1 {ys : List Value} (h : ∀ u ∈ ys, u.oneCell' = true) (i : Nat) {v : Value} (hv : v.oneCell' = true) : ∀ u ∈ ys.set i v, u.oneCell' = true := by
  intro u hu
  rcases List.mem_or_eq_of_mem_set hu with hu | rfl
  · exact h u hu
  · exact hv
end Go.Proofs.Ytmkidkfofbnjgaa
