/- The builtins copy and clear on a row that is known whole, elements of any size. Over whatever program. A slice that owns what it looks at: from any place of its block on. Plain lemmas over whatever program. Words on slices that were wanted later. -/
import Derived.Test.YtmkidkfofbnjgaaSeqJn
import Derived.Laws.CopyRow
import Derived.ArgAppend
namespace Go.Proofs.Ytmkidkfofbnjgaa
open Go.RowKit

theorem Blk.row {w : World} {g : Nat} {t : TypeId} {cur : Array Value} (h : Blk w g t cur) (cs : Array Value) : Blk (w.setRow g cs) g t cs := setRow_heap w g _ _ t _ h
theorem Keeps.row {fp : Nat → Prop} {a b : World} (h : Keeps fp a b) {g : Nat} (hg : fp g ∨ a.heap.size ≤ g) (cs : Array Value) : Keeps fp a (b.setRow g cs) :=
  ⟨h.os, h.tape, h.output, by simpa [World.setRow] using h.size, fun k hk hn => (setRow_other b g k cs (by
    rintro rfl
    rcases hg with hg | hg
    · exact hn hg
    · omega)).trans (h.block k hk hn)⟩

section
variable {P : Program} (w : World)
theorem run_copy_blk (dT sT ty t e : TypeId) (i : TypeInfo) (ht : P.underlying dT = some (.slice e)) (hi : P.info? e = some i) (size : Nat) (hsize : i.size = size) (g o : Nat) (cur : Array Value) (hb : Blk w g t cur)
    (dl dc sl sc m : Nat) (sp : Option Addr) (cs : List Value) (hm : Nat.min sl dl = m) (hcs : cs.length = m * size)
    (hsrc : 0 < m → ∃ ad, sp = some ad ∧ ad.spot = none ∧ ∀ j u, cs[j]? = some u → w.cell? ⟨ad.block, ad.off + j, none⟩ = some u) (hfit : o + cs.length ≤ cur.size) (h1 : ∀ u ∈ cs, u.oneCell' = true) :
    (Builtin.copy_ #[dT, sT] ty #[.slice (some ⟨g, o, none⟩) dl dc, .slice sp sl sc]).run P w =
      .ok (.int .i64 m) (w.setRow g (cur.toList.take o ++ cs ++ cur.toList.drop (o + cs.length)).toArray) := by
  subst hsize
  have hst := run_storeCells_at P g o t cs 0 cur w hb (by simpa using hfit) h1
  simp only [Nat.add_zero] at hst
  have hf : (Builtin.firstCells i.size m (.slice sp sl sc)).run P w = .ok cs.toArray w := by
    by_cases h0 : m = 0
    · subst h0
      have : cs = [] := List.eq_nil_of_length_eq_zero (by simpa using hcs)
      subst this
      rcases sp with _ | ad
      · simp [Builtin.firstCells]
      · simp [Builtin.firstCells, loadCells, loadCellsFrom]
    · obtain ⟨ad, rfl, hs, hc⟩ := hsrc (by omega)
      exact run_firstCells_some (P := P) w i.size m ad sl sc cs hcs (fun j u hu => by rw [Addr.add_eq _ _ hs]; exact hc j u hu)
  simp [Builtin.copy_, run_underlying ht, sizeOf, typeInfo, hi, Builtin.lenOf, hm, hf, hst, goInt]

theorem step_copy_blk {ops : Array Oper} {o : Oper} {a : Act} {K : Act → World → Prop} {Q : Exit → Act → World → Prop} {E : Prop} (hgd : o.guard = none) (d s : Operand) (dT sT : TypeId)
    (ho : o.op = .call { callee := .builtin .copy, args := #[d, s], argTypes := #[dT, sT] }) (t e : TypeId) (i : TypeInfo) (ht : P.underlying dT = some (.slice e)) (hi : P.info? e = some i) (size : Nat) (hsize : i.size = size)
    (g off : Nat) (cur : Array Value) (hb : Blk w g t cur) (dl dc sl sc m : Nat) (sp : Option Addr) (hd : a.eval d = .slice (some ⟨g, off, none⟩) dl dc) (hs : a.eval s = .slice sp sl sc) (cs : List Value) (hm : Nat.min sl dl = m) (hcs : cs.length = m * size)
    (hsrc : 0 < m → ∃ ad, sp = some ad ∧ ad.spot = none ∧ ∀ j u, cs[j]? = some u → w.cell? ⟨ad.block, ad.off + j, none⟩ = some u) (hfit : off + cs.length ≤ cur.size) (h1 : ∀ u ∈ cs, u.oneCell' = true)
    (h : K (a.put o.dst (.int .i64 m)) (w.setRow g (cur.toList.take off ++ cs ++ cur.toList.drop (off + cs.length)).toArray)) :
    if Region.wanted o (yielded ops a.tmps) = true then Oper.wp P o a w K Q else E := by
  have hw : Region.wanted o (yielded ops a.tmps) = true := by simp [Region.wanted, hgd]
  rw [if_pos hw]
  have hrun := run_copy_blk (P := P) w dT sT o.type t e i ht hi size hsize g off cur hb dl dc sl sc m sp cs hm hcs hsrc hfit h1
  unfold Oper.wp execOp
  simp only [ho, resolve, invoke, builtin, Sem.run_bind, Sem.run_pure, Result.andThen_ok, List.map_toArray, List.map_cons, List.map_nil, hd, hs, hrun]
  exact h

theorem run_clear_blk (dT ty t e : TypeId) (ht : P.underlying dT = some (.slice e)) (z : Value) (size : Nat) (hz : ∀ w, (zeroValue e).run P w = .ok z w) (hzs : z.cells.size = size) (hz1 : ∀ u ∈ z.cells.toList, u.oneCell' = true) (g o : Nat) (cur : Array Value) (hb : Blk w g t cur)
    (dc : Nat) (hfit : o + size ≤ cur.size) :
    (Builtin.clear_ #[dT] ty #[.slice (some ⟨g, o, none⟩) 1 dc]).run P w =
      .ok (.tuple #[]) (w.setRow g (cur.toList.take o ++ z.cells.toList ++ cur.toList.drop (o + size)).toArray) := by
  subst hzs
  have hzc : (Builtin.zeroCells z.cells 1).toList = z.cells.toList := by
    apply List.ext_getElem?
    intro j
    simp only [Builtin.zeroCells, Nat.one_mul]
    by_cases hj : j < z.cells.size
    · simp [hj, Nat.mod_eq_of_lt hj]
    · simp [hj]
  have hst := run_storeCells_at P g o t z.cells.toList 0 cur w hb (by simpa using hfit) hz1
  simp only [Nat.add_zero, Array.length_toList] at hst
  simp [Builtin.clear_, run_underlying ht, hz, hzc, hst]
end

theorem wpList_clear_blk {P : Program} (w : World) {ops : Array Oper} {rest : List Oper} {o : Oper} {a : Act} {Q : Exit → Act → World → Prop} (hgd : o.guard = none) (d : Operand) (dT : TypeId)
    (ho : o.op = .call { callee := .builtin .clear, args := #[d], argTypes := #[dT] }) (t e : TypeId) (ht : P.underlying dT = some (.slice e)) (z : Value) (size : Nat) (hz : ∀ w, (zeroValue e).run P w = .ok z w) (hzs : z.cells.size = size) (hz1 : ∀ u ∈ z.cells.toList, u.oneCell' = true)
    (g off : Nat) (cur : Array Value) (hb : Blk w g t cur) (dl dc : Nat) (hdl : dl = 1) (hd : a.eval d = .slice (some ⟨g, off, none⟩) dl dc) (hfit : off + size ≤ cur.size)
    (h : wpList P ops Q rest (a.put o.dst (.tuple #[])) (w.setRow g (cur.toList.take off ++ z.cells.toList ++ cur.toList.drop (off + size)).toArray)) : wpList P ops Q (o :: rest) a w := by
  subst hdl
  refine wpList_plain hgd fun K hK => ?_
  have hrun := run_clear_blk (P := P) w dT o.type t e ht z size hz hzs hz1 g off cur hb dc hfit
  unfold Oper.wp execOp
  simp only [ho, resolve, invoke, builtin, Sem.run_bind, Sem.run_pure, Result.andThen_ok, List.map_toArray, List.map_cons, List.map_nil, hd, hrun]
  exact hK _ _ h

theorem flat_drop {k : Nat} : ∀ {css : List (List Value)}, (∀ c ∈ css, c.length = k) → ∀ i, (css.drop i).flatten = css.flatten.drop (i * k)
  | [], _, i => by simp
  | c :: css, h, i => by
    cases i with
    | zero => simp
    | succ i =>
      have hc := h c List.mem_cons_self
      rw [List.drop_succ_cons, List.flatten_cons, flat_drop (fun d hd => h d (List.mem_cons_of_mem _ hd)) i, Nat.add_mul, Nat.one_mul, Nat.add_comm (i * k) k, ← List.drop_drop, ← hc, List.drop_left]
theorem flat_take {k : Nat} : ∀ {css : List (List Value)}, (∀ c ∈ css, c.length = k) → ∀ i, (css.take i).flatten = css.flatten.take (i * k)
  | [], _, i => by simp
  | c :: css, h, i => by
    cases i with
    | zero => simp
    | succ i =>
      have hc := h c List.mem_cons_self
      rw [List.take_succ_cons, List.flatten_cons, List.flatten_cons, flat_take (fun d hd => h d (List.mem_cons_of_mem _ hd)) i, Nat.add_mul, Nat.one_mul, Nat.add_comm (i * k) k, ← hc, List.take_length_add_append]
end Go.Proofs.Ytmkidkfofbnjgaa
namespace Go.Proofs.Ytmkidkfofbnjgaa
open Go.RowKit

/-- A slice (its address, length, capacity): it has n elements of so many cells each, these; and its block is known whole, with room up to the capacity. -/
def Slab (w : World) (e : TypeId) (size : Nat) (A : Option Addr) (n c : Nat) (xs : List Value) : Prop :=
  xs.length = n * size ∧ n ≤ c ∧ c ≤ maxLen ∧ ((A = none ∧ c = 0) ∨ ∃ g o cur, A = some ⟨g, o, none⟩ ∧ Blk w g e cur ∧ o + c * size ≤ cur.size ∧ (cur.toList.drop o).take (n * size) = xs)

/-- The block that a slice's address names. -/
def rowB (A : Option Addr) (k : Nat) : Prop := ∃ o, A = some ⟨k, o, none⟩
/-- In the same block, or in a new one. -/
def Moved (w : World) (A A' : Option Addr) : Prop := ∀ k, rowB A' k → rowB A k ∨ w.heap.size ≤ k
theorem Moved.same (w : World) (A : Option Addr) : Moved w A A := fun _ h => .inl h
theorem Moved.new {w : World} {A A' : Option Addr} (h : ∀ k, rowB A' k → w.heap.size ≤ k) : Moved w A A' := fun k hk => .inr (h k hk)
theorem Moved.trans {w w' : World} {A A' A'' : Option Addr} (h : Moved w A A') (hs : w.heap.size ≤ w'.heap.size) (h2 : Moved w' A' A'') : Moved w A A'' := fun k hk => (h2 k hk).elim (fun h3 => h k h3) (fun h3 => .inr (Nat.le_trans hs h3))

section
variable {w w' : World} {e : TypeId} {size n c : Nat} {A : Option Addr} {xs : List Value} {fp : Nat → Prop}
theorem Slab.nil (w : World) (e : TypeId) (size : Nat) : Slab w e size none 0 0 [] := ⟨by simp, Nat.le_refl _, by omega, .inl ⟨rfl, rfl⟩⟩
theorem Slab.keep (h : Slab w e size A n c xs) (hk : Keeps fp w w') (hf : ∀ k, rowB A k → ¬ fp k) : Slab w' e size A n c xs := by
  refine ⟨h.1, h.2.1, h.2.2.1, ?_⟩
  rcases h.2.2.2 with h0 | ⟨g, o, cur, rfl, hb, h1, h2⟩
  · exact .inl h0
  · exact .inr ⟨g, o, cur, rfl, hb.keep hk (hf g ⟨o, rfl⟩), h1, h2⟩
theorem Slab.fresh (h : Slab w e size A n c xs) (hk : Keeps NoB w w') : Slab w' e size A n c xs := h.keep hk (fun _ _ => id)
theorem Slab.drew (h : Slab w e size A n c xs) : Slab w.drew e size A n c xs := h.fresh ((Keeps.refl NoB w).drew)
theorem Slab.ne (h : Slab w e size A n c xs) {b : Nat} {t : TypeId} {cs : Array Value} (hb : Blk w b t cs) (hne : e ≠ t) : ¬ rowB A b := by
  rintro ⟨o, rfl⟩
  rcases h.2.2.2 with ⟨h0, _⟩ | ⟨g, o', cur, h0, h1, _⟩
  · cases h0
  · injection h0 with h0; injection h0 with h0; subst h0; exact hne (Blk.one h1 hb).1
theorem Slab.lt (h : Slab w e size A n c xs) {k : Nat} (hk : rowB A k) : k < w.heap.size := by
  obtain ⟨o, rfl⟩ := hk
  rcases h.2.2.2 with ⟨h0, _⟩ | ⟨g, o', cur, h0, h1, _⟩
  · cases h0
  · injection h0 with h0; injection h0 with h0; subst h0; exact h1.lt
theorem Slab.reads (h : Slab w e size A n c xs) : Reads w (rowB A) true size A n xs := by
  refine ⟨h.1, fun hn => ?_⟩
  rcases h.2.2.2 with ⟨rfl, h0⟩ | ⟨g, o, cur, rfl, hb, h1, h2⟩
  · have := h.2.1; omega
  · refine ⟨_, rfl, rfl, ⟨o, rfl⟩, hb.lt, fun j u hu => ⟨?_, fun _ => hb.free _⟩⟩
    rw [hb.cell, ← Array.getElem?_toList]
    rw [← h2, List.getElem?_take] at hu
    split at hu
    · rw [List.getElem?_drop] at hu; exact hu
    · cases hu
/-- What the kit's law of an append leaves, as such a slice. -/
theorem Slab.of_own {base : Nat} {v : Value} (h : w.ownsRow base e size v n xs) : ∃ A c, v = .slice A n c ∧ Slab w e size A n c xs := by
  rcases h.2 with ⟨rfl, rfl⟩ | ⟨g, cap, cur, rfl, hb, hg, hnc, hcm, hcs, htake⟩
  · exact ⟨none, 0, rfl, h.1, Nat.le_refl _, Nat.zero_le _, .inl ⟨rfl, rfl⟩⟩
  · exact ⟨_, _, rfl, h.1, hnc, hcm, .inr ⟨g, 0, cur, rfl, hg, by omega, by simpa using htake⟩⟩
end
/-- Cells laid over a row, from a place on. -/
def splice (cur : Array Value) (o : Nat) (xs : List Value) : Array Value := (cur.toList.take o ++ xs ++ cur.toList.drop (o + xs.length)).toArray
theorem splice_size {cur : Array Value} {o : Nat} {xs : List Value} (h : o + xs.length ≤ cur.size) : (splice cur o xs).size = cur.size := by
  unfold splice
  simp only [List.size_toArray, List.length_append, List.length_take, List.length_drop, Array.length_toList]
  omega
theorem splice_get {cur : Array Value} {o : Nat} {xs : List Value} (h : o + xs.length ≤ cur.size) (j : Nat) : (splice cur o xs)[j]? = if j < o then cur[j]? else if j < o + xs.length then xs[j - o]? else cur[j]? := by
  unfold splice
  rw [List.getElem?_toArray]
  have hl : (cur.toList.take o).length = o := by rw [List.length_take, Array.length_toList]; omega
  split
  · rename_i hj
    rw [List.append_assoc, List.getElem?_append_left (by omega), List.getElem?_take_of_lt hj, Array.getElem?_toList]
  · rename_i hj
    split
    · rename_i hj2
      rw [List.append_assoc, List.getElem?_append_right (by omega), hl, List.getElem?_append_left (by omega)]
    · rename_i hj2
      rw [List.getElem?_append_right (by rw [List.length_append]; omega), List.length_append, hl, List.getElem?_drop, Array.getElem?_toList]
      congr 1
      omega
/-- What a window of the row reads as: cell by cell. -/
theorem window_eq {cur : Array Value} {o k : Nat} {xs : List Value} (hl : xs.length = k) (hk : o + k ≤ cur.size) (h : ∀ j, j < k → cur[o + j]? = xs[j]?) : (cur.toList.drop o).take k = xs := by
  apply List.ext_getElem?
  intro j
  rw [List.getElem?_take]
  split
  · rename_i hj
    rw [List.getElem?_drop, Array.getElem?_toList]; exact h j hj
  · rename_i hj
    exact (List.getElem?_eq_none (by omega)).symm
theorem window_get {cur : Array Value} {o k : Nat} {xs : List Value} (h : (cur.toList.drop o).take k = xs) {j : Nat} (hj : j < k) : cur[o + j]? = xs[j]? := by
  rw [← h, List.getElem?_take_of_lt hj, List.getElem?_drop, Array.getElem?_toList]

theorem Slab.mk' {w : World} {e : TypeId} {size n c g o : Nat} {cur : Array Value} {xs : List Value} (hl : xs.length = n * size) (hn : n ≤ c) (hm : c ≤ maxLen) (hb : Blk w g e cur) (hs : o + c * size ≤ cur.size) (h : ∀ j, j < n * size → cur[o + j]? = xs[j]?) : Slab w e size (some ⟨g, o, none⟩) n c xs :=
  ⟨hl, hn, hm, .inr ⟨g, o, cur, rfl, hb, hs, window_eq hl (by have := Nat.mul_le_mul_right size hn; omega) h⟩⟩

/-- A part of such a slice. -/
theorem Slab.from {w : World} {e : TypeId} {size n c g o i : Nat} {xs : List Value} (h : Slab w e size (some ⟨g, o, none⟩) n c xs) (hi : i ≤ n) : Slab w e size (some ⟨g, if c = i then o else o + i * size, none⟩) (n - i) (c - i) (xs.drop (i * size)) := by
  obtain ⟨hl, hn, hm, ⟨h0, _⟩ | ⟨g', o', cur, h0, hb, hs, hw⟩⟩ := h
  · cases h0
  · injection h0 with h0; injection h0 with h0 h1; subst h0; subst h1
    have e1 : (n - i) * size + i * size = n * size := by rw [← Nat.add_mul]; congr 1; omega
    have e2 : (c - i) * size + i * size = c * size := by rw [← Nat.add_mul]; congr 1; omega
    refine Slab.mk' (by rw [List.length_drop, hl]; omega) (by omega) (by omega) hb (by split <;> omega) (fun j hj => ?_)
    have hne : ¬ c = i := by
      rintro rfl
      have : n - c = 0 := by omega
      rw [this] at hj; omega
    rw [if_neg hne, List.getElem?_drop, Nat.add_assoc]
    exact window_get hw (by omega)
theorem Slab.upto {w : World} {e : TypeId} {size n c i : Nat} {A : Option Addr} {xs : List Value} (h : Slab w e size A n c xs) (hi : i ≤ n) : Slab w e size A i c (xs.take (i * size)) := by
  obtain ⟨hl, hn, hm, ⟨rfl, rfl⟩ | ⟨g, o, cur, rfl, hb, hs, hw⟩⟩ := h
  · obtain rfl : i = 0 := by omega
    exact ⟨by simp, by omega, hm, .inl ⟨rfl, rfl⟩⟩
  · have := Nat.mul_le_mul_right size hi
    refine Slab.mk' (by rw [List.length_take, hl]; omega) (by omega) hm hb hs (fun j hj => ?_)
    rw [List.getElem?_take_of_lt hj]
    exact window_get hw (by omega)

section
variable {P : Program} (w : World)
theorem run_append_slab (t ty e : TypeId) (i : TypeInfo) (z : Value) (size bytes : Nat) (ht : P.underlying t = some (.slice e)) (hi : P.info? e = some i) (hz : i.zero = some z)
    (hsize : i.size = size) (hby : i.bytes = bytes) (hzs : z.cells.size = size) (hsz : 0 < size)
    (A : Option Addr) (n c : Nat) (xs : List Value) (hs : Slab w e size A n c xs)
    (B : Nat → Prop) (F : Bool) (A2 : Option Addr) (m c2 : Nat) (news : List Value) (hr : Reads w B F size A2 m news) (hm0 : 0 < m) (h1 : ∀ u ∈ news, u.oneCell' = true)
    (h63 : n + m ≤ maxLen) (hbytes : (n + m) * bytes ≤ 140737488355328) :
    ∃ A' c' w', (Builtin.append_ #[t, t] ty #[.slice A n c, .slice A2 m c2]).run P w = .ok (.slice A' (n + m) c') w' ∧ Slab w' e size A' (n + m) c' (xs ++ news) ∧ Keeps (rowB A) w w' ∧ Moved w A A' := by
  obtain ⟨ad, rfl, hsp, _, _, hc⟩ := hr.2 hm0
  have hnews : ∀ j u, news[j]? = some u → w.cell? (ad.add j) = some u := fun j u hu => by rw [Addr.add_eq _ _ hsp]; exact (hc j u hu).1
  by_cases hroom : n + m ≤ c
  · obtain ⟨hl, hn, hm, ⟨rfl, rfl⟩ | ⟨g, o, cur, rfl, hb, hsc, hw⟩⟩ := hs
    · omega
    · subst hsize
      have hmul : (n + m) * i.size ≤ c * i.size := Nat.mul_le_mul_right _ hroom
      have hlen : news.length = m * i.size := hr.1
      have hadd : (n + m) * i.size = n * i.size + m * i.size := Nat.add_mul _ _ _
      have hfit : o + n * i.size + news.length ≤ cur.size := by omega
      have hf := run_firstCells_some (P := P) w i.size m ad m c2 news hlen hnews
      have hst := run_storeCells_at P g (o + n * i.size) e news 0 cur w hb (by simpa using hfit) h1
      simp only [Nat.add_zero] at hst
      refine ⟨some ⟨g, o, none⟩, c, w.setRow g (splice cur (o + n * i.size) news), ?_, ?_, (Keeps.refl _ w).row (.inl ⟨o, rfl⟩) _, Moved.same _ _⟩
      · simp [Builtin.append_, run_underlying ht, sizeOf, typeInfo, hi, Builtin.lenOf, hroom, hf, Addr.add_lit, hst, splice]
      · refine Slab.mk' (by rw [List.length_append, hl, hlen, hadd]) hroom hm (hb.row _) (by rw [splice_size hfit]; omega) (fun j hj => ?_)
        rw [splice_get hfit]
        split
        · rename_i hj1
          rw [List.getElem?_append_left (by omega)]; exact window_get hw (by omega)
        · rename_i hj1
          rw [if_pos (by omega), List.getElem?_append_right (by omega), hl]
          congr 1; omega
  · have hfin : ∃ v' w', (Builtin.append_ #[t, t] ty #[.slice A n c, .slice (some ad) m c2]).run P w = .ok v' w' ∧ w'.ownsRow w.heap.size e size v' (n + m) (xs ++ news) ∧ Keeps NoB w w' := by
      obtain ⟨hl, hn, hm, ⟨rfl, rfl⟩ | ⟨g, o, cur, rfl, hb, hsc, hw⟩⟩ := id hs
      · obtain rfl : n = 0 := by omega
        obtain rfl : xs = [] := List.eq_nil_of_length_eq_zero (by simpa using hl)
        obtain ⟨v', w', hrun, r1, r2, _⟩ := run_append_own (P := P) w w.heap.size t ty e i z size bytes ht hi hz hsize hby hzs hsz (.slice none 0 0) 0 [] (World.ownsRow_nil w _ e size) ad m c2 news hr.1 hnews h1 h63 hbytes (Nat.le_refl _)
        exact ⟨v', w', hrun, r1, (Keeps.refl NoB w).grown r2 (fun k h _ => by cases h)⟩
      · obtain ⟨v', w', hrun, r1, r2⟩ := run_append_arg_grows (P := P) w t ty e i z size bytes ht hi hz hsize hby hzs hsz ⟨g, o, none⟩ n c xs hl (fun j u hj => by
            have := (hs.reads.2 (by have := (List.getElem?_eq_some_iff.1 hj).1; rcases Nat.eq_zero_or_pos n with h0 | h0; (rw [h0] at hl; simp at hl; subst hl; simp at hj); exact h0))
            obtain ⟨ad', e', _, _, _, hc'⟩ := this
            injection e' with e'; subst e'
            rw [Addr.add_lit]; exact (hc' j u hj).1) ad m c2 news hr.1 hnews (by omega) h63 hbytes
        exact ⟨v', w', hrun, r1, (Keeps.refl NoB w).grown r2 (fun k h _ => by cases h)⟩
    obtain ⟨v', w', hrun, r1, r2⟩ := hfin
    obtain ⟨A', c', rfl, r3⟩ := Slab.of_own r1
    refine ⟨A', c', w', hrun, r3, r2.mono (fun _ _ h => h.elim), Moved.new ?_⟩
    rintro k ⟨o, rfl⟩
    exact (r1.lt k rfl).1

theorem wpList_append_slab {ops : Array Oper} {rest : List Oper} {o : Oper} {a : Act} {Q : Exit → Act → World → Prop} (hgd : o.guard = none) (s x : Operand) (t : TypeId)
    (ho : o.op = .call { callee := .builtin .append, args := #[s, x], argTypes := #[t, t] })
    (e : TypeId) (i : TypeInfo) (z : Value) (size bytes : Nat) (ht : P.underlying t = some (.slice e)) (hi : P.info? e = some i) (hz : i.zero = some z)
    (hsize : i.size = size) (hby : i.bytes = bytes) (hzs : z.cells.size = size) (hsz : 0 < size)
    (A : Option Addr) (n c : Nat) (xs : List Value) (he : a.eval s = .slice A n c) (hs : Slab w e size A n c xs)
    (B : Nat → Prop) (F : Bool) (A2 : Option Addr) (m c2 : Nat) (news : List Value) (hx : a.eval x = .slice A2 m c2) (hr : Reads w B F size A2 m news) (hm0 : 0 < m) (h1 : ∀ u ∈ news, u.oneCell' = true)
    (h63 : n + m ≤ maxLen) (hbytes : (n + m) * bytes ≤ 140737488355328)
    (h : ∀ A' c' w', Slab w' e size A' (n + m) c' (xs ++ news) → Keeps (rowB A) w w' → Moved w A A' → wpList P ops Q rest (a.put o.dst (.slice A' (n + m) c')) w') : wpList P ops Q (o :: rest) a w := by
  obtain ⟨A', c', w', hrun, h2, h3, h4⟩ := run_append_slab (P := P) w t o.type e i z size bytes ht hi hz hsize hby hzs hsz A n c xs hs B F A2 m c2 news hr hm0 h1 h63 hbytes
  refine wpList_plain hgd fun _ hK => ?_
  unfold Oper.wp execOp
  simp only [ho, resolve, invoke, builtin, Sem.run_bind, Sem.run_pure, Result.andThen_ok, List.map_toArray, List.map_cons, List.map_nil, he, hx, hrun]
  exact hK _ _ (h A' c' w' h2 h3 h4)
end

section
variable {P : Program} (w : World)
theorem wpList_copy_blk {ops : Array Oper} {rest : List Oper} {o : Oper} {a : Act} {Q : Exit → Act → World → Prop} (hgd : o.guard = none) (d s : Operand) (dT sT : TypeId)
    (ho : o.op = .call { callee := .builtin .copy, args := #[d, s], argTypes := #[dT, sT] }) (t e : TypeId) (i : TypeInfo) (ht : P.underlying dT = some (.slice e)) (hi : P.info? e = some i) (size : Nat) (hsize : i.size = size)
    (g off : Nat) (cur : Array Value) (hb : Blk w g t cur) (dl dc sl sc m : Nat) (sp : Option Addr) (hd : a.eval d = .slice (some ⟨g, off, none⟩) dl dc) (hs : a.eval s = .slice sp sl sc) (cs : List Value) (hm : Nat.min sl dl = m) (hcs : cs.length = m * size)
    (hsrc : 0 < m → ∃ ad, sp = some ad ∧ ad.spot = none ∧ ∀ j u, cs[j]? = some u → w.cell? ⟨ad.block, ad.off + j, none⟩ = some u) (hfit : off + cs.length ≤ cur.size) (h1 : ∀ u ∈ cs, u.oneCell' = true)
    (h : wpList P ops Q rest (a.put o.dst (.int .i64 m)) (w.setRow g (splice cur off cs))) : wpList P ops Q (o :: rest) a w := by
  refine wpList_plain hgd fun _ hK => ?_
  have hrun := run_copy_blk (P := P) w dT sT o.type t e i ht hi size hsize g off cur hb dl dc sl sc m sp cs hm hcs hsrc hfit h1
  unfold Oper.wp execOp
  simp only [ho, resolve, invoke, builtin, Sem.run_bind, Sem.run_pure, Result.andThen_ok, List.map_toArray, List.map_cons, List.map_nil, hd, hs, hrun]
  exact hK _ _ h
end

/-- A row with a piece laid between: the rest first, or the piece first. -/
theorem laid_between {cur : Array Value} {o a b d : Nat} {T X D : List Value} (hT : T.length = a) (hX : X.length = b) (hD : D.length = d) (hs : o + a + b + d ≤ cur.size) (h : ∀ j, j < a → cur[o + j]? = T[j]?) (j : Nat) (hj : j < a + b + d) :
    (splice (splice cur (o + a + b) D) (o + a) X)[o + j]? = (T ++ (X ++ D))[j]? ∧ (splice (splice cur (o + a) X) (o + a + b) D)[o + j]? = (T ++ (X ++ D))[j]? := by
  have s1 : o + a + b + D.length ≤ cur.size := by omega
  have s2 : o + a + X.length ≤ cur.size := by omega
  have z1 := splice_size s1
  have z2 := splice_size s2
  rw [splice_get (by rw [z1]; exact s2), splice_get s1, splice_get (by rw [z2]; exact s1), splice_get s2]
  rcases (by omega : j < a ∨ a ≤ j ∧ j < a + b ∨ a + b ≤ j) with hc | ⟨hc, hc2⟩ | hc
  · rw [List.getElem?_append_left (by omega), if_pos (by omega), if_pos (by omega), if_pos (by omega), if_pos (by omega)]
    exact ⟨h j hc, h j hc⟩
  · rw [List.getElem?_append_right (by omega), List.getElem?_append_left (by omega), hT, if_neg (by omega), if_pos (by omega), if_pos (by omega), if_neg (by omega), if_pos (by omega)]
    constructor <;> congr 1 <;> omega
  · rw [List.getElem?_append_right (by omega), List.getElem?_append_right (by omega), hT, hX, if_neg (by omega), if_neg (by omega), if_neg (by omega), if_pos (by omega), if_neg (by omega), if_pos (by omega)]
    constructor <;> congr 1 <;> omega

section
variable {P : Program} (w : World)
/-- append where there is room: the same place; the source may be empty. -/
theorem run_append_room_slab (t ty e : TypeId) (i : TypeInfo) (size : Nat) (ht : P.underlying t = some (.slice e)) (hi : P.info? e = some i) (hsize : i.size = size)
    (A : Option Addr) (n c : Nat) (xs : List Value) (hs : Slab w e size A n c xs)
    (B : Nat → Prop) (F : Bool) (A2 : Option Addr) (m c2 : Nat) (news : List Value) (hr : Reads w B F size A2 m news) (h1 : ∀ u ∈ news, u.oneCell' = true) (hroom : n + m ≤ c) :
    ∃ w', (Builtin.append_ #[t, t] ty #[.slice A n c, .slice A2 m c2]).run P w = .ok (.slice A (n + m) c) w' ∧ Slab w' e size A (n + m) c (xs ++ news) ∧ Keeps (rowB A) w w' := by
  subst hsize
  rcases Nat.eq_zero_or_pos m with rfl | hm0
  · obtain rfl : news = [] := List.eq_nil_of_length_eq_zero (by simpa using hr.1)
    refine ⟨w, ?_, by simpa using hs, Keeps.refl _ _⟩
    have hst : ∀ (a : Addr), (storeCells a [] 0).run P w = .ok () w := fun a => by simp [storeCells]
    have hcc : n ≤ c := hs.2.1
    have hf : (Builtin.firstCells i.size 0 (.slice A2 0 c2)).run P w = .ok #[] w := by
      rcases A2 with _ | ad
      · simp [Builtin.firstCells]
      · simp [Builtin.firstCells, loadCells, loadCellsFrom]
    rcases A with _ | ad
    · obtain ⟨_, _, _, ⟨_, rfl⟩ | ⟨g, o, cur, h0, _⟩⟩ := hs
      · obtain rfl : n = 0 := by omega
        simp [Builtin.append_, run_underlying ht, sizeOf, typeInfo, hi, Builtin.lenOf, hf]
      · cases h0
    · simp [Builtin.append_, run_underlying ht, sizeOf, typeInfo, hi, Builtin.lenOf, hf, hcc, storeCells]
  · obtain ⟨hl, hn, hm, ⟨rfl, rfl⟩ | ⟨g, o, cur, rfl, hb, hsc, hw⟩⟩ := hs
    · omega
    · obtain ⟨ad, rfl, hsp, _, _, hc⟩ := hr.2 hm0
      have hnews : ∀ j u, news[j]? = some u → w.cell? (ad.add j) = some u := fun j u hu => by rw [Addr.add_eq _ _ hsp]; exact (hc j u hu).1
      have hmul : (n + m) * i.size ≤ c * i.size := Nat.mul_le_mul_right _ hroom
      have hlen : news.length = m * i.size := hr.1
      have hadd : (n + m) * i.size = n * i.size + m * i.size := Nat.add_mul _ _ _
      have hfit : o + n * i.size + news.length ≤ cur.size := by omega
      have hf := run_firstCells_some (P := P) w i.size m ad m c2 news hlen hnews
      have hst := run_storeCells_at P g (o + n * i.size) e news 0 cur w hb (by simpa using hfit) h1
      simp only [Nat.add_zero] at hst
      refine ⟨w.setRow g (splice cur (o + n * i.size) news), ?_, ?_, (Keeps.refl _ w).row (.inl ⟨o, rfl⟩) _⟩
      · simp [Builtin.append_, run_underlying ht, sizeOf, typeInfo, hi, Builtin.lenOf, hroom, hf, Addr.add_lit, hst, splice]
      · refine Slab.mk' (by rw [List.length_append, hl, hlen, hadd]) hroom hm (hb.row _) (by rw [splice_size hfit]; omega) (fun j hj => ?_)
        rw [splice_get hfit]
        split
        · rename_i hj1
          rw [List.getElem?_append_left (by omega)]; exact window_get hw (by omega)
        · rename_i hj1
          rw [if_pos (by omega), List.getElem?_append_right (by omega), hl]
          congr 1; omega

theorem step_append_room_slab {ops : Array Oper} {o : Oper} {a : Act} {K : Act → World → Prop} {Q : Exit → Act → World → Prop} {E : Prop} (hgd : o.guard = none) (s x : Operand) (t : TypeId)
    (ho : o.op = .call { callee := .builtin .append, args := #[s, x], argTypes := #[t, t] })
    (e : TypeId) (i : TypeInfo) (size : Nat) (ht : P.underlying t = some (.slice e)) (hi : P.info? e = some i) (hsize : i.size = size)
    (A : Option Addr) (n c : Nat) (xs : List Value) (he : a.eval s = .slice A n c) (hs : Slab w e size A n c xs)
    (B : Nat → Prop) (F : Bool) (A2 : Option Addr) (m c2 : Nat) (news : List Value) (hx : a.eval x = .slice A2 m c2) (hr : Reads w B F size A2 m news) (h1 : ∀ u ∈ news, u.oneCell' = true) (hroom : n + m ≤ c)
    (h : ∀ w', Slab w' e size A (n + m) c (xs ++ news) → Keeps (rowB A) w w' → K (a.put o.dst (.slice A (n + m) c)) w') :
    if Region.wanted o (yielded ops a.tmps) = true then Oper.wp P o a w K Q else E := by
  have hw : Region.wanted o (yielded ops a.tmps) = true := by simp [Region.wanted, hgd]
  rw [if_pos hw]
  obtain ⟨w', hrun, h2, h3⟩ := run_append_room_slab (P := P) w t o.type e i size ht hi hsize A n c xs hs B F A2 m c2 news hr h1 hroom
  unfold Oper.wp execOp
  simp only [ho, resolve, invoke, builtin, Sem.run_bind, Sem.run_pure, Result.andThen_ok, List.map_toArray, List.map_cons, List.map_nil, he, hx, hrun]
  exact h w' h2 h3
end

/-- A cell laid behind what is looked at. -/
theorem Slab.behind {w : World} {e : TypeId} {size n c g o : Nat} {xs : List Value} (h : Slab w e size (some ⟨g, o, none⟩) n c xs) : ∃ cur, Blk w g e cur ∧ o + c * size ≤ cur.size ∧ ∀ k ys, n * size ≤ k → o + k + ys.length ≤ cur.size → Slab (w.setRow g (splice cur (o + k) ys)) e size (some ⟨g, o, none⟩) n c xs := by
  obtain ⟨hl, hn, hm, ⟨h0, _⟩ | ⟨g', o', cur, h0, hb, hsc, hw⟩⟩ := h
  · cases h0
  · injection h0 with h0; injection h0 with h0 h1; subst h0 h1
    refine ⟨cur, hb, hsc, fun k ys hk hfit => Slab.mk' hl hn hm (hb.row _) (by rw [splice_size hfit]; exact hsc) (fun j hj => ?_)⟩
    rw [splice_get hfit, if_pos (by omega)]
    exact window_get hw hj

/-- append onto such a slice, the source whatever reads, empty or not. -/
theorem wpList_append_any {P : Program} (w : World) {ops : Array Oper} {rest : List Oper} {o : Oper} {a : Act} {Q : Exit → Act → World → Prop} (hgd : o.guard = none) (s x : Operand) (t : TypeId)
    (ho : o.op = .call { callee := .builtin .append, args := #[s, x], argTypes := #[t, t] })
    (e : TypeId) (i : TypeInfo) (z : Value) (size bytes : Nat) (ht : P.underlying t = some (.slice e)) (hi : P.info? e = some i) (hz : i.zero = some z)
    (hsize : i.size = size) (hby : i.bytes = bytes) (hzs : z.cells.size = size) (hsz : 0 < size)
    (A : Option Addr) (n c : Nat) (xs : List Value) (he : a.eval s = .slice A n c) (hs : Slab w e size A n c xs)
    (B : Nat → Prop) (F : Bool) (A2 : Option Addr) (m c2 : Nat) (news : List Value) (hx : a.eval x = .slice A2 m c2) (hr : Reads w B F size A2 m news) (h1 : ∀ u ∈ news, u.oneCell' = true)
    (h63 : n + m ≤ maxLen) (hbytes : (n + m) * bytes ≤ 140737488355328)
    (h : ∀ A' c' w', Slab w' e size A' (n + m) c' (xs ++ news) → Keeps (rowB A) w w' → Moved w A A' → wpList P ops Q rest (a.put o.dst (.slice A' (n + m) c')) w') : wpList P ops Q (o :: rest) a w := by
  rcases Nat.eq_zero_or_pos m with rfl | hm
  · obtain ⟨w', hrun, h2, h3⟩ := run_append_room_slab (P := P) w t o.type e i size ht hi hsize A n c xs hs B F A2 0 c2 news hr h1 (by have := hs.2.1; omega)
    refine wpList_plain hgd fun _ hK => ?_
    unfold Oper.wp execOp
    simp only [ho, resolve, invoke, builtin, Sem.run_bind, Sem.run_pure, Result.andThen_ok, List.map_toArray, List.map_cons, List.map_nil, he, hx, hrun]
    exact hK _ _ (h A c w' h2 h3 (Moved.same _ _))
  · exact wpList_append_slab w hgd s x t ho e i z size bytes ht hi hz hsize hby hzs hsz A n c xs he hs B F A2 m c2 news hx hr hm h1 h63 hbytes h
end Go.Proofs.Ytmkidkfofbnjgaa
namespace Go.Proofs.Ytmkidkfofbnjgaa
open Go.RowKit

theorem Slab.put1 {w : World} {e : TypeId} {size n c g o j : Nat} {xs : List Value} (h : Slab w e size (some ⟨g, o, none⟩) n c xs) (hj : j < n * size) (v : Value) : Slab (w.setCell ⟨g, o + j, none⟩ v) e size (some ⟨g, o, none⟩) n c (xs.set j v) := by
  obtain ⟨hl, hn, hm, ⟨h0, _⟩ | ⟨g', o', cur, h0, hb, hs, hw⟩⟩ := h
  · cases h0
  · injection h0 with h0; injection h0 with h0 h1; subst h0; subst h1
    refine Slab.mk' (by simpa using hl) hn hm (hb.put (o + j) v) (by simpa using hs) (fun i hi => ?_)
    rw [Array.getElem?_setIfInBounds]
    by_cases e : j = i
    · subst e
      have hle := Nat.mul_le_mul_right size hn
      rw [if_pos (by omega), if_pos (by omega), List.getElem?_set_self (by omega)]
    · rw [if_neg (by omega), List.getElem?_set_ne e]
      exact window_get hw hi

theorem Slab.put7 {w : World} {g o c n m : Nat} {front : List Value} {z0 z1 z2 z3 z4 z5 z6 : Value} (h : Slab w 33 7 (some ⟨g, o, none⟩) m c (front ++ [z0, z1, z2, z3, z4, z5, z6])) (hf : front.length = n * 7) (hm : m = n + 1) (v0 v1 v2 v3 v4 v5 v6 : Value) :
    Slab (((((((w.setCell ⟨g, o + n * 7, none⟩ v0).setCell ⟨g, o + n * 7 + 1, none⟩ v1).setCell ⟨g, o + n * 7 + 2, none⟩ v2).setCell ⟨g, o + n * 7 + 3, none⟩ v3).setCell ⟨g, o + n * 7 + 4, none⟩ v4).setCell ⟨g, o + n * 7 + 5, none⟩ v5).setCell ⟨g, o + n * 7 + 6, none⟩ v6) 33 7 (some ⟨g, o, none⟩) m c (front ++ [v0, v1, v2, v3, v4, v5, v6]) := by
  have h7 := Slab.put1 (j := n * 7 + 6) (Slab.put1 (j := n * 7 + 5) (Slab.put1 (j := n * 7 + 4) (Slab.put1 (j := n * 7 + 3) (Slab.put1 (j := n * 7 + 2) (Slab.put1 (j := n * 7 + 1) (Slab.put1 (j := n * 7) h (by omega) v0) (by omega) v1) (by omega) v2) (by omega) v3) (by omega) v4) (by omega) v5) (by omega) v6
  have e : (((((((front ++ [z0, z1, z2, z3, z4, z5, z6]).set (n * 7) v0).set (n * 7 + 1) v1).set (n * 7 + 2) v2).set (n * 7 + 3) v3).set (n * 7 + 4) v4).set (n * 7 + 5) v5).set (n * 7 + 6) v6 = front ++ [v0, v1, v2, v3, v4, v5, v6] := by
    simp [← hf]
  rw [e] at h7
  exact h7

theorem step_append_any {P : Program} (w : World) {ops : Array Oper} {o : Oper} {a : Act} {K : Act → World → Prop} {Q : Exit → Act → World → Prop} {E : Prop} (hgd : o.guard = none) (s x : Operand) (t : TypeId)
    (ho : o.op = .call { callee := .builtin .append, args := #[s, x], argTypes := #[t, t] })
    (e : TypeId) (i : TypeInfo) (z : Value) (size bytes : Nat) (ht : P.underlying t = some (.slice e)) (hi : P.info? e = some i) (hz : i.zero = some z)
    (hsize : i.size = size) (hby : i.bytes = bytes) (hzs : z.cells.size = size) (hsz : 0 < size)
    (A : Option Addr) (n c : Nat) (xs : List Value) (he : a.eval s = .slice A n c) (hs : Slab w e size A n c xs)
    (B : Nat → Prop) (F : Bool) (A2 : Option Addr) (m c2 : Nat) (news : List Value) (hx : a.eval x = .slice A2 m c2) (hr : Reads w B F size A2 m news) (h1 : ∀ u ∈ news, u.oneCell' = true)
    (h63 : n + m ≤ maxLen) (hbytes : (n + m) * bytes ≤ 140737488355328)
    (h : ∀ A' c' w', Slab w' e size A' (n + m) c' (xs ++ news) → Keeps (rowB A) w w' → Moved w A A' → K (a.put o.dst (.slice A' (n + m) c')) w') :
    if Region.wanted o (yielded ops a.tmps) = true then Oper.wp P o a w K Q else E := by
  have hw : Region.wanted o (yielded ops a.tmps) = true := by simp [Region.wanted, hgd]
  rw [if_pos hw]
  have hrun : ∃ A' c' w', (Builtin.append_ #[t, t] o.type #[.slice A n c, .slice A2 m c2]).run P w = .ok (.slice A' (n + m) c') w' ∧ Slab w' e size A' (n + m) c' (xs ++ news) ∧ Keeps (rowB A) w w' ∧ Moved w A A' := by
    rcases Nat.eq_zero_or_pos m with rfl | hm
    · obtain ⟨w', h0, h2, h3⟩ := run_append_room_slab (P := P) w t o.type e i size ht hi hsize A n c xs hs B F A2 0 c2 news hr h1 (by have := hs.2.1; omega)
      exact ⟨A, c, w', h0, h2, h3, Moved.same _ _⟩
    · exact run_append_slab (P := P) w t o.type e i z size bytes ht hi hz hsize hby hzs hsz A n c xs hs B F A2 m c2 news hr hm h1 h63 hbytes
  obtain ⟨A', c', w', h0, h2, h3, h4⟩ := hrun
  unfold Oper.wp execOp
  simp only [ho, resolve, invoke, builtin, Sem.run_bind, Sem.run_pure, Result.andThen_ok, List.map_toArray, List.map_cons, List.map_nil, he, hx, h0]
  exact h A' c' w' h2 h3 h4

theorem Slab.made (w : World) (e : TypeId) (size : Nat) : Slab (w.alloc (.cells #[] e)) e size (some ⟨w.heap.size, 0, none⟩) 0 0 [] :=
  ⟨by simp, Nat.le_refl _, Nat.zero_le _, .inr ⟨w.heap.size, 0, #[], rfl, Blk.new w e #[], by simp, by simp⟩⟩
section
variable {P : Program} {ops : Array Oper} {Q : Exit → Act → World → Prop} {S T : World → Prop} {need : Nat → Bool}
theorem wpAnyN_more : ∀ (fuel : Nat) (listed : Array Bool) (a : Act) (w : World), S w → T w → wpAnyN P ops Q (fun W => S W ∧ T W) (fun _ => true) fuel listed a w → wpAnyN P ops Q S need fuel listed a w
  | 0, _, _, _, _, _, h => h
  | fuel + 1, _, _, _, hS, hT, h => ⟨h.1, fun i hi => wpOp_mono (fun a' w' h' => by
      have h2 := h'.1 rfl ⟨hS, hT⟩
      exact ⟨fun _ _ => h2.1, wpAnyN_more fuel _ a' w' h2.1 h2.2 h'.2⟩) (h.2 i hi)⟩
/-- A condition more, from here on. -/
theorem order_more {fuel : Nat} {done : List Nat} {a : Act} {w : World} (T : World → Prop) (hS : S w) (hT : T w) (h : Order P ops Q (fun W => S W ∧ T W) (fun _ => true) fuel done a w) : Order P ops Q S need fuel done a w :=
  fun listed hag => wpAnyN_more fuel listed a w hS hT (h listed hag)
end
end Go.Proofs.Ytmkidkfofbnjgaa
