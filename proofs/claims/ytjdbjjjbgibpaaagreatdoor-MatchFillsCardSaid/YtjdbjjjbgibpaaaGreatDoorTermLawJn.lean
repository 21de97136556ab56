/- Words for memory: what a step keeps, slices that read as lists of cells. Plain lemmas; no program in sight. A slice that owns what it looks at: from any place of its block on. Plain lemmas over whatever program. A region that draws its order: what only reads is taken first; what is left goes on in each order that its edges allow. Plain laws over whatever program. Words on slices that were wanted later. Terms as trees, and what cells read as them. A term's size, and whether it is right (term.size, as the program tells it). -/
import Derived.WalkKit
import Derived.WalkSpells
import Derived.WalkLawsBesides
import Derived.Deep.Draws
import Derived.Deep.AppendLies
import Derived.Maps.AppendAt
import Derived.Lib.Hide
import Derived.Laws.CopyRow
import Derived.ArgAppend
import Derived.OrdersHeld
import Derived.Tactics
import Derived.Tactics2
import Derived.Test.YtjdbjjjbgibpaaaGreatDoorRows
namespace Go.Proofs.YtjdbjjjbgibpaaaGreatDoor
open Go.RowKit

/-- A fact kept from the walk. -/
theorem hide {p : Prop} (h : p) : Hid p := h

/-- From w to w' nothing that was there has turned, but for the blocks of fp. -/
structure Keeps (fp : Nat → Prop) (w w' : World) : Prop where
  os : w'.os = w.os
  tape : w'.tape = w.tape
  output : w'.output = w.output
  size : w.heap.size ≤ w'.heap.size
  block : ∀ k, k < w.heap.size → ¬ fp k → w'.heap[k]? = w.heap[k]?

abbrev NoB : Nat → Prop := fun _ => False

theorem Keeps.refl (fp : Nat → Prop) (w : World) : Keeps fp w w := ⟨rfl, rfl, rfl, Nat.le_refl _, fun _ _ _ => rfl⟩
theorem Keeps.trans' {fp fp' fp'' : Nat → Prop} {a b c : World} (h : Keeps fp a b) (k : Keeps fp' b c) (h1 : ∀ i, i < a.heap.size → fp i → fp'' i) (h2 : ∀ i, i < a.heap.size → fp' i → fp'' i) : Keeps fp'' a c :=
  ⟨k.os.trans h.os, k.tape.trans h.tape, k.output.trans h.output, Nat.le_trans h.size k.size, fun i hi hn =>
    (k.block i (Nat.lt_of_lt_of_le hi h.size) (fun e => hn (h2 i hi e))).trans (h.block i hi (fun e => hn (h1 i hi e)))⟩
theorem Keeps.mono {fp fp' : Nat → Prop} {a b : World} (h : Keeps fp a b) (h1 : ∀ i, i < a.heap.size → fp i → fp' i) : Keeps fp' a b :=
  ⟨h.os, h.tape, h.output, h.size, fun i hi hn => h.block i hi (fun e => hn (h1 i hi e))⟩
theorem Keeps.drew {fp : Nat → Prop} {a b : World} (h : Keeps fp a b) : Keeps fp a b.drew := ⟨h.os, h.tape, h.output, h.size, h.block⟩
theorem Keeps.drewN {fp : Nat → Prop} {a b : World} (h : Keeps fp a b) (n : Nat) : Keeps fp a (b.drewN n) := ⟨h.os, h.tape, h.output, h.size, h.block⟩
theorem Keeps.alloc {fp : Nat → Prop} {a b : World} (h : Keeps fp a b) (o : Obj) : Keeps fp a (b.alloc o) :=
  ⟨h.os, h.tape, h.output, Nat.le_trans h.size (by simp), fun i hi hn => (Below.heap_alloc b o i (Nat.lt_of_lt_of_le hi h.size)).trans (h.block i hi hn)⟩
theorem Keeps.setCell {fp : Nat → Prop} {a b : World} (h : Keeps fp a b) {p : Addr} (hp : fp p.block ∨ a.heap.size ≤ p.block) (u : Value) : Keeps fp a (b.setCell p u) :=
  ⟨h.os, h.tape, h.output, by simpa [World.setCell] using h.size, fun i hi hn => (Below.heap_setCell b p u i (by
    rintro rfl
    rcases hp with hp | hp
    · exact hn hp
    · omega)).trans (h.block i hi hn)⟩
theorem Keeps.grown {fp : Nat → Prop} {a b c : World} {row : Option Nat} (h : Keeps fp a b) (hg : b.grownBy c row) (hr : ∀ k, row = some k → k < a.heap.size → fp k) : Keeps fp a c :=
  ⟨hg.os.trans h.os, hg.tape.trans h.tape, hg.output.trans h.output, Nat.le_trans h.size hg.size, fun i hi hn =>
    (hg.block i (Nat.lt_of_lt_of_le hi h.size) (fun e => hn (hr i e.symm hi))).trans (h.block i hi hn)⟩
theorem Keeps.of_below {a b : World} (h : Below a.heap.size a b) (fp : Nat → Prop) : Keeps fp a b := ⟨h.os, h.tape, h.output, h.size, fun i hi _ => h.block i hi⟩
theorem Keeps.below {a b : World} (h : Keeps NoB a b) : Below a.heap.size a b := ⟨h.os, h.tape, h.output, h.size, fun i hi => h.block i hi id⟩
theorem Keeps.cell {fp : Nat → Prop} {a b : World} (h : Keeps fp a b) {p : Addr} {v : Value} (hp : ¬ fp p.block) (hc : a.cell? p = some v) : b.cell? p = some v :=
  (World.cell?_of_block (h.block p.block (World.block_lt_of_cell? a p hc) hp)).trans hc
theorem Keeps.frozen {fp : Nat → Prop} {a b : World} (h : Keeps fp a b) {p : Addr} (hl : p.block < a.heap.size) (hp : ¬ fp p.block) : b.frozen? p = a.frozen? p :=
  World.frozen?_of_block (h.block p.block hl hp)

/-- Block g is just these cells, none frozen. -/
def Blk (w : World) (g : Nat) (t : TypeId) (cs : Array Value) : Prop := w.heap[g]? = some (.cells cs t (0, 0))
section
variable {w w' : World} {g : Nat} {t : TypeId} {cs : Array Value} {fp : Nat → Prop}
theorem Blk.lt (h : Blk w g t cs) : g < w.heap.size := by
  rcases Nat.lt_or_ge g w.heap.size with hlt | hge
  · exact hlt
  · unfold Blk at h; rw [Array.getElem?_eq_none hge] at h; cases h
theorem Blk.cell (h : Blk w g t cs) (i : Nat) : w.cell? ⟨g, i, none⟩ = cs[i]? := cell_of_row w g i cs t (0, 0) h
theorem Blk.free (h : Blk w g t cs) (i : Nat) : w.frozen? ⟨g, i, none⟩ = false := by
  unfold Blk at h
  simp [World.frozen?, h]
theorem Blk.c7 {v0 v1 v2 v3 v4 v5 v6 : Value} (h : Blk w g t #[v0, v1, v2, v3, v4, v5, v6]) : w.cell? ⟨g, 0, none⟩ = some v0 ∧ w.cell? ⟨g, 1, none⟩ = some v1 ∧ w.cell? ⟨g, 2, none⟩ = some v2 ∧ w.cell? ⟨g, 3, none⟩ = some v3 ∧ w.cell? ⟨g, 4, none⟩ = some v4 ∧ w.cell? ⟨g, 5, none⟩ = some v5 ∧ w.cell? ⟨g, 6, none⟩ = some v6 := ⟨h.cell 0, h.cell 1, h.cell 2, h.cell 3, h.cell 4, h.cell 5, h.cell 6⟩
theorem Blk.c14 {v0 v1 v2 v3 v4 v5 v6 v7 v8 v9 v10 v11 v12 v13 : Value} (h : Blk w g t #[v0, v1, v2, v3, v4, v5, v6, v7, v8, v9, v10, v11, v12, v13]) : w.cell? ⟨g, 0, none⟩ = some v0 ∧ w.cell? ⟨g, 1, none⟩ = some v1 ∧ w.cell? ⟨g, 2, none⟩ = some v2 ∧ w.cell? ⟨g, 3, none⟩ = some v3 ∧ w.cell? ⟨g, 4, none⟩ = some v4 ∧ w.cell? ⟨g, 5, none⟩ = some v5 ∧ w.cell? ⟨g, 6, none⟩ = some v6 ∧ w.cell? ⟨g, 7, none⟩ = some v7 ∧ w.cell? ⟨g, 8, none⟩ = some v8 ∧ w.cell? ⟨g, 9, none⟩ = some v9 ∧ w.cell? ⟨g, 10, none⟩ = some v10 ∧ w.cell? ⟨g, 11, none⟩ = some v11 ∧ w.cell? ⟨g, 12, none⟩ = some v12 ∧ w.cell? ⟨g, 13, none⟩ = some v13 := ⟨h.cell 0, h.cell 1, h.cell 2, h.cell 3, h.cell 4, h.cell 5, h.cell 6, h.cell 7, h.cell 8, h.cell 9, h.cell 10, h.cell 11, h.cell 12, h.cell 13⟩
theorem Blk.f7 (h : Blk w g t cs) : w.frozen? ⟨g, 0, none⟩ = false ∧ w.frozen? ⟨g, 1, none⟩ = false ∧ w.frozen? ⟨g, 2, none⟩ = false ∧ w.frozen? ⟨g, 3, none⟩ = false ∧ w.frozen? ⟨g, 4, none⟩ = false ∧ w.frozen? ⟨g, 5, none⟩ = false ∧ w.frozen? ⟨g, 6, none⟩ = false := ⟨h.free 0, h.free 1, h.free 2, h.free 3, h.free 4, h.free 5, h.free 6⟩
theorem Blk.f14 (h : Blk w g t cs) : w.frozen? ⟨g, 0, none⟩ = false ∧ w.frozen? ⟨g, 1, none⟩ = false ∧ w.frozen? ⟨g, 2, none⟩ = false ∧ w.frozen? ⟨g, 3, none⟩ = false ∧ w.frozen? ⟨g, 4, none⟩ = false ∧ w.frozen? ⟨g, 5, none⟩ = false ∧ w.frozen? ⟨g, 6, none⟩ = false ∧ w.frozen? ⟨g, 7, none⟩ = false ∧ w.frozen? ⟨g, 8, none⟩ = false ∧ w.frozen? ⟨g, 9, none⟩ = false ∧ w.frozen? ⟨g, 10, none⟩ = false ∧ w.frozen? ⟨g, 11, none⟩ = false ∧ w.frozen? ⟨g, 12, none⟩ = false ∧ w.frozen? ⟨g, 13, none⟩ = false := ⟨h.free 0, h.free 1, h.free 2, h.free 3, h.free 4, h.free 5, h.free 6, h.free 7, h.free 8, h.free 9, h.free 10, h.free 11, h.free 12, h.free 13⟩
theorem Blk.new (w : World) (t : TypeId) (cs : Array Value) : Blk (w.alloc (.cells cs t)) w.heap.size t cs := heap_alloc_new w _
theorem Blk.drew (h : Blk w g t cs) : Blk w.drew g t cs := h
theorem Blk.alloc (h : Blk w g t cs) (o : Obj) : Blk (w.alloc o) g t cs := (Below.heap_alloc w o g h.lt).trans h
theorem Blk.put (h : Blk w g t cs) (i : Nat) (u : Value) : Blk (w.setCell ⟨g, i, none⟩ u) g t (cs.setIfInBounds i u) := by
  unfold Blk at h ⊢
  simp [World.setCell, Array.getElem?_modify, h]
theorem Blk.far (h : Blk w g t cs) {p : Addr} (hp : g ≠ p.block) (u : Value) : Blk (w.setCell p u) g t cs := (Below.heap_setCell w p u g hp).trans h
theorem Blk.keep (h : Blk w g t cs) (hk : Keeps fp w w') (hg : ¬ fp g) : Blk w' g t cs := (hk.block g h.lt hg).trans h
theorem Blk.one {cs' : Array Value} {t' : TypeId} (h : Blk w g t cs) (h' : Blk w g t' cs') : t = t' ∧ cs = cs' := by
  unfold Blk at h h'
  rw [h] at h'
  injection h' with h'
  injection h' with h1 h2
  exact ⟨h2, h1⟩
end

/-- A slice's address and length: it reads as these cells, in blocks of B; where F: none of them frozen. -/
def Reads (w : World) (B : Nat → Prop) (F : Bool) (size : Nat) (A : Option Addr) (n : Nat) (xs : List Value) : Prop :=
  xs.length = n * size ∧ (0 < n → ∃ ad, A = some ad ∧ ad.spot = none ∧ B ad.block ∧ ad.block < w.heap.size ∧ ∀ j u, xs[j]? = some u → w.cell? ⟨ad.block, ad.off + j, none⟩ = some u ∧ (F = true → w.frozen? ⟨ad.block, ad.off + j, none⟩ = false))

theorem Addr.add_eq (a : Addr) (n : Nat) (h : a.spot = none) : a.add n = ⟨a.block, a.off + n, none⟩ := by
  unfold Addr.add
  split
  · rename_i e; subst e; cases a; simp_all
  · rfl

section
variable {w w' : World} {B B' : Nat → Prop} {F : Bool} {size n : Nat} {A : Option Addr} {xs : List Value}
theorem Reads.zero (w : World) (B : Nat → Prop) (F : Bool) (size : Nat) (A : Option Addr) : Reads w B F size A 0 [] := ⟨by simp, fun h => absurd h (by omega)⟩
theorem Reads.keep {fp : Nat → Prop} (h : Reads w B F size A n xs) (hk : Keeps fp w w') (hf : ∀ k, B k → ¬ fp k) : Reads w' B F size A n xs := by
  refine ⟨h.1, fun hn => ?_⟩
  obtain ⟨ad, e, hs, hb, hl, hc⟩ := h.2 hn
  refine ⟨ad, e, hs, hb, Nat.lt_of_lt_of_le hl hk.size, fun j u hu => ?_⟩
  obtain ⟨h1, h2⟩ := hc j u hu
  exact ⟨hk.cell (p := ⟨ad.block, ad.off + j, none⟩) (hf _ hb) h1, fun hF => (hk.frozen (p := ⟨ad.block, ad.off + j, none⟩) hl (hf _ hb)).trans (h2 hF)⟩
theorem Reads.more (h : Reads w B F size A n xs) (hB : ∀ k, k < w.heap.size → B k → B' k) : Reads w B' F size A n xs := by
  refine ⟨h.1, fun hn => ?_⟩
  obtain ⟨ad, e, hs, hb, hl, hc⟩ := h.2 hn
  exact ⟨ad, e, hs, hB _ hl hb, hl, hc⟩
theorem Reads.weak (h : Reads w B F size A n xs) : Reads w B false size A n xs := by
  refine ⟨h.1, fun hn => ?_⟩
  obtain ⟨ad, e, hs, hb, hl, hc⟩ := h.2 hn
  exact ⟨ad, e, hs, hb, hl, fun j u hu => ⟨(hc j u hu).1, fun h => by cases h⟩⟩
end

/-- So many elements of so many bytes lie within what one array may take. -/
def Roomy (n bytes : Nat) : Prop := n * bytes ≤ 140737488355328
theorem Roomy.len {n bytes : Nat} (h : Roomy n bytes) (hb : 0 < bytes) : n ≤ maxLen := by
  unfold Roomy at h
  have := Nat.le_mul_of_pos_right n hb
  unfold maxLen
  omega
theorem Roomy.small {n bytes : Nat} (hn : n ≤ 1048576) (hb : bytes ≤ 104) : Roomy n bytes := by
  unfold Roomy
  exact Nat.le_trans (Nat.mul_le_mul hn hb) (by omega)

/-- A list of rows of one length, laid one behind the other. -/
theorem flat_len {k : Nat} : ∀ {css : List (List Value)}, (∀ c ∈ css, c.length = k) → css.flatten.length = css.length * k
  | [], _ => by simp
  | c :: css, h => by
    rw [List.flatten_cons, List.length_append, flat_len (fun d hd => h d (List.mem_cons_of_mem _ hd)), h c (List.mem_cons_self), List.length_cons, Nat.add_mul]
    omega
theorem flat_get {k : Nat} : ∀ {css : List (List Value)}, (∀ c ∈ css, c.length = k) → ∀ i (h1 : i < css.length) j, j < k → css.flatten[i * k + j]? = css[i][j]?
  | [], _, i, h1, _, _ => by simp at h1
  | c :: css, h, i, h1, j, hj => by
    have hc := h c List.mem_cons_self
    rw [List.flatten_cons]
    cases i with
    | zero => rw [Nat.zero_mul, Nat.zero_add, List.getElem?_append_left (by omega)]; rfl
    | succ i =>
      rw [List.getElem?_append_right (by rw [hc, Nat.add_mul]; omega), hc, show (i + 1) * k + j - k = i * k + j from by rw [Nat.add_mul]; omega]
      exact flat_get (fun d hd => h d (List.mem_cons_of_mem _ hd)) i (by simpa using h1) j hj

theorem Reads.of_own {w : World} {base : Nat} {e : TypeId} {size n c : Nat} {A : Option Addr} {xs : List Value} (h : w.ownsRow base e size (.slice A n c) n xs) :
    Reads w (fun k => base ≤ k ∧ k < w.heap.size ∧ (Value.slice A n c).ownBlock = some k) true size A n xs := by
  refine ⟨h.1, fun hn => ?_⟩
  rcases h.2 with ⟨hv, h0⟩ | ⟨g, cap, cur, hv, hb, hg, hnc, hcm, hcs, htake⟩
  · omega
  · injection hv with hA _ hc
    subst hA
    have hl : g < w.heap.size := Blk.lt (t := e) hg
    refine ⟨_, rfl, rfl, ⟨hb, hl, rfl⟩, hl, fun j u hu => ⟨?_, fun _ => ?_⟩⟩
    · show w.cell? ⟨g, 0 + j, none⟩ = some u
      rw [Nat.zero_add, Blk.cell (t := e) hg j, ← Array.getElem?_toList, ← hu, ← htake, List.getElem?_take]
      split
      · rfl
      · rename_i hj
        have := (List.getElem?_eq_some_iff.1 hu).1
        rw [h.1] at this
        omega
    · exact Blk.free (t := e) hg _

section
variable {P : Program} (w : World)
/-- append onto a row that is owned, the source whatever reads. -/
theorem run_append_reads (base : Nat) (t ty e : TypeId) (i : TypeInfo) (z : Value) (size bytes : Nat) (ht : P.underlying t = some (.slice e)) (hi : P.info? e = some i) (hz : i.zero = some z)
    (hsize : i.size = size) (hby : i.bytes = bytes) (hzs : z.cells.size = size) (hsz : 0 < size)
    (v : Value) (n : Nat) (xs : List Value) (hown : w.ownsRow base e size v n xs)
    (B : Nat → Prop) (F : Bool) (A : Option Addr) (m c : Nat) (news : List Value) (hr : Reads w B F size A m news) (h1 : ∀ u ∈ news, u.oneCell' = true)
    (h63 : n + m ≤ maxLen) (hbytes : (n + m) * bytes ≤ 140737488355328) (hbase : base ≤ w.heap.size) :
    ∃ v' w', (Builtin.append_ #[t, t] ty #[v, .slice A m c]).run P w = .ok v' w' ∧ w'.ownsRow base e size v' (n + m) (xs ++ news) ∧ w.grownBy w' v.ownBlock ∧
      (v'.ownBlock = v.ownBlock ∨ v'.ownBlock = some w.heap.size) := by
  by_cases hm : m = 0
  · subst hm
    have hn : news = [] := List.eq_nil_of_length_eq_zero (by simpa using hr.1)
    subst hn
    rcases A with _ | ad
    · refine ⟨v, w, ?_, by simpa using hown, World.grownBy.refl w _, .inl rfl⟩
      rcases hown.2 with ⟨rfl, rfl⟩ | ⟨g, cap, cur, rfl, _, _, hnc, _⟩
      · simp [Builtin.append_, run_underlying ht, sizeOf, typeInfo, hi, Builtin.lenOf, Builtin.firstCells]
      · simp [Builtin.append_, run_underlying ht, sizeOf, typeInfo, hi, Builtin.lenOf, Builtin.firstCells, hnc, storeCells]
    · obtain ⟨v', w', hrun, h2, h3, _, h5⟩ := run_append_own_at (P := P) w base t ty e i z size bytes ht hi hz hsize hby hzs hsz v n xs hown ad 0 c [] hr.1 (by simp) h1 h63 hbytes hbase
      exact ⟨v', w', hrun, h2, h3, h5⟩
  · obtain ⟨ad, rfl, hs, _, _, hc⟩ := hr.2 (by omega)
    obtain ⟨v', w', hrun, h2, h3, _, h5⟩ := run_append_own_at (P := P) w base t ty e i z size bytes ht hi hz hsize hby hzs hsz v n xs hown ad m c news hr.1 (fun j u hu => by rw [Addr.add_eq _ _ hs]; exact (hc j u hu).1) h1 h63 hbytes hbase
    exact ⟨v', w', hrun, h2, h3, h5⟩

theorem wp_append_reads {o : Oper} {a : Act} {K : Act → World → Prop} {Q : Exit → Act → World → Prop} (s x : Operand) (t : TypeId)
    (ho : o.op = .call { callee := .builtin .append, args := #[s, x], argTypes := #[t, t] })
    (base : Nat) (e : TypeId) (i : TypeInfo) (z : Value) (size bytes : Nat) (ht : P.underlying t = some (.slice e)) (hi : P.info? e = some i) (hz : i.zero = some z)
    (hsize : i.size = size) (hby : i.bytes = bytes) (hzs : z.cells.size = size) (hsz : 0 < size)
    (v : Value) (n : Nat) (xs : List Value) (hs : a.eval s = v) (hown : w.ownsRow base e size v n xs)
    (B : Nat → Prop) (F : Bool) (A : Option Addr) (m c : Nat) (news : List Value) (hx : a.eval x = .slice A m c) (hr : Reads w B F size A m news) (h1 : ∀ u ∈ news, u.oneCell' = true)
    (h63 : n + m ≤ maxLen) (hbytes : (n + m) * bytes ≤ 140737488355328) (hbase : base ≤ w.heap.size)
    (h : ∀ v' w', w'.ownsRow base e size v' (n + m) (xs ++ news) → w.grownBy w' v.ownBlock → (v'.ownBlock = v.ownBlock ∨ v'.ownBlock = some w.heap.size) → K (a.put o.dst v') w') : o.wp P a w K Q := by
  obtain ⟨v', w', hrun, h2, h3, h4⟩ := run_append_reads (P := P) w base t o.type e i z size bytes ht hi hz hsize hby hzs hsz v n xs hown B F A m c news hr h1 h63 hbytes hbase
  unfold Oper.wp execOp
  simp only [ho, resolve, invoke, builtin, Sem.run_bind, Sem.run_pure, Result.andThen_ok, List.map_toArray, List.map_cons, List.map_nil, hs, hx, hrun]
  exact h v' w' h2 h3 h4

theorem wpList_append_reads {ops : Array Oper} {rest : List Oper} {o : Oper} {a : Act} {Q : Exit → Act → World → Prop} (hgd : o.guard = none) (s x : Operand) (t : TypeId)
    (ho : o.op = .call { callee := .builtin .append, args := #[s, x], argTypes := #[t, t] })
    (base : Nat) (e : TypeId) (i : TypeInfo) (z : Value) (size bytes : Nat) (ht : P.underlying t = some (.slice e)) (hi : P.info? e = some i) (hz : i.zero = some z)
    (hsize : i.size = size) (hby : i.bytes = bytes) (hzs : z.cells.size = size) (hsz : 0 < size)
    (v : Value) (n : Nat) (xs : List Value) (hs : a.eval s = v) (hown : w.ownsRow base e size v n xs)
    (B : Nat → Prop) (F : Bool) (A : Option Addr) (m c : Nat) (news : List Value) (hx : a.eval x = .slice A m c) (hr : Reads w B F size A m news) (h1 : ∀ u ∈ news, u.oneCell' = true)
    (h63 : n + m ≤ maxLen) (hbytes : (n + m) * bytes ≤ 140737488355328) (hbase : base ≤ w.heap.size)
    (h : ∀ v' w', w'.ownsRow base e size v' (n + m) (xs ++ news) → w.grownBy w' v.ownBlock → (v'.ownBlock = v.ownBlock ∨ v'.ownBlock = some w.heap.size) → wpList P ops Q rest (a.put o.dst v') w') : wpList P ops Q (o :: rest) a w :=
  wpList_plain hgd fun _ hK => wp_append_reads w s x t ho base e i z size bytes ht hi hz hsize hby hzs hsz v n xs hs hown B F A m c news hx hr h1 h63 hbytes hbase fun v' w' h2 h3 h4 => hK _ _ (h v' w' h2 h3 h4)

end

theorem Reads.put1 {w : World} {B : Nat → Prop} {F : Bool} {size n b o : Nat} {xs : List Value} (h : Reads w B F size (some ⟨b, o, none⟩) n xs) {j : Nat} (hj : j < xs.length) (u : Value) :
    Reads (w.setCell ⟨b, o + j, none⟩ u) B F size (some ⟨b, o, none⟩) n (xs.set j u) := by
  refine ⟨by simpa using h.1, fun hn => ?_⟩
  obtain ⟨ad, e, hs, hb, hl, hc⟩ := h.2 hn
  injection e with e
  subst e
  refine ⟨_, rfl, rfl, hb, by simpa [World.setCell] using hl, fun i v hv => ⟨?_, fun hF => ?_⟩⟩
  · by_cases hij : i = j
    · subst hij
      rw [List.getElem?_set_self hj] at hv
      injection hv with hv
      subst hv
      exact World.cell?_setCell_same w _ _ (hc i _ (List.getElem?_eq_getElem hj)).1
    · rw [List.getElem?_set_ne (Ne.symm hij)] at hv
      rw [World.cell?_setCell_other _ _ _ _ (by intro e; injection e with _ e2; simp only at e2; omega)]
      exact (hc i v hv).1
  · rw [World.frozen?_setCell]
    by_cases hij : i = j
    · subst hij
      exact (hc i _ (List.getElem?_eq_getElem hj)).2 hF
    · rw [List.getElem?_set_ne (Ne.symm hij)] at hv
      exact (hc i v hv).2 hF

theorem Blk.row {w : World} {g : Nat} {t : TypeId} {cur : Array Value} (h : Blk w g t cur) (cs : Array Value) : Blk (w.setRow g cs) g t cs := setRow_heap w g _ _ t _ h
theorem Keeps.row {fp : Nat → Prop} {a b : World} (h : Keeps fp a b) {g : Nat} (hg : fp g ∨ a.heap.size ≤ g) (cs : Array Value) : Keeps fp a (b.setRow g cs) :=
  ⟨h.os, h.tape, h.output, by simpa [World.setRow] using h.size, fun k hk hn => (setRow_other b g k cs (by
    rintro rfl
    rcases hg with hg | hg
    · exact hn hg
    · omega)).trans (h.block k hk hn)⟩

section
variable {P : Program} (w : World)
end

end Go.Proofs.YtjdbjjjbgibpaaaGreatDoor
namespace Go.Proofs.YtjdbjjjbgibpaaaGreatDoor
open Go.RowKit

/-- A slice (its address, length, capacity): it has n elements of so many cells each, these; and its block is known whole, with room up to the capacity. -/
def Slab (w : World) (e : TypeId) (size : Nat) (A : Option Addr) (n c : Nat) (xs : List Value) : Prop :=
  xs.length = n * size ∧ n ≤ c ∧ c ≤ maxLen ∧ ((A = none ∧ c = 0) ∨ ∃ g o cur, A = some ⟨g, o, none⟩ ∧ Blk w g e cur ∧ o + c * size ≤ cur.size ∧ (cur.toList.drop o).take (n * size) = xs)

/-- The block that a slice's address names. -/
def rowB (A : Option Addr) (k : Nat) : Prop := ∃ o, A = some ⟨k, o, none⟩
/-- In the same block, or in a new one. -/
def Moved (w : World) (A A' : Option Addr) : Prop := ∀ k, rowB A' k → rowB A k ∨ w.heap.size ≤ k
theorem Moved.same (w : World) (A : Option Addr) : Moved w A A := fun _ h => .inl h
theorem Moved.new {w : World} {A A' : Option Addr} (h : ∀ k, rowB A' k → w.heap.size ≤ k) : Moved w A A' := fun k hk => .inr (h k hk)
theorem Moved.trans {w w' : World} {A A' A'' : Option Addr} (h : Moved w A A') (hs : w.heap.size ≤ w'.heap.size) (h2 : Moved w' A' A'') : Moved w A A'' := fun k hk => (h2 k hk).elim (fun h3 => h k h3) (fun h3 => .inr (Nat.le_trans hs h3))

section
variable {w w' : World} {e : TypeId} {size n c : Nat} {A : Option Addr} {xs : List Value} {fp : Nat → Prop}
theorem Slab.nil (w : World) (e : TypeId) (size : Nat) : Slab w e size none 0 0 [] := ⟨by simp, Nat.le_refl _, by omega, .inl ⟨rfl, rfl⟩⟩
theorem Slab.keep (h : Slab w e size A n c xs) (hk : Keeps fp w w') (hf : ∀ k, rowB A k → ¬ fp k) : Slab w' e size A n c xs := by
  refine ⟨h.1, h.2.1, h.2.2.1, ?_⟩
  rcases h.2.2.2 with h0 | ⟨g, o, cur, rfl, hb, h1, h2⟩
  · exact .inl h0
  · exact .inr ⟨g, o, cur, rfl, hb.keep hk (hf g ⟨o, rfl⟩), h1, h2⟩
theorem Slab.fresh (h : Slab w e size A n c xs) (hk : Keeps NoB w w') : Slab w' e size A n c xs := h.keep hk (fun _ _ => id)
theorem Slab.drew (h : Slab w e size A n c xs) : Slab w.drew e size A n c xs := h.fresh ((Keeps.refl NoB w).drew)
theorem Slab.ne (h : Slab w e size A n c xs) {b : Nat} {t : TypeId} {cs : Array Value} (hb : Blk w b t cs) (hne : e ≠ t) : ¬ rowB A b := by
  rintro ⟨o, rfl⟩
  rcases h.2.2.2 with ⟨h0, _⟩ | ⟨g, o', cur, h0, h1, _⟩
  · cases h0
  · injection h0 with h0; injection h0 with h0; subst h0; exact hne (Blk.one h1 hb).1
theorem Slab.lt (h : Slab w e size A n c xs) {k : Nat} (hk : rowB A k) : k < w.heap.size := by
  obtain ⟨o, rfl⟩ := hk
  rcases h.2.2.2 with ⟨h0, _⟩ | ⟨g, o', cur, h0, h1, _⟩
  · cases h0
  · injection h0 with h0; injection h0 with h0; subst h0; exact h1.lt
theorem Slab.reads (h : Slab w e size A n c xs) : Reads w (rowB A) true size A n xs := by
  refine ⟨h.1, fun hn => ?_⟩
  rcases h.2.2.2 with ⟨rfl, h0⟩ | ⟨g, o, cur, rfl, hb, h1, h2⟩
  · have := h.2.1; omega
  · refine ⟨_, rfl, rfl, ⟨o, rfl⟩, hb.lt, fun j u hu => ⟨?_, fun _ => hb.free _⟩⟩
    rw [hb.cell, ← Array.getElem?_toList]
    rw [← h2, List.getElem?_take] at hu
    split at hu
    · rw [List.getElem?_drop] at hu; exact hu
    · cases hu
/-- What the kit's law of an append leaves, as such a slice. -/
theorem Slab.of_own {base : Nat} {v : Value} (h : w.ownsRow base e size v n xs) : ∃ A c, v = .slice A n c ∧ Slab w e size A n c xs := by
  rcases h.2 with ⟨rfl, rfl⟩ | ⟨g, cap, cur, rfl, hb, hg, hnc, hcm, hcs, htake⟩
  · exact ⟨none, 0, rfl, h.1, Nat.le_refl _, Nat.zero_le _, .inl ⟨rfl, rfl⟩⟩
  · exact ⟨_, _, rfl, h.1, hnc, hcm, .inr ⟨g, 0, cur, rfl, hg, by omega, by simpa using htake⟩⟩
end
/-- Cells laid over a row, from a place on. -/
def splice (cur : Array Value) (o : Nat) (xs : List Value) : Array Value := (cur.toList.take o ++ xs ++ cur.toList.drop (o + xs.length)).toArray
theorem splice_size {cur : Array Value} {o : Nat} {xs : List Value} (h : o + xs.length ≤ cur.size) : (splice cur o xs).size = cur.size := by
  unfold splice
  simp only [List.size_toArray, List.length_append, List.length_take, List.length_drop, Array.length_toList]
  omega
theorem splice_get {cur : Array Value} {o : Nat} {xs : List Value} (h : o + xs.length ≤ cur.size) (j : Nat) : (splice cur o xs)[j]? = if j < o then cur[j]? else if j < o + xs.length then xs[j - o]? else cur[j]? := by
  unfold splice
  rw [List.getElem?_toArray]
  have hl : (cur.toList.take o).length = o := by rw [List.length_take, Array.length_toList]; omega
  split
  · rename_i hj
    rw [List.append_assoc, List.getElem?_append_left (by omega), List.getElem?_take_of_lt hj, Array.getElem?_toList]
  · rename_i hj
    split
    · rename_i hj2
      rw [List.append_assoc, List.getElem?_append_right (by omega), hl, List.getElem?_append_left (by omega)]
    · rename_i hj2
      rw [List.getElem?_append_right (by rw [List.length_append]; omega), List.length_append, hl, List.getElem?_drop, Array.getElem?_toList]
      congr 1
      omega
/-- What a window of the row reads as: cell by cell. -/
theorem window_eq {cur : Array Value} {o k : Nat} {xs : List Value} (hl : xs.length = k) (hk : o + k ≤ cur.size) (h : ∀ j, j < k → cur[o + j]? = xs[j]?) : (cur.toList.drop o).take k = xs := by
  apply List.ext_getElem?
  intro j
  rw [List.getElem?_take]
  split
  · rename_i hj
    rw [List.getElem?_drop, Array.getElem?_toList]; exact h j hj
  · rename_i hj
    exact (List.getElem?_eq_none (by omega)).symm
theorem window_get {cur : Array Value} {o k : Nat} {xs : List Value} (h : (cur.toList.drop o).take k = xs) {j : Nat} (hj : j < k) : cur[o + j]? = xs[j]? := by
  rw [← h, List.getElem?_take_of_lt hj, List.getElem?_drop, Array.getElem?_toList]

theorem Slab.mk' {w : World} {e : TypeId} {size n c g o : Nat} {cur : Array Value} {xs : List Value} (hl : xs.length = n * size) (hn : n ≤ c) (hm : c ≤ maxLen) (hb : Blk w g e cur) (hs : o + c * size ≤ cur.size) (h : ∀ j, j < n * size → cur[o + j]? = xs[j]?) : Slab w e size (some ⟨g, o, none⟩) n c xs :=
  ⟨hl, hn, hm, .inr ⟨g, o, cur, rfl, hb, hs, window_eq hl (by have := Nat.mul_le_mul_right size hn; omega) h⟩⟩

/-- A part of such a slice. -/
theorem Slab.from {w : World} {e : TypeId} {size n c g o i : Nat} {xs : List Value} (h : Slab w e size (some ⟨g, o, none⟩) n c xs) (hi : i ≤ n) : Slab w e size (some ⟨g, if c = i then o else o + i * size, none⟩) (n - i) (c - i) (xs.drop (i * size)) := by
  obtain ⟨hl, hn, hm, ⟨h0, _⟩ | ⟨g', o', cur, h0, hb, hs, hw⟩⟩ := h
  · cases h0
  · injection h0 with h0; injection h0 with h0 h1; subst h0; subst h1
    have e1 : (n - i) * size + i * size = n * size := by rw [← Nat.add_mul]; congr 1; omega
    have e2 : (c - i) * size + i * size = c * size := by rw [← Nat.add_mul]; congr 1; omega
    refine Slab.mk' (by rw [List.length_drop, hl]; omega) (by omega) (by omega) hb (by split <;> omega) (fun j hj => ?_)
    have hne : ¬ c = i := by
      rintro rfl
      have : n - c = 0 := by omega
      rw [this] at hj; omega
    rw [if_neg hne, List.getElem?_drop, Nat.add_assoc]
    exact window_get hw (by omega)
theorem Slab.upto {w : World} {e : TypeId} {size n c i : Nat} {A : Option Addr} {xs : List Value} (h : Slab w e size A n c xs) (hi : i ≤ n) : Slab w e size A i c (xs.take (i * size)) := by
  obtain ⟨hl, hn, hm, ⟨rfl, rfl⟩ | ⟨g, o, cur, rfl, hb, hs, hw⟩⟩ := h
  · obtain rfl : i = 0 := by omega
    exact ⟨by simp, by omega, hm, .inl ⟨rfl, rfl⟩⟩
  · have := Nat.mul_le_mul_right size hi
    refine Slab.mk' (by rw [List.length_take, hl]; omega) (by omega) hm hb hs (fun j hj => ?_)
    rw [List.getElem?_take_of_lt hj]
    exact window_get hw (by omega)

section
variable {P : Program} (w : World)
theorem run_append_slab (t ty e : TypeId) (i : TypeInfo) (z : Value) (size bytes : Nat) (ht : P.underlying t = some (.slice e)) (hi : P.info? e = some i) (hz : i.zero = some z)
    (hsize : i.size = size) (hby : i.bytes = bytes) (hzs : z.cells.size = size) (hsz : 0 < size)
    (A : Option Addr) (n c : Nat) (xs : List Value) (hs : Slab w e size A n c xs)
    (B : Nat → Prop) (F : Bool) (A2 : Option Addr) (m c2 : Nat) (news : List Value) (hr : Reads w B F size A2 m news) (hm0 : 0 < m) (h1 : ∀ u ∈ news, u.oneCell' = true)
    (h63 : n + m ≤ maxLen) (hbytes : (n + m) * bytes ≤ 140737488355328) :
    ∃ A' c' w', (Builtin.append_ #[t, t] ty #[.slice A n c, .slice A2 m c2]).run P w = .ok (.slice A' (n + m) c') w' ∧ Slab w' e size A' (n + m) c' (xs ++ news) ∧ Keeps (rowB A) w w' ∧ Moved w A A' := by
  obtain ⟨ad, rfl, hsp, _, _, hc⟩ := hr.2 hm0
  have hnews : ∀ j u, news[j]? = some u → w.cell? (ad.add j) = some u := fun j u hu => by rw [Addr.add_eq _ _ hsp]; exact (hc j u hu).1
  by_cases hroom : n + m ≤ c
  · obtain ⟨hl, hn, hm, ⟨rfl, rfl⟩ | ⟨g, o, cur, rfl, hb, hsc, hw⟩⟩ := hs
    · omega
    · subst hsize
      have hmul : (n + m) * i.size ≤ c * i.size := Nat.mul_le_mul_right _ hroom
      have hlen : news.length = m * i.size := hr.1
      have hadd : (n + m) * i.size = n * i.size + m * i.size := Nat.add_mul _ _ _
      have hfit : o + n * i.size + news.length ≤ cur.size := by omega
      have hf := run_firstCells_some (P := P) w i.size m ad m c2 news hlen hnews
      have hst := run_storeCells_at P g (o + n * i.size) e news 0 cur w hb (by simpa using hfit) h1
      simp only [Nat.add_zero] at hst
      refine ⟨some ⟨g, o, none⟩, c, w.setRow g (splice cur (o + n * i.size) news), ?_, ?_, (Keeps.refl _ w).row (.inl ⟨o, rfl⟩) _, Moved.same _ _⟩
      · simp [Builtin.append_, run_underlying ht, sizeOf, typeInfo, hi, Builtin.lenOf, hroom, hf, Addr.add_lit, hst, splice]
      · refine Slab.mk' (by rw [List.length_append, hl, hlen, hadd]) hroom hm (hb.row _) (by rw [splice_size hfit]; omega) (fun j hj => ?_)
        rw [splice_get hfit]
        split
        · rename_i hj1
          rw [List.getElem?_append_left (by omega)]; exact window_get hw (by omega)
        · rename_i hj1
          rw [if_pos (by omega), List.getElem?_append_right (by omega), hl]
          congr 1; omega
  · have hfin : ∃ v' w', (Builtin.append_ #[t, t] ty #[.slice A n c, .slice (some ad) m c2]).run P w = .ok v' w' ∧ w'.ownsRow w.heap.size e size v' (n + m) (xs ++ news) ∧ Keeps NoB w w' := by
      obtain ⟨hl, hn, hm, ⟨rfl, rfl⟩ | ⟨g, o, cur, rfl, hb, hsc, hw⟩⟩ := id hs
      · obtain rfl : n = 0 := by omega
        obtain rfl : xs = [] := List.eq_nil_of_length_eq_zero (by simpa using hl)
        obtain ⟨v', w', hrun, r1, r2, _⟩ := run_append_own (P := P) w w.heap.size t ty e i z size bytes ht hi hz hsize hby hzs hsz (.slice none 0 0) 0 [] (World.ownsRow_nil w _ e size) ad m c2 news hr.1 hnews h1 h63 hbytes (Nat.le_refl _)
        exact ⟨v', w', hrun, r1, (Keeps.refl NoB w).grown r2 (fun k h _ => by cases h)⟩
      · obtain ⟨v', w', hrun, r1, r2⟩ := run_append_arg_grows (P := P) w t ty e i z size bytes ht hi hz hsize hby hzs hsz ⟨g, o, none⟩ n c xs hl (fun j u hj => by
            have := (hs.reads.2 (by have := (List.getElem?_eq_some_iff.1 hj).1; rcases Nat.eq_zero_or_pos n with h0 | h0; (rw [h0] at hl; simp at hl; subst hl; simp at hj); exact h0))
            obtain ⟨ad', e', _, _, _, hc'⟩ := this
            injection e' with e'; subst e'
            rw [Addr.add_lit]; exact (hc' j u hj).1) ad m c2 news hr.1 hnews (by omega) h63 hbytes
        exact ⟨v', w', hrun, r1, (Keeps.refl NoB w).grown r2 (fun k h _ => by cases h)⟩
    obtain ⟨v', w', hrun, r1, r2⟩ := hfin
    obtain ⟨A', c', rfl, r3⟩ := Slab.of_own r1
    refine ⟨A', c', w', hrun, r3, r2.mono (fun _ _ h => h.elim), Moved.new ?_⟩
    rintro k ⟨o, rfl⟩
    exact (r1.lt k rfl).1

theorem wpList_append_slab {ops : Array Oper} {rest : List Oper} {o : Oper} {a : Act} {Q : Exit → Act → World → Prop} (hgd : o.guard = none) (s x : Operand) (t : TypeId)
    (ho : o.op = .call { callee := .builtin .append, args := #[s, x], argTypes := #[t, t] })
    (e : TypeId) (i : TypeInfo) (z : Value) (size bytes : Nat) (ht : P.underlying t = some (.slice e)) (hi : P.info? e = some i) (hz : i.zero = some z)
    (hsize : i.size = size) (hby : i.bytes = bytes) (hzs : z.cells.size = size) (hsz : 0 < size)
    (A : Option Addr) (n c : Nat) (xs : List Value) (he : a.eval s = .slice A n c) (hs : Slab w e size A n c xs)
    (B : Nat → Prop) (F : Bool) (A2 : Option Addr) (m c2 : Nat) (news : List Value) (hx : a.eval x = .slice A2 m c2) (hr : Reads w B F size A2 m news) (hm0 : 0 < m) (h1 : ∀ u ∈ news, u.oneCell' = true)
    (h63 : n + m ≤ maxLen) (hbytes : (n + m) * bytes ≤ 140737488355328)
    (h : ∀ A' c' w', Slab w' e size A' (n + m) c' (xs ++ news) → Keeps (rowB A) w w' → Moved w A A' → wpList P ops Q rest (a.put o.dst (.slice A' (n + m) c')) w') : wpList P ops Q (o :: rest) a w := by
  obtain ⟨A', c', w', hrun, h2, h3, h4⟩ := run_append_slab (P := P) w t o.type e i z size bytes ht hi hz hsize hby hzs hsz A n c xs hs B F A2 m c2 news hr hm0 h1 h63 hbytes
  refine wpList_plain hgd fun _ hK => ?_
  unfold Oper.wp execOp
  simp only [ho, resolve, invoke, builtin, Sem.run_bind, Sem.run_pure, Result.andThen_ok, List.map_toArray, List.map_cons, List.map_nil, he, hx, hrun]
  exact hK _ _ (h A' c' w' h2 h3 h4)
end

section
variable {P : Program} (w : World)
end

section
variable {P : Program} (w : World)
/-- append where there is room: the same place; the source may be empty. -/
theorem run_append_room_slab (t ty e : TypeId) (i : TypeInfo) (size : Nat) (ht : P.underlying t = some (.slice e)) (hi : P.info? e = some i) (hsize : i.size = size)
    (A : Option Addr) (n c : Nat) (xs : List Value) (hs : Slab w e size A n c xs)
    (B : Nat → Prop) (F : Bool) (A2 : Option Addr) (m c2 : Nat) (news : List Value) (hr : Reads w B F size A2 m news) (h1 : ∀ u ∈ news, u.oneCell' = true) (hroom : n + m ≤ c) :
    ∃ w', (Builtin.append_ #[t, t] ty #[.slice A n c, .slice A2 m c2]).run P w = .ok (.slice A (n + m) c) w' ∧ Slab w' e size A (n + m) c (xs ++ news) ∧ Keeps (rowB A) w w' := by
  subst hsize
  rcases Nat.eq_zero_or_pos m with rfl | hm0
  · obtain rfl : news = [] := List.eq_nil_of_length_eq_zero (by simpa using hr.1)
    refine ⟨w, ?_, by simpa using hs, Keeps.refl _ _⟩
    have hst : ∀ (a : Addr), (storeCells a [] 0).run P w = .ok () w := fun a => by simp [storeCells]
    have hcc : n ≤ c := hs.2.1
    have hf : (Builtin.firstCells i.size 0 (.slice A2 0 c2)).run P w = .ok #[] w := by
      rcases A2 with _ | ad
      · simp [Builtin.firstCells]
      · simp [Builtin.firstCells, loadCells, loadCellsFrom]
    rcases A with _ | ad
    · obtain ⟨_, _, _, ⟨_, rfl⟩ | ⟨g, o, cur, h0, _⟩⟩ := hs
      · obtain rfl : n = 0 := by omega
        simp [Builtin.append_, run_underlying ht, sizeOf, typeInfo, hi, Builtin.lenOf, hf]
      · cases h0
    · simp [Builtin.append_, run_underlying ht, sizeOf, typeInfo, hi, Builtin.lenOf, hf, hcc, storeCells]
  · obtain ⟨hl, hn, hm, ⟨rfl, rfl⟩ | ⟨g, o, cur, rfl, hb, hsc, hw⟩⟩ := hs
    · omega
    · obtain ⟨ad, rfl, hsp, _, _, hc⟩ := hr.2 hm0
      have hnews : ∀ j u, news[j]? = some u → w.cell? (ad.add j) = some u := fun j u hu => by rw [Addr.add_eq _ _ hsp]; exact (hc j u hu).1
      have hmul : (n + m) * i.size ≤ c * i.size := Nat.mul_le_mul_right _ hroom
      have hlen : news.length = m * i.size := hr.1
      have hadd : (n + m) * i.size = n * i.size + m * i.size := Nat.add_mul _ _ _
      have hfit : o + n * i.size + news.length ≤ cur.size := by omega
      have hf := run_firstCells_some (P := P) w i.size m ad m c2 news hlen hnews
      have hst := run_storeCells_at P g (o + n * i.size) e news 0 cur w hb (by simpa using hfit) h1
      simp only [Nat.add_zero] at hst
      refine ⟨w.setRow g (splice cur (o + n * i.size) news), ?_, ?_, (Keeps.refl _ w).row (.inl ⟨o, rfl⟩) _⟩
      · simp [Builtin.append_, run_underlying ht, sizeOf, typeInfo, hi, Builtin.lenOf, hroom, hf, Addr.add_lit, hst, splice]
      · refine Slab.mk' (by rw [List.length_append, hl, hlen, hadd]) hroom hm (hb.row _) (by rw [splice_size hfit]; omega) (fun j hj => ?_)
        rw [splice_get hfit]
        split
        · rename_i hj1
          rw [List.getElem?_append_left (by omega)]; exact window_get hw (by omega)
        · rename_i hj1
          rw [if_pos (by omega), List.getElem?_append_right (by omega), hl]
          congr 1; omega

end

/-- A cell laid behind what is looked at. -/
theorem Slab.behind {w : World} {e : TypeId} {size n c g o : Nat} {xs : List Value} (h : Slab w e size (some ⟨g, o, none⟩) n c xs) : ∃ cur, Blk w g e cur ∧ o + c * size ≤ cur.size ∧ ∀ k ys, n * size ≤ k → o + k + ys.length ≤ cur.size → Slab (w.setRow g (splice cur (o + k) ys)) e size (some ⟨g, o, none⟩) n c xs := by
  obtain ⟨hl, hn, hm, ⟨h0, _⟩ | ⟨g', o', cur, h0, hb, hsc, hw⟩⟩ := h
  · cases h0
  · injection h0 with h0; injection h0 with h0 h1; subst h0 h1
    refine ⟨cur, hb, hsc, fun k ys hk hfit => Slab.mk' hl hn hm (hb.row _) (by rw [splice_size hfit]; exact hsc) (fun j hj => ?_)⟩
    rw [splice_get hfit, if_pos (by omega)]
    exact window_get hw hj

/-- append onto such a slice, the source whatever reads, empty or not. -/
theorem wpList_append_any {P : Program} (w : World) {ops : Array Oper} {rest : List Oper} {o : Oper} {a : Act} {Q : Exit → Act → World → Prop} (hgd : o.guard = none) (s x : Operand) (t : TypeId)
    (ho : o.op = .call { callee := .builtin .append, args := #[s, x], argTypes := #[t, t] })
    (e : TypeId) (i : TypeInfo) (z : Value) (size bytes : Nat) (ht : P.underlying t = some (.slice e)) (hi : P.info? e = some i) (hz : i.zero = some z)
    (hsize : i.size = size) (hby : i.bytes = bytes) (hzs : z.cells.size = size) (hsz : 0 < size)
    (A : Option Addr) (n c : Nat) (xs : List Value) (he : a.eval s = .slice A n c) (hs : Slab w e size A n c xs)
    (B : Nat → Prop) (F : Bool) (A2 : Option Addr) (m c2 : Nat) (news : List Value) (hx : a.eval x = .slice A2 m c2) (hr : Reads w B F size A2 m news) (h1 : ∀ u ∈ news, u.oneCell' = true)
    (h63 : n + m ≤ maxLen) (hbytes : (n + m) * bytes ≤ 140737488355328)
    (h : ∀ A' c' w', Slab w' e size A' (n + m) c' (xs ++ news) → Keeps (rowB A) w w' → Moved w A A' → wpList P ops Q rest (a.put o.dst (.slice A' (n + m) c')) w') : wpList P ops Q (o :: rest) a w := by
  rcases Nat.eq_zero_or_pos m with rfl | hm
  · obtain ⟨w', hrun, h2, h3⟩ := run_append_room_slab (P := P) w t o.type e i size ht hi hsize A n c xs hs B F A2 0 c2 news hr h1 (by have := hs.2.1; omega)
    refine wpList_plain hgd fun _ hK => ?_
    unfold Oper.wp execOp
    simp only [ho, resolve, invoke, builtin, Sem.run_bind, Sem.run_pure, Result.andThen_ok, List.map_toArray, List.map_cons, List.map_nil, he, hx, hrun]
    exact hK _ _ (h A c w' h2 h3 (Moved.same _ _))
  · exact wpList_append_slab w hgd s x t ho e i z size bytes ht hi hz hsize hby hzs hsz A n c xs he hs B F A2 m c2 news hx hr hm h1 h63 hbytes h
end Go.Proofs.YtjdbjjjbgibpaaaGreatDoor
namespace Go.Proofs.YtjdbjjjbgibpaaaGreatDoor

section
variable {P : Program} {ops : Array Oper} {Q : Exit → Act → World → Prop} {S : World → Prop} {need : Nat → Bool}

/-- Whatever order is picked; behind each operation that 'need' names S holds. -/
def wpAnyN (P : Program) (ops : Array Oper) (Q : Exit → Act → World → Prop) (S : World → Prop) (need : Nat → Bool) : Nat → Array Bool → Act → World → Prop
  | 0, listed, a, w => Region.ready .any ops listed = [] ∧ Q .normal a w
  | fuel + 1, listed, a, w =>
    (Region.ready .any ops listed = [] → Q .normal a w) ∧
    ∀ i ∈ Region.ready .any ops listed, wpOp P ops Q i (fun a' w' => (need i = true → S w → S w') ∧ wpAnyN P ops Q S need fuel (listed.setIfInBounds i true) a' w') a w

theorem wpAny_of_need : ∀ (fuel : Nat) (listed : Array Bool) (a : Act) (w : World), wpAnyN P ops Q S need fuel listed a w → wpAny P .any ops Q fuel listed a w
  | 0, _, _, _, h => h
  | fuel + 1, _, _, _, h => ⟨h.1, fun i hi => wpOp_mono (fun a' w' h' => wpAny_of_need fuel _ a' w' h'.2) (h.2 i hi)⟩

theorem not_listed_of_ready {i : Nat} {listed : Array Bool} (h : i ∈ Region.ready .any ops listed) : listed.getD i false = false := by
  have h0 := (mem_ready.1 h).1
  rcases Nat.lt_or_ge i listed.size with h' | h'
  · simp [h'] at h0 ⊢; exact h0
  · simp [Array.getElem?_eq_none h']

def direct (ops : Array Oper) (j i : Nat) : Bool :=
  match ops[j]? with
  | some oj => oj.after.any fun e => Region.binds .any e && e.on == i
  | none => false
/-- j waits for i, at once or by way of others. -/
def reach (ops : Array Oper) : Nat → Nat → Nat → Bool
  | 0, j, i => direct ops j i
  | f + 1, j, i => direct ops j i || (match ops[j]? with
    | some oj => oj.after.any fun e => Region.binds .any e && reach ops f e.on i
    | none => false)
def waits (ops : Array Oper) (j i : Nat) : Bool := reach ops 3 j i
/-- What has come up has come up behind what it waits for. -/
def Shut (ops : Array Oper) (listed : Array Bool) : Prop := ∀ k ok, ops[k]? = some ok → listed.getD k false = true → ∀ e ∈ ok.after, Region.binds .any e = true → listed.getD e.on false = true

theorem Shut.step {listed : Array Bool} (h : Shut ops listed) {j : Nat} (hj : j ∈ Region.ready .any ops listed) : Shut ops (listed.setIfInBounds j true) := by
  obtain ⟨_, oj, hoj, hall⟩ := mem_ready.1 hj
  intro k ok hk hl e he hb
  by_cases hkj : j = k
  · subst hkj
    have : ok = oj := by rw [hk] at hoj; injection hoj
    subst this
    exact getD_set_true (hall e he hb)
  · rw [getD_set_ne false hkj] at hl
    exact getD_set_true (h k ok hk hl e he hb)

theorem direct_spec {j i : Nat} (h : direct ops j i = true) : ∃ oj, ops[j]? = some oj ∧ ∃ e ∈ oj.after, Region.binds .any e = true ∧ e.on = i := by
  unfold direct at h
  split at h
  · rename_i oj hoj
    obtain ⟨e, he, hb⟩ := Array.any_eq_true'.1 h
    simp only [Bool.and_eq_true, beq_iff_eq] at hb
    exact ⟨oj, hoj, e, he, hb.1, hb.2⟩
  · cases h

theorem reach_spec {listed : Array Bool} (h : Shut ops listed) {i : Nat} : ∀ (f j : Nat), (∀ oj, ops[j]? = some oj → ∀ e ∈ oj.after, Region.binds .any e = true → listed.getD e.on false = true) → reach ops f j i = true → listed.getD i false = true
  | 0, j, hj, hr => by
    obtain ⟨oj, hoj, e, he, hb, heq⟩ := direct_spec hr
    rw [← heq]; exact hj oj hoj e he hb
  | f + 1, j, hj, hr => by
    unfold reach at hr
    rw [Bool.or_eq_true] at hr
    rcases hr with hr | hr
    · obtain ⟨oj, hoj, e, he, hb, heq⟩ := direct_spec hr
      rw [← heq]; exact hj oj hoj e he hb
    · split at hr
      · rename_i oj hoj
        obtain ⟨e, he, hb⟩ := Array.any_eq_true'.1 hr
        rw [Bool.and_eq_true] at hb
        have hl := hj oj hoj e he hb.1
        exact reach_spec h f e.on (fun ok hk e2 he2 hb2 => h e.on ok hk hl e2 he2 hb2) hb.2
      · cases hr

theorem waits_spec {listed : Array Bool} (h : Shut ops listed) {i j : Nat} (hj : j ∈ Region.ready .any ops listed) (hi : listed.getD i false = false) : waits ops j i = false := by
  obtain ⟨_, oj, hoj, hall⟩ := mem_ready.1 hj
  cases hw : waits ops j i with
  | false => rfl
  | true =>
    have := reach_spec h 3 j (fun ok hk e he hb => by rw [hoj] at hk; injection hk with hk; subst hk; exact hall e he hb) hw
    rw [hi] at this; cases this

theorem wpAnyN_first {i : Nat} {oi : Oper} {v : Value} (hi : ops[i]? = some oi) (hsel : ∀ (j : Nat) (o : Oper) cs b, ops[j]? = some o → o.op ≠ .select cs b)
    (hQ : ∀ c a w, Q (.panic c) (a.put oi.dst v) w → Q (.panic c) a w)
    (hneed : ∀ j, j < ops.size → j ≠ i → need j = false → waits ops j i = true) :
    ∀ (fuel : Nat) (listed : Array Bool) (a : Act) (w : World), Shut ops listed →
      (∀ j oj, ops[j]? = some oj → j ≠ i → listed.getD j true = false → (∀ e ∈ oj.after, Region.binds .any e = true → e.on ≠ i) → oi.apart ops oj = true) →
      i ∈ Region.ready .any ops listed → YieldsIf P ops S oi v a → S w →
      wpAnyN P ops Q S need fuel (listed.setIfInBounds i true) (a.put oi.dst v) w → wpAnyN P ops Q S need (fuel + 1) listed a w := by
  intro fuel
  induction fuel with
  | zero =>
    intro listed a w _ _ hr hy hS H
    refine ⟨fun h => (by rw [h] at hr; cases hr), fun j hj => ?_⟩
    by_cases hji : j = i
    · subst hji; exact hy.wpOp hi hS ⟨fun _ h => h, H⟩
    · have := ready_mono hj hji
      rw [H.1] at this
      cases this
  | succ fuel ih =>
    intro listed a w hsh hfree hr hy hS H
    refine ⟨fun h => (by rw [h] at hr; cases hr), fun j hj => ?_⟩
    by_cases hji : j = i
    · subst hji; exact hy.wpOp hi hS ⟨fun _ h => h, H⟩
    · have h1 := H.2 j (ready_mono hj hji)
      obtain ⟨hjun, oj, hoj, hall⟩ := mem_ready.1 hj
      have hnot : ∀ e ∈ oj.after, Region.binds .any e = true → e.on ≠ i := fun e he hb heq => by
        have h1 := hall e he hb
        rw [heq, not_listed_of_ready hr] at h1
        cases h1
      have hnj : need j = true := by
        cases hn : need j with
        | true => rfl
        | false =>
          have h1 := hneed j (Array.getElem?_eq_some_iff.1 hoj).1 hji hn
          rw [waits_spec hsh hj (not_listed_of_ready hr)] at h1
          cases h1
      have h2 := wpOp_putIf hoj (hfree j oj hoj hji hjun hnot) (fun cs b => hsel i oi cs b hi) (fun cs b => hsel j oj cs b hoj) hQ hy h1
      have hfree' : ∀ k ok, ops[k]? = some ok → k ≠ i → (listed.setIfInBounds j true).getD k true = false →
          (∀ e ∈ ok.after, Region.binds .any e = true → e.on ≠ i) → oi.apart ops ok = true := fun k ok hk hki hun hno => by
        refine hfree k ok hk hki ?_ hno
        by_cases hjk : j = k
        · subst hjk; exact hjun
        · rw [getD_set_ne true hjk] at hun; exact hun
      refine wpOp_mono (fun a' w' h3 => ⟨h3.2.1, ih (listed.setIfInBounds j true) a' w' (hsh.step hj) hfree' (ready_mono hr (Ne.symm hji)) h3.1 (h3.2.1 hnj hS) ?_⟩) h2
      rw [Array.setIfInBounds_comm _ _ hji]
      exact h3.2.2

theorem wpAnyN_pure {i : Nat} {oi : Oper} {v : Value} (hi : ops[i]? = some oi) (hsel : ∀ (j : Nat) (o : Oper) cs b, ops[j]? = some o → o.op ≠ .select cs b)
    (hQ : ∀ c a w, Q (.panic c) (a.put oi.dst v) w → Q (.panic c) a w) :
    ∀ (fuel : Nat) (listed : Array Bool) (a : Act) (w : World),
      (∀ j oj, ops[j]? = some oj → j ≠ i → listed.getD j true = false → (∀ e ∈ oj.after, Region.binds .any e = true → e.on ≠ i) → oi.apart ops oj = true) →
      i ∈ Region.ready .any ops listed → Yields P ops oi v a →
      wpAnyN P ops Q S need fuel (listed.setIfInBounds i true) (a.put oi.dst v) w → wpAnyN P ops Q S need (fuel + 1) listed a w := by
  intro fuel
  induction fuel with
  | zero =>
    intro listed a w _ hr hy H
    refine ⟨fun h => (by rw [h] at hr; cases hr), fun j hj => ?_⟩
    by_cases hji : j = i
    · subst hji; exact hy.wpOp hi ⟨fun _ h => h, H⟩
    · have := ready_mono hj hji
      rw [H.1] at this
      cases this
  | succ fuel ih =>
    intro listed a w hfree hr hy H
    refine ⟨fun h => (by rw [h] at hr; cases hr), fun j hj => ?_⟩
    by_cases hji : j = i
    · subst hji; exact hy.wpOp hi ⟨fun _ h => h, H⟩
    · have h1 := H.2 j (ready_mono hj hji)
      obtain ⟨hjun, oj, hoj, hall⟩ := mem_ready.1 hj
      have hnot : ∀ e ∈ oj.after, Region.binds .any e = true → e.on ≠ i := fun e he hb heq => by
        have h1 := hall e he hb
        rw [heq, not_listed_of_ready hr] at h1
        cases h1
      have h2 := wpOp_put hoj (hfree j oj hoj hji hjun hnot) (fun cs b => hsel i oi cs b hi) (fun cs b => hsel j oj cs b hoj) hQ hy h1
      have hfree' : ∀ k ok, ops[k]? = some ok → k ≠ i → (listed.setIfInBounds j true).getD k true = false →
          (∀ e ∈ ok.after, Region.binds .any e = true → e.on ≠ i) → oi.apart ops ok = true := fun k ok hk hki hun hno => by
        refine hfree k ok hk hki ?_ hno
        by_cases hjk : j = k
        · subst hjk; exact hjun
        · rw [getD_set_ne true hjk] at hun; exact hun
      refine wpOp_mono (fun a' w' h3 => ⟨h3.2.1, ih (listed.setIfInBounds j true) a' w' hfree' (ready_mono hr (Ne.symm hji)) h3.1 ?_⟩) h2
      rw [Array.setIfInBounds_comm _ _ hji]
      exact h3.2.2

/-! ### The walk's own form: what has come up, as a list -/
def upNext (ops : Array Oper) (done : List Nat) : List Nat :=
  (List.range ops.size).filter fun i => !done.contains i && ((ops[i]?).map (·.after.all fun e => !Region.binds .any e || done.contains e.on)).getD false

/-- The array that says what has come up agrees with the list. -/
def Agrees (ops : Array Oper) (listed : Array Bool) (done : List Nat) : Prop := listed.size = ops.size ∧ ∀ j, listed.getD j false = (done.contains j && decide (j < ops.size))

theorem getD_true_of {listed : Array Bool} {j : Nat} (h : j < listed.size) : listed.getD j true = listed.getD j false := by simp [h]

theorem Agrees.ready {listed : Array Bool} {done : List Nat} (h : Agrees ops listed done) (hw : ops.all (fun o => o.after.all fun e => decide (e.on < ops.size)) = true) : Region.ready .any ops listed = upNext ops done := by
  unfold Region.ready upNext
  refine List.filter_congr fun i hi => ?_
  have hi' : i < ops.size := List.mem_range.1 hi
  have e1 : listed.getD i true = done.contains i := by
    rw [getD_true_of (by rw [h.1]; exact hi'), h.2 i]; simp [hi']
  rw [e1]
  congr 1
  have ho : ops[i]? = some ops[i] := Array.getElem?_eq_getElem hi'
  rw [ho, Option.map_some, Option.map_some, Option.getD_some, Option.getD_some]
  have hall := Array.all_eq_true_iff_forall_mem.1 hw ops[i] (Array.getElem_mem hi')
  have hall := Array.all_eq_true_iff_forall_mem.1 hall
  rw [Bool.eq_iff_iff, Array.all_eq_true_iff_forall_mem, Array.all_eq_true_iff_forall_mem]
  refine ⟨fun h2 e he => ?_, fun h2 e he => ?_⟩
  · have := h2 e he; rw [h.2] at this; have hb := hall e he; simp only [decide_eq_true_eq] at hb; simpa [hb] using this
  · have := h2 e he; rw [h.2]; have hb := hall e he; simp only [decide_eq_true_eq] at hb; simpa [hb] using this

theorem Agrees.step {listed : Array Bool} {done : List Nat} (h : Agrees ops listed done) (i : Nat) : Agrees ops (listed.setIfInBounds i true) (i :: done) := by
  refine ⟨by simp [h.1], fun j => ?_⟩
  by_cases hij : i = j
  · subst hij
    by_cases hl : i < ops.size
    · simp [Array.getD, h.1, hl]
    · simp [Array.getD, h.1, hl]
  · rw [getD_set_ne false hij, h.2]
    simp [List.contains_cons, Ne.symm hij]

theorem Agrees.start : Agrees ops (Array.replicate ops.size false) [] := by
  refine ⟨by simp, fun j => ?_⟩
  by_cases hl : j < ops.size <;> simp [Array.getD, hl]

/-- The goal of the walk through a region. -/
def Order (P : Program) (ops : Array Oper) (Q : Exit → Act → World → Prop) (S : World → Prop) (need : Nat → Bool) (fuel : Nat) (done : List Nat) (a : Act) (w : World) : Prop :=
  ∀ listed, Agrees ops listed done → wpAnyN P ops Q S need fuel listed a w

def wellOrdered (ops : Array Oper) : Bool := Region.noSelect ops && ops.all (fun o => o.after.all fun e => decide (e.on < ops.size))

theorem order_begin {id : Nat} {a : Act} {w : World} (S : World → Prop) (need : Nat → Bool) (hm : P.follows .mixedOrders = true) (n : Nat) (hn : ops.size = n)
    (h : Order P ops Q S need n [] a w.drew) : (Code.region id ops true).wp P Q a w := by
  subst hn
  exact wp_region_any hm (wpAny_of_need _ _ _ _ (h _ Agrees.start))

def freeNow (ops : Array Oper) (done : List Nat) (i : Nat) : Bool :=
  match ops[i]? with
  | none => false
  | some oi => (List.range ops.size).all fun j => j == i || done.contains j || match ops[j]? with
      | some oj => oj.after.any (fun e => Region.binds .any e && e.on == i) || oi.apart ops oj
      | none => true

theorem freeNow_spec {i : Nat} {oi : Oper} {listed : Array Bool} {done : List Nat} (hag : Agrees ops listed done) (hi : ops[i]? = some oi) (h : freeNow ops done i = true) (j : Nat) (oj : Oper)
    (hj : ops[j]? = some oj) (hne : j ≠ i) (hun : listed.getD j true = false) (hno : ∀ e ∈ oj.after, Region.binds .any e = true → e.on ≠ i) :
    oi.apart ops oj = true := by
  have hlt : j < ops.size := (Array.getElem?_eq_some_iff.1 hj).1
  simp only [freeNow, hi, List.all_eq_true, List.mem_range] at h
  have h1 := h j hlt
  rw [getD_true_of (by rw [hag.1]; exact hlt), hag.2] at hun
  have hd : done.contains j = false := by simpa [hlt] using hun
  rw [hd] at h1
  simp only [hj, Bool.or_eq_true, beq_iff_eq, hne, false_or, Bool.false_eq_true] at h1
  rcases h1 with h1 | h1
  · obtain ⟨e, he, hb⟩ := Array.any_eq_true'.1 h1
    simp only [Bool.and_eq_true, beq_iff_eq] at hb
    exact absurd hb.2 (hno e he hb.1)
  · exact h1

/-- What 'need' leaves out waits for number i. -/
def waitFor (ops : Array Oper) (need : Nat → Bool) (i : Nat) : Bool := (List.range ops.size).all fun j => j == i || need j || waits ops j i
def shutList (ops : Array Oper) (done : List Nat) : Bool := done.all fun k => match ops[k]? with
  | some ok => ok.after.all fun e => !Region.binds .any e || done.contains e.on
  | none => true

theorem shutList_spec {listed : Array Bool} {done : List Nat} (hag : Agrees ops listed done) (hw : ops.all (fun o => o.after.all fun e => decide (e.on < ops.size)) = true) (h : shutList ops done = true) : Shut ops listed := by
  intro k ok hk hl e he hb
  rw [hag.2] at hl ⊢
  simp only [Bool.and_eq_true, decide_eq_true_eq] at hl
  have hkd : k ∈ done := by simpa using hl.1
  simp only [shutList, List.all_eq_true] at h
  have h1 := h k hkd
  rw [hk] at h1
  have h2 := Array.all_eq_true_iff_forall_mem.1 h1 e he
  have hall := Array.all_eq_true_iff_forall_mem.1 (Array.all_eq_true_iff_forall_mem.1 hw ok (Array.mem_of_getElem? hk)) e he
  simp only [decide_eq_true_eq] at hall
  simpa [hb, hall] using h2

theorem drop_get {i : Nat} {oi : Oper} {r : List Oper} (h : ops.toList.drop i = oi :: r) : ops[i]? = some oi := by
  have h1 : (ops.toList.drop i)[0]? = some oi := by rw [h]; rfl
  rw [List.getElem?_drop, Nat.add_zero] at h1
  simpa using h1

/-- One that may come up, gives v in each world that meets S, and touches nothing of the others': taken first. -/
theorem order_held {i : Nat} {oi : Oper} {r : List Oper} {v : Value} {fuel : Nat} {done : List Nat} {a : Act} {w : World} (hi0 : ops.toList.drop i = oi :: r)
    (hc : (wellOrdered ops && (upNext ops done).contains i && freeNow ops done i && waitFor ops need i && shutList ops done) = true)
    (hQ : ∀ c a w, Q (.panic c) (a.put oi.dst v) w → Q (.panic c) a w) (hy : YieldsIf P ops S oi v a) (hS : S w)
    (h : Order P ops Q S need fuel (i :: done) (a.put oi.dst v) w) : Order P ops Q S need (fuel + 1) done a w := by
  have hi := drop_get hi0
  simp only [Bool.and_eq_true] at hc
  obtain ⟨⟨⟨⟨hw, hr⟩, hf⟩, hn⟩, hs⟩ := hc
  simp only [wellOrdered, Bool.and_eq_true] at hw
  intro listed hag
  have hr' : i ∈ Region.ready .any ops listed := by rw [hag.ready hw.2]; simpa using hr
  refine wpAnyN_first hi (Region.noSelect_spec hw.1) hQ (fun j hj hne hnd => ?_) fuel listed a w (shutList_spec hag hw.2 hs) (freeNow_spec hag hi hf) hr' hy hS (h _ (hag.step i))
  simp only [waitFor, List.all_eq_true, List.mem_range] at hn
  have h1 := hn j hj
  simpa [hnd, hne] using h1

theorem order_pure {i : Nat} {oi : Oper} {r : List Oper} {v : Value} {fuel : Nat} {done : List Nat} {a : Act} {w : World} (hi0 : ops.toList.drop i = oi :: r)
    (hc : (wellOrdered ops && (upNext ops done).contains i && freeNow ops done i) = true)
    (hQ : ∀ c a w, Q (.panic c) (a.put oi.dst v) w → Q (.panic c) a w) (hy : Yields P ops oi v a)
    (h : Order P ops Q S need fuel (i :: done) (a.put oi.dst v) w) : Order P ops Q S need (fuel + 1) done a w := by
  have hi := drop_get hi0
  simp only [Bool.and_eq_true] at hc
  obtain ⟨⟨hw, hr⟩, hf⟩ := hc
  simp only [wellOrdered, Bool.and_eq_true] at hw
  intro listed hag
  have hr' : i ∈ Region.ready .any ops listed := by rw [hag.ready hw.2]; simpa using hr
  exact wpAnyN_pure hi (Region.noSelect_spec hw.1) hQ fuel listed a w (freeNow_spec hag hi hf) hr' hy (h _ (hag.step i))

/-- One whose guard says no. -/
theorem order_skip {i : Nat} {oi : Oper} {r : List Oper} {fuel : Nat} {done : List Nat} {a : Act} {w : World} (hi0 : ops.toList.drop i = oi :: r)
    (hc : (wellOrdered ops && (upNext ops done).contains i && freeNow ops done i) = true)
    (hQ : ∀ c a w, Q (.panic c) (a.put oi.dst undef) w → Q (.panic c) a w) (hw : Region.wanted oi (yielded ops a.tmps) = false)
    (h : Order P ops Q S need fuel (i :: done) (a.put oi.dst undef) w) : Order P ops Q S need (fuel + 1) done a w :=
  order_pure hi0 hc hQ (.inr ⟨hw, rfl⟩) h

/-- Number i alone may come up. -/
theorem order_one {i : Nat} {oi : Oper} {r : List Oper} {fuel : Nat} {done : List Nat} {a : Act} {w : World} (hi0 : ops.toList.drop i = oi :: r)
    (hc : (wellOrdered ops && (upNext ops done == [i])) = true)
    (h : ∀ K : Act → World → Prop, (∀ a' w', (need i = true → S w → S w') → Order P ops Q S need fuel (i :: done) a' w' → K a' w') →
      if Region.wanted oi (yielded ops a.tmps) then oi.wp P a w K Q else K (a.put oi.dst undef) w) : Order P ops Q S need (fuel + 1) done a w := by
  have hi := drop_get hi0
  simp only [Bool.and_eq_true, beq_iff_eq] at hc
  obtain ⟨hw, hr⟩ := hc
  simp only [wellOrdered, Bool.and_eq_true] at hw
  intro listed hag
  have hr' : Region.ready .any ops listed = [i] := by rw [hag.ready hw.2]; exact hr
  refine ⟨fun h0 => (by rw [h0] at hr'; cases hr'), fun j hj => ?_⟩
  rw [hr', List.mem_singleton] at hj
  subst hj
  have h1 := h (fun a' w' => (need j = true → S w → S w') ∧ wpAnyN P ops Q S need fuel (listed.setIfInBounds j true) a' w') (fun a' w' h2 h3 => ⟨h2, h3 _ (hag.step j)⟩)
  unfold wpOp
  simp only [hi]
  split
  · rename_i hwt; rw [if_pos hwt] at h1; exact .inl h1
  · rename_i hwt; rw [if_neg hwt] at h1; exact h1

/-- Two may come up. -/
theorem order_two {i j : Nat} {oi oj : Oper} {r r' : List Oper} {fuel : Nat} {done : List Nat} {a : Act} {w : World} (hi0 : ops.toList.drop i = oi :: r) (hj0 : ops.toList.drop j = oj :: r')
    (hc : (wellOrdered ops && (upNext ops done == [i, j])) = true)
    (h : ∀ K : Act → World → Prop, (∀ a' w', (need i = true → S w → S w') → Order P ops Q S need fuel (i :: done) a' w' → K a' w') →
      if Region.wanted oi (yielded ops a.tmps) then oi.wp P a w K Q else K (a.put oi.dst undef) w)
    (h' : ∀ K : Act → World → Prop, (∀ a' w', (need j = true → S w → S w') → Order P ops Q S need fuel (j :: done) a' w' → K a' w') →
      if Region.wanted oj (yielded ops a.tmps) then oj.wp P a w K Q else K (a.put oj.dst undef) w) : Order P ops Q S need (fuel + 1) done a w := by
  have hi := drop_get hi0
  have hj := drop_get hj0
  simp only [Bool.and_eq_true, beq_iff_eq] at hc
  obtain ⟨hw, hr⟩ := hc
  simp only [wellOrdered, Bool.and_eq_true] at hw
  intro listed hag
  have hr' : Region.ready .any ops listed = [i, j] := by rw [hag.ready hw.2]; exact hr
  refine ⟨fun h0 => (by rw [h0] at hr'; cases hr'), fun k hk => ?_⟩
  rw [hr', List.mem_cons, List.mem_singleton] at hk
  rcases hk with rfl | rfl
  · have h1 := h (fun a' w' => (need k = true → S w → S w') ∧ wpAnyN P ops Q S need fuel (listed.setIfInBounds k true) a' w') (fun a' w' h2 h3 => ⟨h2, h3 _ (hag.step k)⟩)
    unfold wpOp
    simp only [hi]
    split
    · rename_i hwt; rw [if_pos hwt] at h1; exact .inl h1
    · rename_i hwt; rw [if_neg hwt] at h1; exact h1
  · have h1 := h' (fun a' w' => (need k = true → S w → S w') ∧ wpAnyN P ops Q S need fuel (listed.setIfInBounds k true) a' w') (fun a' w' h2 h3 => ⟨h2, h3 _ (hag.step k)⟩)
    unfold wpOp
    simp only [hj]
    split
    · rename_i hwt; rw [if_pos hwt] at h1; exact .inl h1
    · rename_i hwt; rw [if_neg hwt] at h1; exact h1

/-- All have come up. -/
theorem order_done {fuel : Nat} {done : List Nat} {a : Act} {w : World} (hc : (wellOrdered ops && (upNext ops done == [])) = true) (h : Q .normal a w) : Order P ops Q S need fuel done a w := by
  simp only [Bool.and_eq_true, beq_iff_eq] at hc
  obtain ⟨hw, hr⟩ := hc
  simp only [wellOrdered, Bool.and_eq_true] at hw
  intro listed hag
  have hr' : Region.ready .any ops listed = [] := by rw [hag.ready hw.2]; exact hr
  cases fuel with
  | zero => exact ⟨hr', h⟩
  | succ _ => exact ⟨fun _ => h, by rw [hr']; simp⟩

end
end Go.Proofs.YtjdbjjjbgibpaaaGreatDoor
namespace Go.Proofs.YtjdbjjjbgibpaaaGreatDoor
open Go.RowKit

theorem Slab.put1 {w : World} {e : TypeId} {size n c g o j : Nat} {xs : List Value} (h : Slab w e size (some ⟨g, o, none⟩) n c xs) (hj : j < n * size) (v : Value) : Slab (w.setCell ⟨g, o + j, none⟩ v) e size (some ⟨g, o, none⟩) n c (xs.set j v) := by
  obtain ⟨hl, hn, hm, ⟨h0, _⟩ | ⟨g', o', cur, h0, hb, hs, hw⟩⟩ := h
  · cases h0
  · injection h0 with h0; injection h0 with h0 h1; subst h0; subst h1
    refine Slab.mk' (by simpa using hl) hn hm (hb.put (o + j) v) (by simpa using hs) (fun i hi => ?_)
    rw [Array.getElem?_setIfInBounds]
    by_cases e : j = i
    · subst e
      have hle := Nat.mul_le_mul_right size hn
      rw [if_pos (by omega), if_pos (by omega), List.getElem?_set_self (by omega)]
    · rw [if_neg (by omega), List.getElem?_set_ne e]
      exact window_get hw hi

theorem Slab.made (w : World) (e : TypeId) (size : Nat) : Slab (w.alloc (.cells #[] e)) e size (some ⟨w.heap.size, 0, none⟩) 0 0 [] :=
  ⟨by simp, Nat.le_refl _, Nat.zero_le _, .inr ⟨w.heap.size, 0, #[], rfl, Blk.new w e #[], by simp, by simp⟩⟩
section
variable {P : Program} {ops : Array Oper} {Q : Exit → Act → World → Prop} {S T : World → Prop} {need : Nat → Bool}
end
end Go.Proofs.YtjdbjjjbgibpaaaGreatDoor
namespace Go.Proofs.YtjdbjjjbgibpaaaGreatDoor
open Go.RowKit

/-- A term as a tree. -/
inductive Tm where
  | mk (kind : Int) (neg : Bool) (limbs : List Int) (text : ByteArray) (num : Int) (items tail : List Tm)

def Tm.size : Tm → Nat
  | .mk _ _ _ _ _ items tail => 1 + sizes items + sizes tail
where sizes : List Tm → Nat
  | [] => 0
  | t :: ts => t.size + sizes ts + 1

def Tm.kind : Tm → Int | .mk k _ _ _ _ _ _ => k
def Tm.text : Tm → ByteArray | .mk _ _ _ s _ _ _ => s
def Tm.num : Tm → Int | .mk _ _ _ _ n _ _ => n

/-- A slice's length, and its capacity. -/
def RoomC (n c bytes : Nat) : Prop := Roomy n bytes ∧ n ≤ c ∧ c ≤ maxLen
theorem RoomC.zero (bytes : Nat) : RoomC 0 0 bytes := ⟨by unfold Roomy; omega, Nat.le_refl _, Nat.zero_le _⟩
mutual
/-- Seven cells read as a term. -/
def TermIn (w : World) (B : Nat → Prop) (F : Bool) : List Value → Tm → Prop
  | cs, .mk k neg limbs text num items tail => ∃ la ln lc ia im ic ta tn tc css dss,
      cs = [.int .u8 k, .bool neg, .slice la ln lc, .string text, .int .i64 num, .slice ia im ic, .slice ta tn tc] ∧
      (RoomC ln lc 4 ∧ RoomC im ic 104 ∧ RoomC tn tc 104) ∧
      Reads w B F 1 la ln (limbs.map (Value.int .u32)) ∧ Reads w B F 7 ia im css.flatten ∧ TermsIn w B F css items ∧ Reads w B F 7 ta tn dss.flatten ∧ TermsIn w B F dss tail
def TermsIn (w : World) (B : Nat → Prop) (F : Bool) : List (List Value) → List Tm → Prop
  | [], [] => True
  | cs :: css, t :: ts => TermIn w B F cs t ∧ TermsIn w B F css ts
  | [], _ :: _ => False
  | _ :: _, [] => False
end

mutual
theorem TermIn.keep {w w' : World} {B : Nat → Prop} {F : Bool} {fp : Nat → Prop} (hk : Keeps fp w w') (hf : ∀ k, B k → ¬ fp k) : ∀ (t : Tm) (cs : List Value), TermIn w B F cs t → TermIn w' B F cs t
  | .mk k neg limbs text num items tail, cs, h => by
    unfold TermIn at h ⊢
    obtain ⟨la, ln, lc, ia, im, ic, ta, tn, tc, css, dss, e, hb, h1, h2, h3, h4, h5⟩ := h
    exact ⟨la, ln, lc, ia, im, ic, ta, tn, tc, css, dss, e, hb, h1.keep hk hf, h2.keep hk hf, TermsIn.keep hk hf items css h3, h4.keep hk hf, TermsIn.keep hk hf tail dss h5⟩
theorem TermsIn.keep {w w' : World} {B : Nat → Prop} {F : Bool} {fp : Nat → Prop} (hk : Keeps fp w w') (hf : ∀ k, B k → ¬ fp k) : ∀ (ts : List Tm) (css : List (List Value)), TermsIn w B F css ts → TermsIn w' B F css ts
  | [], [], _ => by unfold TermsIn; trivial
  | t :: ts, cs :: css, h => by
    unfold TermsIn at h ⊢
    exact ⟨TermIn.keep hk hf t cs h.1, TermsIn.keep hk hf ts css h.2⟩
  | [], _ :: _, h => by unfold TermsIn at h; exact h.elim
  | _ :: _, [], h => by unfold TermsIn at h; exact h.elim
end

mutual
theorem TermIn.more {w : World} {B B' : Nat → Prop} {F : Bool} (hB : ∀ k, k < w.heap.size → B k → B' k) : ∀ (t : Tm) (cs : List Value), TermIn w B F cs t → TermIn w B' F cs t
  | .mk k neg limbs text num items tail, cs, h => by
    unfold TermIn at h ⊢
    obtain ⟨la, ln, lc, ia, im, ic, ta, tn, tc, css, dss, e, hb, h1, h2, h3, h4, h5⟩ := h
    exact ⟨la, ln, lc, ia, im, ic, ta, tn, tc, css, dss, e, hb, h1.more hB, h2.more hB, TermsIn.more hB items css h3, h4.more hB, TermsIn.more hB tail dss h5⟩
theorem TermsIn.more {w : World} {B B' : Nat → Prop} {F : Bool} (hB : ∀ k, k < w.heap.size → B k → B' k) : ∀ (ts : List Tm) (css : List (List Value)), TermsIn w B F css ts → TermsIn w B' F css ts
  | [], [], _ => by unfold TermsIn; trivial
  | t :: ts, cs :: css, h => by
    unfold TermsIn at h ⊢
    exact ⟨TermIn.more hB t cs h.1, TermsIn.more hB ts css h.2⟩
  | [], _ :: _, h => by unfold TermsIn at h; exact h.elim
  | _ :: _, [], h => by unfold TermsIn at h; exact h.elim
end

theorem TermIn.len {w : World} {B : Nat → Prop} {F : Bool} {t : Tm} {cs : List Value} (h : TermIn w B F cs t) : cs.length = 7 := by
  cases t
  unfold TermIn at h
  obtain ⟨la, ln, lc, ia, im, ic, ta, tn, tc, css, dss, rfl, _⟩ := h
  rfl

theorem TermsIn.lens {w : World} {B : Nat → Prop} {F : Bool} : ∀ {ts : List Tm} {css : List (List Value)}, TermsIn w B F css ts → css.length = ts.length ∧ ∀ c ∈ css, c.length = 7
  | [], [], _ => ⟨rfl, fun _ h => by cases h⟩
  | t :: ts, cs :: css, h => by
    unfold TermsIn at h
    obtain ⟨h1, h2⟩ := TermsIn.lens h.2
    refine ⟨by simp [h1], fun c hc => ?_⟩
    rcases List.mem_cons.1 hc with rfl | hc
    · exact h.1.len
    · exact h2 c hc
  | [], _ :: _, h => by unfold TermsIn at h; exact h.elim
  | _ :: _, [], h => by unfold TermsIn at h; exact h.elim

theorem TermsIn.get {w : World} {B : Nat → Prop} {F : Bool} : ∀ {ts : List Tm} {css : List (List Value)}, TermsIn w B F css ts → ∀ i (h1 : i < css.length) (h2 : i < ts.length), TermIn w B F css[i] ts[i]
  | [], [], _, i, h1, _ => by simp at h1
  | t :: ts, cs :: css, h, i, h1, h2 => by
    unfold TermsIn at h
    cases i with
    | zero => exact h.1
    | succ i => exact TermsIn.get h.2 i (by simpa using h1) (by simpa using h2)
  | [], _ :: _, h, _, _, _ => by unfold TermsIn at h; exact h.elim
  | _ :: _, [], h, _, _, _ => by unfold TermsIn at h; exact h.elim

theorem TermsIn.append {w : World} {B : Nat → Prop} {F : Bool} : ∀ {ts us : List Tm} {css dss : List (List Value)}, TermsIn w B F css ts → TermsIn w B F dss us → TermsIn w B F (css ++ dss) (ts ++ us)
  | [], us, [], dss, _, k => k
  | t :: ts, us, cs :: css, dss, h, k => by
    unfold TermsIn at h
    rw [List.cons_append, List.cons_append]
    unfold TermsIn
    exact ⟨h.1, TermsIn.append h.2 k⟩
  | [], _, _ :: _, _, h, _ => by unfold TermsIn at h; exact h.elim
  | _ :: _, _, [], _, h, _ => by unfold TermsIn at h; exact h.elim

theorem TermsIn.one {w : World} {B : Nat → Prop} {F : Bool} {t : Tm} {cs : List Value} (h : TermIn w B F cs t) : TermsIn w B F [cs] [t] := by
  unfold TermsIn
  exact ⟨h, by unfold TermsIn; trivial⟩

mutual
/-- What a term's cells are: each is one cell. -/
theorem TermIn.ones {w : World} {B : Nat → Prop} {F : Bool} : ∀ (t : Tm) (cs : List Value), TermIn w B F cs t → ∀ u ∈ cs, u.oneCell' = true
  | .mk k neg limbs text num items tail, cs, h, u, hu => by
    unfold TermIn at h
    obtain ⟨la, ln, lc, ia, im, ic, ta, tn, tc, css, dss, rfl, _⟩ := h
    simp only [List.mem_cons, List.not_mem_nil, or_false] at hu
    rcases hu with rfl | rfl | rfl | rfl | rfl | rfl | rfl <;> rfl
theorem TermsIn.ones {w : World} {B : Nat → Prop} {F : Bool} : ∀ (ts : List Tm) (css : List (List Value)), TermsIn w B F css ts → ∀ u ∈ css.flatten, u.oneCell' = true
  | [], [], _, u, hu => by simp at hu
  | t :: ts, cs :: css, h, u, hu => by
    unfold TermsIn at h
    rw [List.flatten_cons, List.mem_append] at hu
    rcases hu with hu | hu
    · exact TermIn.ones t cs h.1 u hu
    · exact TermsIn.ones ts css h.2 u hu
  | [], _ :: _, h, _, _ => by unfold TermsIn at h; exact h.elim
  | _ :: _, [], h, _, _ => by unfold TermsIn at h; exact h.elim
end

theorem flat_set7 {v0 v1 v2 v3 v4 v5 v6 : Value} : ∀ {css : List (List Value)}, (∀ c ∈ css, c.length = 7) → ∀ k, k < css.length →
    (((((((css.flatten.set (k * 7) v0).set (k * 7 + 1) v1).set (k * 7 + 2) v2).set (k * 7 + 3) v3).set (k * 7 + 4) v4).set (k * 7 + 5) v5).set (k * 7 + 6) v6) = (css.set k [v0, v1, v2, v3, v4, v5, v6]).flatten
  | [], _, k, h1 => by simp at h1
  | c :: css, h, k, h1 => by
    have hc := h c List.mem_cons_self
    match c, hc with
    | [a0, a1, a2, a3, a4, a5, a6], _ =>
      cases k with
      | zero => simp
      | succ k =>
        have ih := flat_set7 (v0 := v0) (v1 := v1) (v2 := v2) (v3 := v3) (v4 := v4) (v5 := v5) (v6 := v6) (fun d hd => h d (List.mem_cons_of_mem _ hd)) k (by simpa using h1)
        rw [List.set_cons_succ, List.flatten_cons, List.flatten_cons, ← ih]
        have e : (k + 1) * 7 = k * 7 + 7 := by omega
        rw [e]
        rfl

/-- The k-th of terms: its cells, and what they read as. -/
theorem TermsIn.at {w : World} {B : Nat → Prop} {F : Bool} : ∀ {ts : List Tm} {css : List (List Value)}, TermsIn w B F css ts → ∀ k, k < css.length →
    ∃ kd ng la ln lc tx nm ia im ic ta tn tc limbs items tail dss ess, css[k]? = some [.int .u8 kd, .bool ng, .slice la ln lc, .string tx, .int .i64 nm, .slice ia im ic, .slice ta tn tc] ∧ ts[k]? = some (.mk kd ng limbs tx nm items tail) ∧
      (RoomC ln lc 4 ∧ RoomC im ic 104 ∧ RoomC tn tc 104) ∧ Reads w B F 1 la ln (limbs.map (Value.int .u32)) ∧ Reads w B F 7 ia im (List.flatten dss) ∧ TermsIn w B F dss items ∧ Reads w B F 7 ta tn (List.flatten ess) ∧ TermsIn w B F ess tail ∧
      Tm.size.sizes items + Tm.size.sizes tail + 1 ≤ Tm.size.sizes ts
  | [], [], _, k, h1 => by simp at h1
  | t :: ts, cs :: css, h, k, h1 => by
    unfold TermsIn at h
    cases k with
    | zero =>
      obtain ⟨h0, _⟩ := h
      cases t with
      | mk kd ng limbs tx nm items tail =>
        unfold TermIn at h0
        obtain ⟨la, ln, lc, ia, im, ic, ta, tn, tc, dss, ess, rfl, hb, h1, h2, h3, h4, h5⟩ := h0
        exact ⟨kd, ng, la, ln, lc, tx, nm, ia, im, ic, ta, tn, tc, limbs, items, tail, dss, ess, rfl, rfl, hb, h1, h2, h3, h4, h5, by simp only [Tm.size.sizes, Tm.size]; omega⟩
    | succ k =>
      obtain ⟨kd, ng, la, ln, lc, tx, nm, ia, im, ic, ta, tn, tc, limbs, items, tail, dss, ess, e1, e2, hb, h1, h2, h3, h4, h5, hz⟩ := TermsIn.at h.2 k (by simpa using h1)
      exact ⟨kd, ng, la, ln, lc, tx, nm, ia, im, ic, ta, tn, tc, limbs, items, tail, dss, ess, by simpa using e1, by simpa using e2, hb, h1, h2, h3, h4, h5, by simp only [Tm.size.sizes]; omega⟩
  | [], _ :: _, h, _, _ => by unfold TermsIn at h; exact h.elim
  | _ :: _, [], h, _, _ => by unfold TermsIn at h; exact h.elim

theorem flat_cells {css : List (List Value)} {k : Nat} {v0 v1 v2 v3 v4 v5 v6 : Value} (h7 : ∀ c ∈ css, c.length = 7) (h : css[k]? = some [v0, v1, v2, v3, v4, v5, v6]) :
    css.flatten[k * 7]? = some v0 ∧ css.flatten[k * 7 + 1]? = some v1 ∧ css.flatten[k * 7 + 2]? = some v2 ∧ css.flatten[k * 7 + 3]? = some v3 ∧ css.flatten[k * 7 + 4]? = some v4 ∧ css.flatten[k * 7 + 5]? = some v5 ∧ css.flatten[k * 7 + 6]? = some v6 := by
  obtain ⟨hk, he⟩ := List.getElem?_eq_some_iff.1 h
  have g := fun j hj => flat_get h7 k hk j hj
  rw [he] at g
  exact ⟨by simpa using g 0 (by omega), g 1 (by omega), g 2 (by omega), g 3 (by omega), g 4 (by omega), g 5 (by omega), g 6 (by omega)⟩

mutual
theorem TermIn.weak {w : World} {B : Nat → Prop} {F : Bool} : ∀ (t : Tm) (cs : List Value), TermIn w B F cs t → TermIn w B false cs t
  | .mk k neg limbs text num items tail, cs, h => by
    unfold TermIn at h ⊢
    obtain ⟨la, ln, lc, ia, im, ic, ta, tn, tc, css, dss, e, hb, h1, h2, h3, h4, h5⟩ := h
    exact ⟨la, ln, lc, ia, im, ic, ta, tn, tc, css, dss, e, hb, h1.weak, h2.weak, TermsIn.weak items css h3, h4.weak, TermsIn.weak tail dss h5⟩
theorem TermsIn.weak {w : World} {B : Nat → Prop} {F : Bool} : ∀ (ts : List Tm) (css : List (List Value)), TermsIn w B F css ts → TermsIn w B false css ts
  | [], [], _ => by unfold TermsIn; trivial
  | t :: ts, cs :: css, h => by
    unfold TermsIn at h ⊢
    exact ⟨TermIn.weak t cs h.1, TermsIn.weak ts css h.2⟩
  | [], _ :: _, h => by unfold TermsIn at h; exact h.elim
  | _ :: _, [], h => by unfold TermsIn at h; exact h.elim
end

theorem TermIn.cells {w : World} {B : Nat → Prop} {F : Bool} {cs : List Value} {t : Tm} (h : TermIn w B F cs t) :
    ∃ kd ng la ln lc tx nm ia im ic ta tn tc, cs = [.int .u8 kd, .bool ng, .slice la ln lc, .string tx, .int .i64 nm, .slice ia im ic, .slice ta tn tc] ∧ kd = t.kind ∧ tx = t.text ∧ nm = t.num := by
  cases t
  unfold TermIn at h
  obtain ⟨la, ln, lc, ia, im, ic, ta, tn, tc, css, dss, e, _⟩ := h
  exact ⟨_, _, la, ln, lc, _, _, ia, im, ic, ta, tn, tc, e, rfl, rfl, rfl⟩

theorem Reads.sub {w : World} {B : Nat → Prop} {F : Bool} {g o n i : Nat} {css : List (List Value)} {c : List Value} (h : Reads w B F 7 (some ⟨g, o, none⟩) n css.flatten) (h7 : ∀ c ∈ css, c.length = 7) (hi : css[i]? = some c) :
    Reads w B F 7 (some ⟨g, o + i * 7, none⟩) 1 (List.flatten [c]) := by
  obtain ⟨hlt, he⟩ := List.getElem?_eq_some_iff.1 hi
  have hc7 : c.length = 7 := h7 c (he ▸ List.getElem_mem hlt)
  have hn : css.length = n := by have := h.1; rw [flat_len h7] at this; omega
  refine ⟨by simp [hc7], fun _ => ?_⟩
  obtain ⟨ad, e, hs, hb, hl, hcell⟩ := h.2 (by omega)
  injection e with e
  subst e
  refine ⟨_, rfl, rfl, hb, hl, fun j u hu => ?_⟩
  have hj : j < 7 := by
    have := (List.getElem?_eq_some_iff.1 hu).1
    simp at this; omega
  have := hcell (i * 7 + j) u (by rw [flat_get h7 i hlt j hj, he]; simpa using hu)
  simpa [Nat.add_assoc] using this

/-- A term without limbs, items and tail. -/
abbrev flatT (k : Int) (s : ByteArray) (n : Int) : Tm := .mk k false [] s n [] []
abbrev flatC (k : Int) (s : ByteArray) (n : Int) : List Value := [.int .u8 k, .bool false, .slice none 0 0, .string s, .int .i64 n, .slice none 0 0, .slice none 0 0]

theorem flat_in (w : World) (B : Nat → Prop) (F : Bool) (k : Int) (s : ByteArray) (n : Int) : TermIn w B F (flatC k s n) (flatT k s n) := by
  unfold TermIn
  exact ⟨none, 0, 0, none, 0, 0, none, 0, 0, [], [], rfl, ⟨RoomC.zero _, RoomC.zero _, RoomC.zero _⟩, Reads.zero _ _ _ _ _, Reads.zero _ _ _ _ _, by unfold TermsIn; trivial, Reads.zero _ _ _ _ _, by unfold TermsIn; trivial⟩

theorem Blk.tput7 {w : World} {g : Nat} {t : TypeId} {a0 a1 a2 a3 a4 a5 a6 : Value} (h : Blk w g t #[a0, a1, a2, a3, a4, a5, a6]) (v0 v1 v2 v3 v4 v5 v6 : Value) :
    Blk (((((((w.setCell ⟨g, 0, none⟩ v0).setCell ⟨g, 1, none⟩ v1).setCell ⟨g, 2, none⟩ v2).setCell ⟨g, 3, none⟩ v3).setCell ⟨g, 4, none⟩ v4).setCell ⟨g, 5, none⟩ v5).setCell ⟨g, 6, none⟩ v6) g t #[v0, v1, v2, v3, v4, v5, v6] := by
  have := ((((((h.put 0 v0).put 1 v1).put 2 v2).put 3 v3).put 4 v4).put 5 v5).put 6 v6
  simpa using this

theorem Slab.part {w : World} {e : TypeId} {size n c i : Nat} {B : Option Addr} {xs : List Value} (h : Slab w e size B n c xs) (hi : i ≤ n) : Reads w (rowB B) true size B i (xs.take (i * size)) := (h.upto hi).reads
theorem one_reads7 {w : World} {t : TypeId} {vb : Nat} {v0 v1 v2 v3 v4 v5 v6 : Value} (hv : Blk w vb t #[v0, v1, v2, v3, v4, v5, v6]) : Reads w (fun _ => True) true 7 (some ⟨vb, 0, none⟩) 1 [v0, v1, v2, v3, v4, v5, v6] := by
  refine ⟨rfl, fun _ => ⟨_, rfl, rfl, trivial, hv.lt, fun j u hu => ⟨?_, fun _ => hv.free _⟩⟩⟩
  rw [hv.cell, ← hu]; simp
theorem Tryz.infoTm : (Tryz.prog.info? 26).map (fun i => (i.zero, i.size, i.bytes)) = some (some (.agg #[.int .u8 0, .bool false, .slice none 0 0, .string ByteArray.empty, .int .i64 0, .slice none 0 0, .slice none 0 0]), 7, 104) := by kernel_rfl
theorem Tryz.infoLm : (Tryz.prog.info? 86).map (fun i => (i.zero, i.size, i.bytes)) = some (some (.int .u32 0), 1, 4) := by kernel_rfl
end Go.Proofs.YtjdbjjjbgibpaaaGreatDoor
namespace Go.Proofs.YtjdbjjjbgibpaaaGreatDoor

/-- whole.Right, of a tree. -/
def intT (k : Int) (ng : Bool) (limbs : List Int) (text : ByteArray) (num : Int) (im tm : Nat) : Bool :=
  decide (k = 1) && decide (text = ByteArray.empty) && decide (num = 0) && decide (im + tm = 0) && decide (limbs.length ≤ 32) && (if limbs.length = 0 then !ng else decide (limbs.getD (limbs.length - 1) 0 ≠ 0))
/-- What is asked of a term that is no integer, ahead of its items. -/
def headT (k : Int) (ng : Bool) (limbs : List Int) (text : ByteArray) (num : Int) (items tail : List Tm) : Bool :=
  !ng && decide (limbs.length = 0) &&
    (if k = 2 then decide (num = 0) && decide (items.length = 0) && decide (tail.length = 0) && decide (text.size ≤ 40)
    else decide (text = ByteArray.empty) &&
      (if k = 3 ∨ k = 5 then decide (items.length = 0) && decide (tail.length = 0) && decide (0 ≤ num) && decide (num ≤ 1099511627776)
      else if k = 4 then decide (tail.length = 0) && decide (0 ≤ num) && decide (num ≤ 16384)
      else if k = 6 then decide (num = 0) && decide (tail.length = 0)
      else if k = 7 then decide (num = 0) && decide (tail.length ≤ 1) && decide (tail.length ≤ items.length) && tail.all (fun x => decide (x.kind ≠ 7))
      else false))
def baseT (k : Int) : Int := if k = 4 then 2 else 1
def eachT (k : Int) : Int := if k = 7 then 1 else 0
mutual
def sizeT : Tm → Int
  | .mk k ng limbs text num items tail =>
    if k = 1 then (if intT k ng limbs text num items.length tail.length then 1 + limbs.length else 0)
    else if headT k ng limbs text num items tail then
      match addT (baseT k) (eachT k) items with
      | none => 0
      | some n => match addT n 0 tail with
        | none => 0
        | some m => m
    else 0
def addT (n each : Int) : List Tm → Option Int
  | [] => some n
  | x :: l => if 0 < sizeT x ∧ n + sizeT x + each ≤ 4096 then addT (n + sizeT x + each) each l else none
end
def rightT (t : Tm) : Bool := decide (0 < sizeT t)
end Go.Proofs.YtjdbjjjbgibpaaaGreatDoor
