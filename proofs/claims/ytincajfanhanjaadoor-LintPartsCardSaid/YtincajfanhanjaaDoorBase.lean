/- Words for memory: what a step keeps, slices that read as lists of cells. Plain lemmas; no program in sight. -/
import Derived.WalkKit
import Derived.WalkSpells
import Derived.WalkLawsBesides
import Derived.Deep.Draws
import Derived.Deep.AppendLies
import Derived.Maps.AppendAt
import Derived.Lib.Hide
import Derived.Laws.CopyRow
import Derived.ArgAppend
namespace Go.Proofs.YtincajfanhanjaaDoor
open Go.RowKit

/-- A fact kept from the walk. -/
theorem hide {p : Prop} (h : p) : Hid p := h

/-- From w to w' nothing that was there has turned, but for the blocks of fp. -/
structure Keeps (fp : Nat → Prop) (w w' : World) : Prop where
  os : w'.os = w.os
  tape : w'.tape = w.tape
  output : w'.output = w.output
  size : w.heap.size ≤ w'.heap.size
  block : ∀ k, k < w.heap.size → ¬ fp k → w'.heap[k]? = w.heap[k]?

abbrev NoB : Nat → Prop := fun _ => False

theorem Keeps.refl (fp : Nat → Prop) (w : World) : Keeps fp w w := ⟨rfl, rfl, rfl, Nat.le_refl _, fun _ _ _ => rfl⟩
theorem Keeps.trans' {fp fp' fp'' : Nat → Prop} {a b c : World} (h : Keeps fp a b) (k : Keeps fp' b c) (h1 : ∀ i, i < a.heap.size → fp i → fp'' i) (h2 : ∀ i, i < a.heap.size → fp' i → fp'' i) : Keeps fp'' a c :=
  ⟨k.os.trans h.os, k.tape.trans h.tape, k.output.trans h.output, Nat.le_trans h.size k.size, fun i hi hn =>
    (k.block i (Nat.lt_of_lt_of_le hi h.size) (fun e => hn (h2 i hi e))).trans (h.block i hi (fun e => hn (h1 i hi e)))⟩
theorem Keeps.mono {fp fp' : Nat → Prop} {a b : World} (h : Keeps fp a b) (h1 : ∀ i, i < a.heap.size → fp i → fp' i) : Keeps fp' a b :=
  ⟨h.os, h.tape, h.output, h.size, fun i hi hn => h.block i hi (fun e => hn (h1 i hi e))⟩
theorem Keeps.drew {fp : Nat → Prop} {a b : World} (h : Keeps fp a b) : Keeps fp a b.drew := ⟨h.os, h.tape, h.output, h.size, h.block⟩
theorem Keeps.drewN {fp : Nat → Prop} {a b : World} (h : Keeps fp a b) (n : Nat) : Keeps fp a (b.drewN n) := ⟨h.os, h.tape, h.output, h.size, h.block⟩
theorem Keeps.alloc {fp : Nat → Prop} {a b : World} (h : Keeps fp a b) (o : Obj) : Keeps fp a (b.alloc o) :=
  ⟨h.os, h.tape, h.output, Nat.le_trans h.size (by simp), fun i hi hn => (Below.heap_alloc b o i (Nat.lt_of_lt_of_le hi h.size)).trans (h.block i hi hn)⟩
theorem Keeps.setCell {fp : Nat → Prop} {a b : World} (h : Keeps fp a b) {p : Addr} (hp : fp p.block ∨ a.heap.size ≤ p.block) (u : Value) : Keeps fp a (b.setCell p u) :=
  ⟨h.os, h.tape, h.output, by simpa [World.setCell] using h.size, fun i hi hn => (Below.heap_setCell b p u i (by
    rintro rfl
    rcases hp with hp | hp
    · exact hn hp
    · omega)).trans (h.block i hi hn)⟩
theorem Keeps.grown {fp : Nat → Prop} {a b c : World} {row : Option Nat} (h : Keeps fp a b) (hg : b.grownBy c row) (hr : ∀ k, row = some k → k < a.heap.size → fp k) : Keeps fp a c :=
  ⟨hg.os.trans h.os, hg.tape.trans h.tape, hg.output.trans h.output, Nat.le_trans h.size hg.size, fun i hi hn =>
    (hg.block i (Nat.lt_of_lt_of_le hi h.size) (fun e => hn (hr i e.symm hi))).trans (h.block i hi hn)⟩
theorem Keeps.of_below {a b : World} (h : Below a.heap.size a b) (fp : Nat → Prop) : Keeps fp a b := ⟨h.os, h.tape, h.output, h.size, fun i hi _ => h.block i hi⟩
theorem Keeps.below {a b : World} (h : Keeps NoB a b) : Below a.heap.size a b := ⟨h.os, h.tape, h.output, h.size, fun i hi => h.block i hi id⟩
theorem Keeps.belowB {fp : Nat → Prop} {a b : World} {B : Nat} (h : Keeps fp a b) (hB : B ≤ a.heap.size) (hf : ∀ k, k < B → ¬ fp k) : Below B a b := ⟨h.os, h.tape, h.output, h.size, fun i hi => h.block i (by omega) (hf i hi)⟩
theorem Keeps.cell {fp : Nat → Prop} {a b : World} (h : Keeps fp a b) {p : Addr} {v : Value} (hp : ¬ fp p.block) (hc : a.cell? p = some v) : b.cell? p = some v :=
  (World.cell?_of_block (h.block p.block (World.block_lt_of_cell? a p hc) hp)).trans hc
theorem Keeps.frozen {fp : Nat → Prop} {a b : World} (h : Keeps fp a b) {p : Addr} (hl : p.block < a.heap.size) (hp : ¬ fp p.block) : b.frozen? p = a.frozen? p :=
  World.frozen?_of_block (h.block p.block hl hp)

/-- Block g is just these cells, none frozen. -/
def Blk (w : World) (g : Nat) (t : TypeId) (cs : Array Value) : Prop := w.heap[g]? = some (.cells cs t (0, 0))
section
variable {w w' : World} {g : Nat} {t : TypeId} {cs : Array Value} {fp : Nat → Prop}
theorem Blk.lt (h : Blk w g t cs) : g < w.heap.size := by
  rcases Nat.lt_or_ge g w.heap.size with hlt | hge
  · exact hlt
  · unfold Blk at h; rw [Array.getElem?_eq_none hge] at h; cases h
theorem Blk.cell (h : Blk w g t cs) (i : Nat) : w.cell? ⟨g, i, none⟩ = cs[i]? := cell_of_row w g i cs t (0, 0) h
theorem Blk.free (h : Blk w g t cs) (i : Nat) : w.frozen? ⟨g, i, none⟩ = false := by
  unfold Blk at h
  simp [World.frozen?, h]
theorem Blk.new (w : World) (t : TypeId) (cs : Array Value) : Blk (w.alloc (.cells cs t)) w.heap.size t cs := heap_alloc_new w _
theorem Blk.drew (h : Blk w g t cs) : Blk w.drew g t cs := h
theorem Blk.alloc (h : Blk w g t cs) (o : Obj) : Blk (w.alloc o) g t cs := (Below.heap_alloc w o g h.lt).trans h
theorem Blk.put (h : Blk w g t cs) (i : Nat) (u : Value) : Blk (w.setCell ⟨g, i, none⟩ u) g t (cs.setIfInBounds i u) := by
  unfold Blk at h ⊢
  simp [World.setCell, Array.getElem?_modify, h]
theorem Blk.far (h : Blk w g t cs) {p : Addr} (hp : g ≠ p.block) (u : Value) : Blk (w.setCell p u) g t cs := (Below.heap_setCell w p u g hp).trans h
theorem Blk.keep (h : Blk w g t cs) (hk : Keeps fp w w') (hg : ¬ fp g) : Blk w' g t cs := (hk.block g h.lt hg).trans h
theorem Blk.one {cs' : Array Value} {t' : TypeId} (h : Blk w g t cs) (h' : Blk w g t' cs') : t = t' ∧ cs = cs' := by
  unfold Blk at h h'
  rw [h] at h'
  injection h' with h'
  injection h' with h1 h2
  exact ⟨h2, h1⟩
end

/-- A slice's address and length: it reads as these cells, in blocks of B; where F: none of them frozen. -/
def Reads (w : World) (B : Nat → Prop) (F : Bool) (size : Nat) (A : Option Addr) (n : Nat) (xs : List Value) : Prop :=
  xs.length = n * size ∧ (0 < n → ∃ ad, A = some ad ∧ ad.spot = none ∧ B ad.block ∧ ad.block < w.heap.size ∧ ∀ j u, xs[j]? = some u → w.cell? ⟨ad.block, ad.off + j, none⟩ = some u ∧ (F = true → w.frozen? ⟨ad.block, ad.off + j, none⟩ = false))

theorem Addr.add_eq (a : Addr) (n : Nat) (h : a.spot = none) : a.add n = ⟨a.block, a.off + n, none⟩ := by
  unfold Addr.add
  split
  · rename_i e; subst e; cases a; simp_all
  · rfl

section
variable {w w' : World} {B B' : Nat → Prop} {F : Bool} {size n : Nat} {A : Option Addr} {xs : List Value}
theorem Reads.zero (w : World) (B : Nat → Prop) (F : Bool) (size : Nat) (A : Option Addr) : Reads w B F size A 0 [] := ⟨by simp, fun h => absurd h (by omega)⟩
theorem Reads.keep {fp : Nat → Prop} (h : Reads w B F size A n xs) (hk : Keeps fp w w') (hf : ∀ k, B k → ¬ fp k) : Reads w' B F size A n xs := by
  refine ⟨h.1, fun hn => ?_⟩
  obtain ⟨ad, e, hs, hb, hl, hc⟩ := h.2 hn
  refine ⟨ad, e, hs, hb, Nat.lt_of_lt_of_le hl hk.size, fun j u hu => ?_⟩
  obtain ⟨h1, h2⟩ := hc j u hu
  exact ⟨hk.cell (p := ⟨ad.block, ad.off + j, none⟩) (hf _ hb) h1, fun hF => (hk.frozen (p := ⟨ad.block, ad.off + j, none⟩) hl (hf _ hb)).trans (h2 hF)⟩
theorem Reads.more (h : Reads w B F size A n xs) (hB : ∀ k, k < w.heap.size → B k → B' k) : Reads w B' F size A n xs := by
  refine ⟨h.1, fun hn => ?_⟩
  obtain ⟨ad, e, hs, hb, hl, hc⟩ := h.2 hn
  exact ⟨ad, e, hs, hB _ hl hb, hl, hc⟩
theorem Reads.weak (h : Reads w B F size A n xs) : Reads w B false size A n xs := by
  refine ⟨h.1, fun hn => ?_⟩
  obtain ⟨ad, e, hs, hb, hl, hc⟩ := h.2 hn
  exact ⟨ad, e, hs, hb, hl, fun j u hu => ⟨(hc j u hu).1, fun h => by cases h⟩⟩
end

/-- So many elements of so many bytes lie within what one array may take. -/
def Roomy (n bytes : Nat) : Prop := n * bytes ≤ 140737488355328
theorem Roomy.len {n bytes : Nat} (h : Roomy n bytes) (hb : 0 < bytes) : n ≤ maxLen := by
  unfold Roomy at h
  have := Nat.le_mul_of_pos_right n hb
  unfold maxLen
  omega
theorem Roomy.of_le {n m bytes : Nat} (h : Roomy n bytes) (hm : m ≤ n) : Roomy m bytes := by
  unfold Roomy at h ⊢
  exact Nat.le_trans (Nat.mul_le_mul_right _ hm) h
theorem Roomy.small {n bytes : Nat} (hn : n ≤ 1048576) (hb : bytes ≤ 104) : Roomy n bytes := by
  unfold Roomy
  exact Nat.le_trans (Nat.mul_le_mul hn hb) (by omega)

/-- A list of rows of one length, laid one behind the other. -/
theorem flat_len {k : Nat} : ∀ {css : List (List Value)}, (∀ c ∈ css, c.length = k) → css.flatten.length = css.length * k
  | [], _ => by simp
  | c :: css, h => by
    rw [List.flatten_cons, List.length_append, flat_len (fun d hd => h d (List.mem_cons_of_mem _ hd)), h c (List.mem_cons_self), List.length_cons, Nat.add_mul]
    omega
theorem flat_get {k : Nat} : ∀ {css : List (List Value)}, (∀ c ∈ css, c.length = k) → ∀ i (h1 : i < css.length) j, j < k → css.flatten[i * k + j]? = css[i][j]?
  | [], _, i, h1, _, _ => by simp at h1
  | c :: css, h, i, h1, j, hj => by
    have hc := h c List.mem_cons_self
    rw [List.flatten_cons]
    cases i with
    | zero => rw [Nat.zero_mul, Nat.zero_add, List.getElem?_append_left (by omega)]; rfl
    | succ i =>
      rw [List.getElem?_append_right (by rw [hc, Nat.add_mul]; omega), hc, show (i + 1) * k + j - k = i * k + j from by rw [Nat.add_mul]; omega]
      exact flat_get (fun d hd => h d (List.mem_cons_of_mem _ hd)) i (by simpa using h1) j hj

theorem Reads.of_own {w : World} {base : Nat} {e : TypeId} {size n c : Nat} {A : Option Addr} {xs : List Value} (h : w.ownsRow base e size (.slice A n c) n xs) :
    Reads w (fun k => base ≤ k ∧ k < w.heap.size ∧ (Value.slice A n c).ownBlock = some k) true size A n xs := by
  refine ⟨h.1, fun hn => ?_⟩
  rcases h.2 with ⟨hv, h0⟩ | ⟨g, cap, cur, hv, hb, hg, hnc, hcm, hcs, htake⟩
  · omega
  · injection hv with hA _ hc
    subst hA
    have hl : g < w.heap.size := Blk.lt (t := e) hg
    refine ⟨_, rfl, rfl, ⟨hb, hl, rfl⟩, hl, fun j u hu => ⟨?_, fun _ => ?_⟩⟩
    · show w.cell? ⟨g, 0 + j, none⟩ = some u
      rw [Nat.zero_add, Blk.cell (t := e) hg j, ← Array.getElem?_toList, ← hu, ← htake, List.getElem?_take]
      split
      · rfl
      · rename_i hj
        have := (List.getElem?_eq_some_iff.1 hu).1
        rw [h.1] at this
        omega
    · exact Blk.free (t := e) hg _

theorem ownsRow_mk {w : World} {base : Nat} {e : TypeId} {size n : Nat} {v : Value} {xs : List Value} (h : w.ownsRow base e size v n xs) : ∃ A c, v = .slice A n c ∧ n ≤ c ∧ (0 < n → A.isSome = true) := by
  rcases h.2 with ⟨rfl, rfl⟩ | ⟨g, cap, cur, rfl, _, _, hnc, _⟩
  · exact ⟨none, 0, rfl, Nat.le_refl _, fun h => by omega⟩
  · exact ⟨_, _, rfl, hnc, fun _ => rfl⟩

section
variable {P : Program} (w : World)
/-- append onto a row that is owned, the source whatever reads. -/
theorem run_append_reads (base : Nat) (t ty e : TypeId) (i : TypeInfo) (z : Value) (size bytes : Nat) (ht : P.underlying t = some (.slice e)) (hi : P.info? e = some i) (hz : i.zero = some z)
    (hsize : i.size = size) (hby : i.bytes = bytes) (hzs : z.cells.size = size) (hsz : 0 < size)
    (v : Value) (n : Nat) (xs : List Value) (hown : w.ownsRow base e size v n xs)
    (B : Nat → Prop) (F : Bool) (A : Option Addr) (m c : Nat) (news : List Value) (hr : Reads w B F size A m news) (h1 : ∀ u ∈ news, u.oneCell' = true)
    (h63 : n + m ≤ maxLen) (hbytes : (n + m) * bytes ≤ 140737488355328) (hbase : base ≤ w.heap.size) :
    ∃ v' w', (Builtin.append_ #[t, t] ty #[v, .slice A m c]).run P w = .ok v' w' ∧ w'.ownsRow base e size v' (n + m) (xs ++ news) ∧ w.grownBy w' v.ownBlock ∧
      (v'.ownBlock = v.ownBlock ∨ v'.ownBlock = some w.heap.size) := by
  by_cases hm : m = 0
  · subst hm
    have hn : news = [] := List.eq_nil_of_length_eq_zero (by simpa using hr.1)
    subst hn
    rcases A with _ | ad
    · refine ⟨v, w, ?_, by simpa using hown, World.grownBy.refl w _, .inl rfl⟩
      rcases hown.2 with ⟨rfl, rfl⟩ | ⟨g, cap, cur, rfl, _, _, hnc, _⟩
      · simp [Builtin.append_, run_underlying ht, sizeOf, typeInfo, hi, Builtin.lenOf, Builtin.firstCells]
      · simp [Builtin.append_, run_underlying ht, sizeOf, typeInfo, hi, Builtin.lenOf, Builtin.firstCells, hnc, storeCells]
    · obtain ⟨v', w', hrun, h2, h3, _, h5⟩ := run_append_own_at (P := P) w base t ty e i z size bytes ht hi hz hsize hby hzs hsz v n xs hown ad 0 c [] hr.1 (by simp) h1 h63 hbytes hbase
      exact ⟨v', w', hrun, h2, h3, h5⟩
  · obtain ⟨ad, rfl, hs, _, _, hc⟩ := hr.2 (by omega)
    obtain ⟨v', w', hrun, h2, h3, _, h5⟩ := run_append_own_at (P := P) w base t ty e i z size bytes ht hi hz hsize hby hzs hsz v n xs hown ad m c news hr.1 (fun j u hu => by rw [Addr.add_eq _ _ hs]; exact (hc j u hu).1) h1 h63 hbytes hbase
    exact ⟨v', w', hrun, h2, h3, h5⟩

theorem wp_append_reads {o : Oper} {a : Act} {K : Act → World → Prop} {Q : Exit → Act → World → Prop} (s x : Operand) (t : TypeId)
    (ho : o.op = .call { callee := .builtin .append, args := #[s, x], argTypes := #[t, t] })
    (base : Nat) (e : TypeId) (i : TypeInfo) (z : Value) (size bytes : Nat) (ht : P.underlying t = some (.slice e)) (hi : P.info? e = some i) (hz : i.zero = some z)
    (hsize : i.size = size) (hby : i.bytes = bytes) (hzs : z.cells.size = size) (hsz : 0 < size)
    (v : Value) (n : Nat) (xs : List Value) (hs : a.eval s = v) (hown : w.ownsRow base e size v n xs)
    (B : Nat → Prop) (F : Bool) (A : Option Addr) (m c : Nat) (news : List Value) (hx : a.eval x = .slice A m c) (hr : Reads w B F size A m news) (h1 : ∀ u ∈ news, u.oneCell' = true)
    (h63 : n + m ≤ maxLen) (hbytes : (n + m) * bytes ≤ 140737488355328) (hbase : base ≤ w.heap.size)
    (h : ∀ v' w', w'.ownsRow base e size v' (n + m) (xs ++ news) → w.grownBy w' v.ownBlock → (v'.ownBlock = v.ownBlock ∨ v'.ownBlock = some w.heap.size) → K (a.put o.dst v') w') : o.wp P a w K Q := by
  obtain ⟨v', w', hrun, h2, h3, h4⟩ := run_append_reads (P := P) w base t o.type e i z size bytes ht hi hz hsize hby hzs hsz v n xs hown B F A m c news hr h1 h63 hbytes hbase
  unfold Oper.wp execOp
  simp only [ho, resolve, invoke, builtin, Sem.run_bind, Sem.run_pure, Result.andThen_ok, List.map_toArray, List.map_cons, List.map_nil, hs, hx, hrun]
  exact h v' w' h2 h3 h4

theorem wpList_append_reads {ops : Array Oper} {rest : List Oper} {o : Oper} {a : Act} {Q : Exit → Act → World → Prop} (hgd : o.guard = none) (s x : Operand) (t : TypeId)
    (ho : o.op = .call { callee := .builtin .append, args := #[s, x], argTypes := #[t, t] })
    (base : Nat) (e : TypeId) (i : TypeInfo) (z : Value) (size bytes : Nat) (ht : P.underlying t = some (.slice e)) (hi : P.info? e = some i) (hz : i.zero = some z)
    (hsize : i.size = size) (hby : i.bytes = bytes) (hzs : z.cells.size = size) (hsz : 0 < size)
    (v : Value) (n : Nat) (xs : List Value) (hs : a.eval s = v) (hown : w.ownsRow base e size v n xs)
    (B : Nat → Prop) (F : Bool) (A : Option Addr) (m c : Nat) (news : List Value) (hx : a.eval x = .slice A m c) (hr : Reads w B F size A m news) (h1 : ∀ u ∈ news, u.oneCell' = true)
    (h63 : n + m ≤ maxLen) (hbytes : (n + m) * bytes ≤ 140737488355328) (hbase : base ≤ w.heap.size)
    (h : ∀ v' w', w'.ownsRow base e size v' (n + m) (xs ++ news) → w.grownBy w' v.ownBlock → (v'.ownBlock = v.ownBlock ∨ v'.ownBlock = some w.heap.size) → wpList P ops Q rest (a.put o.dst v') w') : wpList P ops Q (o :: rest) a w :=
  wpList_plain hgd fun _ hK => wp_append_reads w s x t ho base e i z size bytes ht hi hz hsize hby hzs hsz v n xs hs hown B F A m c news hx hr h1 h63 hbytes hbase fun v' w' h2 h3 h4 => hK _ _ (h v' w' h2 h3 h4)

theorem step_append_reads {ops : Array Oper} {o : Oper} {a : Act} {K : Act → World → Prop} {Q : Exit → Act → World → Prop} {E : Prop} (hgd : o.guard = none) (s x : Operand) (t : TypeId)
    (ho : o.op = .call { callee := .builtin .append, args := #[s, x], argTypes := #[t, t] })
    (base : Nat) (e : TypeId) (i : TypeInfo) (z : Value) (size bytes : Nat) (ht : P.underlying t = some (.slice e)) (hi : P.info? e = some i) (hz : i.zero = some z)
    (hsize : i.size = size) (hby : i.bytes = bytes) (hzs : z.cells.size = size) (hsz : 0 < size)
    (v : Value) (n : Nat) (xs : List Value) (hs : a.eval s = v) (hown : w.ownsRow base e size v n xs)
    (B : Nat → Prop) (F : Bool) (A : Option Addr) (m c : Nat) (news : List Value) (hx : a.eval x = .slice A m c) (hr : Reads w B F size A m news) (h1 : ∀ u ∈ news, u.oneCell' = true)
    (h63 : n + m ≤ maxLen) (hbytes : (n + m) * bytes ≤ 140737488355328) (hbase : base ≤ w.heap.size)
    (h : ∀ v' w', w'.ownsRow base e size v' (n + m) (xs ++ news) → w.grownBy w' v.ownBlock → (v'.ownBlock = v.ownBlock ∨ v'.ownBlock = some w.heap.size) → K (a.put o.dst v') w') :
    if Region.wanted o (yielded ops a.tmps) = true then Oper.wp P o a w K Q else E := by
  have hw : Region.wanted o (yielded ops a.tmps) = true := by simp [Region.wanted, hgd]
  rw [if_pos hw]
  exact wp_append_reads w s x t ho base e i z size bytes ht hi hz hsize hby hzs hsz v n xs hs hown B F A m c news hx hr h1 h63 hbytes hbase h
end

theorem Reads.put1 {w : World} {B : Nat → Prop} {F : Bool} {size n b o : Nat} {xs : List Value} (h : Reads w B F size (some ⟨b, o, none⟩) n xs) {j : Nat} (hj : j < xs.length) (u : Value) :
    Reads (w.setCell ⟨b, o + j, none⟩ u) B F size (some ⟨b, o, none⟩) n (xs.set j u) := by
  refine ⟨by simpa using h.1, fun hn => ?_⟩
  obtain ⟨ad, e, hs, hb, hl, hc⟩ := h.2 hn
  injection e with e
  subst e
  refine ⟨_, rfl, rfl, hb, by simpa [World.setCell] using hl, fun i v hv => ⟨?_, fun hF => ?_⟩⟩
  · by_cases hij : i = j
    · subst hij
      rw [List.getElem?_set_self hj] at hv
      injection hv with hv
      subst hv
      exact World.cell?_setCell_same w _ _ (hc i _ (List.getElem?_eq_getElem hj)).1
    · rw [List.getElem?_set_ne (Ne.symm hij)] at hv
      rw [World.cell?_setCell_other _ _ _ _ (by intro e; injection e with _ e2; simp only at e2; omega)]
      exact (hc i v hv).1
  · rw [World.frozen?_setCell]
    by_cases hij : i = j
    · subst hij
      exact (hc i _ (List.getElem?_eq_getElem hj)).2 hF
    · rw [List.getElem?_set_ne (Ne.symm hij)] at hv
      exact (hc i v hv).2 hF

theorem Blk.row {w : World} {g : Nat} {t : TypeId} {cur : Array Value} (h : Blk w g t cur) (cs : Array Value) : Blk (w.setRow g cs) g t cs := setRow_heap w g _ _ t _ h
theorem Keeps.row {fp : Nat → Prop} {a b : World} (h : Keeps fp a b) {g : Nat} (hg : fp g ∨ a.heap.size ≤ g) (cs : Array Value) : Keeps fp a (b.setRow g cs) :=
  ⟨h.os, h.tape, h.output, by simpa [World.setRow] using h.size, fun k hk hn => (setRow_other b g k cs (by
    rintro rfl
    rcases hg with hg | hg
    · exact hn hg
    · omega)).trans (h.block k hk hn)⟩

section
variable {P : Program} (w : World)
theorem run_copy_blk (dT sT ty t e : TypeId) (i : TypeInfo) (ht : P.underlying dT = some (.slice e)) (hi : P.info? e = some i) (size : Nat) (hsize : i.size = size) (g o : Nat) (cur : Array Value) (hb : Blk w g t cur)
    (dl dc sl sc m : Nat) (sp : Option Addr) (cs : List Value) (hm : Nat.min sl dl = m) (hcs : cs.length = m * size)
    (hsrc : 0 < m → ∃ ad, sp = some ad ∧ ad.spot = none ∧ ∀ j u, cs[j]? = some u → w.cell? ⟨ad.block, ad.off + j, none⟩ = some u) (hfit : o + cs.length ≤ cur.size) (h1 : ∀ u ∈ cs, u.oneCell' = true) :
    (Builtin.copy_ #[dT, sT] ty #[.slice (some ⟨g, o, none⟩) dl dc, .slice sp sl sc]).run P w =
      .ok (.int .i64 m) (w.setRow g (cur.toList.take o ++ cs ++ cur.toList.drop (o + cs.length)).toArray) := by
  subst hsize
  have hst := run_storeCells_at P g o t cs 0 cur w hb (by simpa using hfit) h1
  simp only [Nat.add_zero] at hst
  have hf : (Builtin.firstCells i.size m (.slice sp sl sc)).run P w = .ok cs.toArray w := by
    by_cases h0 : m = 0
    · subst h0
      have : cs = [] := List.eq_nil_of_length_eq_zero (by simpa using hcs)
      subst this
      rcases sp with _ | ad
      · simp [Builtin.firstCells]
      · simp [Builtin.firstCells, loadCells, loadCellsFrom]
    · obtain ⟨ad, rfl, hs, hc⟩ := hsrc (by omega)
      exact run_firstCells_some (P := P) w i.size m ad sl sc cs hcs (fun j u hu => by rw [Addr.add_eq _ _ hs]; exact hc j u hu)
  simp [Builtin.copy_, run_underlying ht, sizeOf, typeInfo, hi, Builtin.lenOf, hm, hf, hst, goInt]

theorem step_copy_blk {ops : Array Oper} {o : Oper} {a : Act} {K : Act → World → Prop} {Q : Exit → Act → World → Prop} {E : Prop} (hgd : o.guard = none) (d s : Operand) (dT sT : TypeId)
    (ho : o.op = .call { callee := .builtin .copy, args := #[d, s], argTypes := #[dT, sT] }) (t e : TypeId) (i : TypeInfo) (ht : P.underlying dT = some (.slice e)) (hi : P.info? e = some i) (size : Nat) (hsize : i.size = size)
    (g off : Nat) (cur : Array Value) (hb : Blk w g t cur) (dl dc sl sc m : Nat) (sp : Option Addr) (hd : a.eval d = .slice (some ⟨g, off, none⟩) dl dc) (hs : a.eval s = .slice sp sl sc) (cs : List Value) (hm : Nat.min sl dl = m) (hcs : cs.length = m * size)
    (hsrc : 0 < m → ∃ ad, sp = some ad ∧ ad.spot = none ∧ ∀ j u, cs[j]? = some u → w.cell? ⟨ad.block, ad.off + j, none⟩ = some u) (hfit : off + cs.length ≤ cur.size) (h1 : ∀ u ∈ cs, u.oneCell' = true)
    (h : K (a.put o.dst (.int .i64 m)) (w.setRow g (cur.toList.take off ++ cs ++ cur.toList.drop (off + cs.length)).toArray)) :
    if Region.wanted o (yielded ops a.tmps) = true then Oper.wp P o a w K Q else E := by
  have hw : Region.wanted o (yielded ops a.tmps) = true := by simp [Region.wanted, hgd]
  rw [if_pos hw]
  have hrun := run_copy_blk (P := P) w dT sT o.type t e i ht hi size hsize g off cur hb dl dc sl sc m sp cs hm hcs hsrc hfit h1
  unfold Oper.wp execOp
  simp only [ho, resolve, invoke, builtin, Sem.run_bind, Sem.run_pure, Result.andThen_ok, List.map_toArray, List.map_cons, List.map_nil, hd, hs, hrun]
  exact h

theorem run_clear_blk (dT ty t e : TypeId) (ht : P.underlying dT = some (.slice e)) (z : Value) (size : Nat) (hz : ∀ w, (zeroValue e).run P w = .ok z w) (hzs : z.cells.size = size) (hz1 : ∀ u ∈ z.cells.toList, u.oneCell' = true) (g o : Nat) (cur : Array Value) (hb : Blk w g t cur)
    (dc : Nat) (hfit : o + size ≤ cur.size) :
    (Builtin.clear_ #[dT] ty #[.slice (some ⟨g, o, none⟩) 1 dc]).run P w =
      .ok (.tuple #[]) (w.setRow g (cur.toList.take o ++ z.cells.toList ++ cur.toList.drop (o + size)).toArray) := by
  subst hzs
  have hzc : (Builtin.zeroCells z.cells 1).toList = z.cells.toList := by
    apply List.ext_getElem?
    intro j
    simp only [Builtin.zeroCells, Nat.one_mul]
    by_cases hj : j < z.cells.size
    · simp [hj, Nat.mod_eq_of_lt hj]
    · simp [hj]
  have hst := run_storeCells_at P g o t z.cells.toList 0 cur w hb (by simpa using hfit) hz1
  simp only [Nat.add_zero, Array.length_toList] at hst
  simp [Builtin.clear_, run_underlying ht, hz, hzc, hst]
end

theorem wpList_clear_blk {P : Program} (w : World) {ops : Array Oper} {rest : List Oper} {o : Oper} {a : Act} {Q : Exit → Act → World → Prop} (hgd : o.guard = none) (d : Operand) (dT : TypeId)
    (ho : o.op = .call { callee := .builtin .clear, args := #[d], argTypes := #[dT] }) (t e : TypeId) (ht : P.underlying dT = some (.slice e)) (z : Value) (size : Nat) (hz : ∀ w, (zeroValue e).run P w = .ok z w) (hzs : z.cells.size = size) (hz1 : ∀ u ∈ z.cells.toList, u.oneCell' = true)
    (g off : Nat) (cur : Array Value) (hb : Blk w g t cur) (dl dc : Nat) (hdl : dl = 1) (hd : a.eval d = .slice (some ⟨g, off, none⟩) dl dc) (hfit : off + size ≤ cur.size)
    (h : wpList P ops Q rest (a.put o.dst (.tuple #[])) (w.setRow g (cur.toList.take off ++ z.cells.toList ++ cur.toList.drop (off + size)).toArray)) : wpList P ops Q (o :: rest) a w := by
  subst hdl
  refine wpList_plain hgd fun K hK => ?_
  have hrun := run_clear_blk (P := P) w dT o.type t e ht z size hz hzs hz1 g off cur hb dc hfit
  unfold Oper.wp execOp
  simp only [ho, resolve, invoke, builtin, Sem.run_bind, Sem.run_pure, Result.andThen_ok, List.map_toArray, List.map_cons, List.map_nil, hd, hrun]
  exact hK _ _ h

theorem flat_drop {k : Nat} : ∀ {css : List (List Value)}, (∀ c ∈ css, c.length = k) → ∀ i, (css.drop i).flatten = css.flatten.drop (i * k)
  | [], _, i => by simp
  | c :: css, h, i => by
    cases i with
    | zero => simp
    | succ i =>
      have hc := h c List.mem_cons_self
      rw [List.drop_succ_cons, List.flatten_cons, flat_drop (fun d hd => h d (List.mem_cons_of_mem _ hd)) i, Nat.add_mul, Nat.one_mul, Nat.add_comm (i * k) k, ← List.drop_drop, ← hc, List.drop_left]
theorem flat_take {k : Nat} : ∀ {css : List (List Value)}, (∀ c ∈ css, c.length = k) → ∀ i, (css.take i).flatten = css.flatten.take (i * k)
  | [], _, i => by simp
  | c :: css, h, i => by
    cases i with
    | zero => simp
    | succ i =>
      have hc := h c List.mem_cons_self
      rw [List.take_succ_cons, List.flatten_cons, List.flatten_cons, flat_take (fun d hd => h d (List.mem_cons_of_mem _ hd)) i, Nat.add_mul, Nat.one_mul, Nat.add_comm (i * k) k, ← hc, List.take_length_add_append]
theorem ownsRow_ne {w : World} {b : Nat} {e t : TypeId} {size n base : Nat} {v : Value} {xs : List Value} {cs : Array Value} (h : w.ownsRow base e size v n xs) (hb : Blk w b t cs) (hne : e ≠ t) : v.ownBlock ≠ some b := by
  intro hg
  rcases h.2 with ⟨rfl, _⟩ | ⟨g, cap, cur, rfl, _, hh, _⟩
  · simp [Value.ownBlock] at hg
  · simp [Value.ownBlock] at hg
    subst hg
    exact hne (Blk.one (t := e) (t' := t) hh hb).1

theorem ownsRow_keep {w w' : World} {e : TypeId} {size n base : Nat} {v : Value} {xs : List Value} {fp : Nat → Prop} (h : w.ownsRow base e size v n xs) (hk : Keeps fp w w') (hg : ∀ g, v.ownBlock = some g → ¬ fp g) : w'.ownsRow base e size v n xs := by
  refine ⟨h.1, ?_⟩
  rcases h.2 with h0 | ⟨g, cap, cur, rfl, h1, h2, h3⟩
  · exact .inl h0
  · exact .inr ⟨g, cap, cur, rfl, h1, (hk.block g (Blk.lt (t := e) h2) (hg g rfl)).trans h2, h3⟩
theorem ownsRow_lt {w : World} {e : TypeId} {size n base : Nat} {v : Value} {xs : List Value} (h : w.ownsRow base e size v n xs) {g : Nat} (hg : v.ownBlock = some g) : g < w.heap.size := (h.lt g hg).2

end Go.Proofs.YtincajfanhanjaaDoor
