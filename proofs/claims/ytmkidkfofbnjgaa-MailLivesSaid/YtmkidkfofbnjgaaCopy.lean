/- The builtins copy and clear on a row that is known whole, elements of any size. Over whatever program. -/
import Derived.Test.YtmkidkfofbnjgaaBase
import Derived.Laws.CopyRow
namespace Go.Proofs.Ytmkidkfofbnjgaa
open Go.RowKit

theorem Blk.row {w : World} {g : Nat} {t : TypeId} {cur : Array Value} (h : Blk w g t cur) (cs : Array Value) : Blk (w.setRow g cs) g t cs := setRow_heap w g _ _ t _ h
theorem Keeps.row {fp : Nat → Prop} {a b : World} (h : Keeps fp a b) {g : Nat} (hg : fp g ∨ a.heap.size ≤ g) (cs : Array Value) : Keeps fp a (b.setRow g cs) :=
  ⟨h.os, h.tape, h.output, by simpa [World.setRow] using h.size, fun k hk hn => (setRow_other b g k cs (by
    rintro rfl
    rcases hg with hg | hg
    · exact hn hg
    · omega)).trans (h.block k hk hn)⟩

section
variable {P : Program} (w : World)
theorem run_copy_blk (dT sT ty t e : TypeId) (i : TypeInfo) (ht : P.underlying dT = some (.slice e)) (hi : P.info? e = some i) (size : Nat) (hsize : i.size = size) (g o : Nat) (cur : Array Value) (hb : Blk w g t cur)
    (dl dc sl sc m : Nat) (sp : Option Addr) (cs : List Value) (hm : Nat.min sl dl = m) (hcs : cs.length = m * size)
    (hsrc : 0 < m → ∃ ad, sp = some ad ∧ ad.spot = none ∧ ∀ j u, cs[j]? = some u → w.cell? ⟨ad.block, ad.off + j, none⟩ = some u) (hfit : o + cs.length ≤ cur.size) (h1 : ∀ u ∈ cs, u.oneCell' = true) :
    (Builtin.copy_ #[dT, sT] ty #[.slice (some ⟨g, o, none⟩) dl dc, .slice sp sl sc]).run P w =
      .ok (.int .i64 m) (w.setRow g (cur.toList.take o ++ cs ++ cur.toList.drop (o + cs.length)).toArray) := by
  subst hsize
  have hst := run_storeCells_at P g o t cs 0 cur w hb (by simpa using hfit) h1
  simp only [Nat.add_zero] at hst
  have hf : (Builtin.firstCells i.size m (.slice sp sl sc)).run P w = .ok cs.toArray w := by
    by_cases h0 : m = 0
    · subst h0
      have : cs = [] := List.eq_nil_of_length_eq_zero (by simpa using hcs)
      subst this
      rcases sp with _ | ad
      · simp [Builtin.firstCells]
      · simp [Builtin.firstCells, loadCells, loadCellsFrom]
    · obtain ⟨ad, rfl, hs, hc⟩ := hsrc (by omega)
      exact run_firstCells_some (P := P) w i.size m ad sl sc cs hcs (fun j u hu => by rw [Addr.add_eq _ _ hs]; exact hc j u hu)
  simp [Builtin.copy_, run_underlying ht, sizeOf, typeInfo, hi, Builtin.lenOf, hm, hf, hst, goInt]

theorem step_copy_blk {ops : Array Oper} {o : Oper} {a : Act} {K : Act → World → Prop} {Q : Exit → Act → World → Prop} {E : Prop} (hgd : o.guard = none) (d s : Operand) (dT sT : TypeId)
    (ho : o.op = .call { callee := .builtin .copy, args := #[d, s], argTypes := #[dT, sT] }) (t e : TypeId) (i : TypeInfo) (ht : P.underlying dT = some (.slice e)) (hi : P.info? e = some i) (size : Nat) (hsize : i.size = size)
    (g off : Nat) (cur : Array Value) (hb : Blk w g t cur) (dl dc sl sc m : Nat) (sp : Option Addr) (hd : a.eval d = .slice (some ⟨g, off, none⟩) dl dc) (hs : a.eval s = .slice sp sl sc) (cs : List Value) (hm : Nat.min sl dl = m) (hcs : cs.length = m * size)
    (hsrc : 0 < m → ∃ ad, sp = some ad ∧ ad.spot = none ∧ ∀ j u, cs[j]? = some u → w.cell? ⟨ad.block, ad.off + j, none⟩ = some u) (hfit : off + cs.length ≤ cur.size) (h1 : ∀ u ∈ cs, u.oneCell' = true)
    (h : K (a.put o.dst (.int .i64 m)) (w.setRow g (cur.toList.take off ++ cs ++ cur.toList.drop (off + cs.length)).toArray)) :
    if Region.wanted o (yielded ops a.tmps) = true then Oper.wp P o a w K Q else E := by
  have hw : Region.wanted o (yielded ops a.tmps) = true := by simp [Region.wanted, hgd]
  rw [if_pos hw]
  have hrun := run_copy_blk (P := P) w dT sT o.type t e i ht hi size hsize g off cur hb dl dc sl sc m sp cs hm hcs hsrc hfit h1
  unfold Oper.wp execOp
  simp only [ho, resolve, invoke, builtin, Sem.run_bind, Sem.run_pure, Result.andThen_ok, List.map_toArray, List.map_cons, List.map_nil, hd, hs, hrun]
  exact h

theorem run_clear_blk (dT ty t e : TypeId) (ht : P.underlying dT = some (.slice e)) (z : Value) (size : Nat) (hz : ∀ w, (zeroValue e).run P w = .ok z w) (hzs : z.cells.size = size) (hz1 : ∀ u ∈ z.cells.toList, u.oneCell' = true) (g o : Nat) (cur : Array Value) (hb : Blk w g t cur)
    (dc : Nat) (hfit : o + size ≤ cur.size) :
    (Builtin.clear_ #[dT] ty #[.slice (some ⟨g, o, none⟩) 1 dc]).run P w =
      .ok (.tuple #[]) (w.setRow g (cur.toList.take o ++ z.cells.toList ++ cur.toList.drop (o + size)).toArray) := by
  subst hzs
  have hzc : (Builtin.zeroCells z.cells 1).toList = z.cells.toList := by
    apply List.ext_getElem?
    intro j
    simp only [Builtin.zeroCells, Nat.one_mul]
    by_cases hj : j < z.cells.size
    · simp [hj, Nat.mod_eq_of_lt hj]
    · simp [hj]
  have hst := run_storeCells_at P g o t z.cells.toList 0 cur w hb (by simpa using hfit) hz1
  simp only [Nat.add_zero, Array.length_toList] at hst
  simp [Builtin.clear_, run_underlying ht, hz, hzc, hst]
end

theorem wpList_clear_blk {P : Program} (w : World) {ops : Array Oper} {rest : List Oper} {o : Oper} {a : Act} {Q : Exit → Act → World → Prop} (hgd : o.guard = none) (d : Operand) (dT : TypeId)
    (ho : o.op = .call { callee := .builtin .clear, args := #[d], argTypes := #[dT] }) (t e : TypeId) (ht : P.underlying dT = some (.slice e)) (z : Value) (size : Nat) (hz : ∀ w, (zeroValue e).run P w = .ok z w) (hzs : z.cells.size = size) (hz1 : ∀ u ∈ z.cells.toList, u.oneCell' = true)
    (g off : Nat) (cur : Array Value) (hb : Blk w g t cur) (dl dc : Nat) (hdl : dl = 1) (hd : a.eval d = .slice (some ⟨g, off, none⟩) dl dc) (hfit : off + size ≤ cur.size)
    (h : wpList P ops Q rest (a.put o.dst (.tuple #[])) (w.setRow g (cur.toList.take off ++ z.cells.toList ++ cur.toList.drop (off + size)).toArray)) : wpList P ops Q (o :: rest) a w := by
  subst hdl
  refine wpList_plain hgd fun K hK => ?_
  have hrun := run_clear_blk (P := P) w dT o.type t e ht z size hz hzs hz1 g off cur hb dc hfit
  unfold Oper.wp execOp
  simp only [ho, resolve, invoke, builtin, Sem.run_bind, Sem.run_pure, Result.andThen_ok, List.map_toArray, List.map_cons, List.map_nil, hd, hrun]
  exact hK _ _ h

theorem flat_drop {k : Nat} : ∀ {css : List (List Value)}, (∀ c ∈ css, c.length = k) → ∀ i, (css.drop i).flatten = css.flatten.drop (i * k)
  | [], _, i => by simp
  | c :: css, h, i => by
    cases i with
    | zero => simp
    | succ i =>
      have hc := h c List.mem_cons_self
      rw [List.drop_succ_cons, List.flatten_cons, flat_drop (fun d hd => h d (List.mem_cons_of_mem _ hd)) i, Nat.add_mul, Nat.one_mul, Nat.add_comm (i * k) k, ← List.drop_drop, ← hc, List.drop_left]
theorem flat_take {k : Nat} : ∀ {css : List (List Value)}, (∀ c ∈ css, c.length = k) → ∀ i, (css.take i).flatten = css.flatten.take (i * k)
  | [], _, i => by simp
  | c :: css, h, i => by
    cases i with
    | zero => simp
    | succ i =>
      have hc := h c List.mem_cons_self
      rw [List.take_succ_cons, List.flatten_cons, List.flatten_cons, flat_take (fun d hd => h d (List.mem_cons_of_mem _ hd)) i, Nat.add_mul, Nat.one_mul, Nat.add_comm (i * k) k, ← hc, List.take_length_add_append]
end Go.Proofs.Ytmkidkfofbnjgaa
