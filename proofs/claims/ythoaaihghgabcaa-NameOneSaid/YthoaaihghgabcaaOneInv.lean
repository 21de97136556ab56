/- NameOne: what holds behind so many steps. -/
import Derived.Test.YthoaaihghgabcaaSum
import Derived.Test.YthoaaihghgabcaaPick
import Derived.Test.YthoaaihghgabcaaOneLaw
namespace Go.Proofs.Ythoaaihghgabcaa
open Go.RowKit Go.Maps

theorem eq9t (s : ByteArray) (w : World) : (binOp .eql 9 (.string s) (.string s)).run Try.prog w = .ok (.bool true) w := by
  go_simp
theorem eq9f {s t : ByteArray} (h : s ≠ t) (w : World) : (binOp .eql 9 (.string s) (.string t)).run Try.prog w = .ok (.bool false) w := by
  have h2 : ¬ s.toList = t.toList := fun e => h (key_inj (by rw [Lib.toList_data, Lib.toList_data] at e; exact e))
  go_simp
theorem strs_ne {s t : ByteArray} (h : s ≠ t) : (s.toList == t.toList) = false := by
  have h2 : ¬ s.toList = t.toList := fun e => h (key_inj (by rw [Lib.toList_data, Lib.toList_data] at e; exact e))
  simp [h2]
theorem less9 {s t : ByteArray} (h : key s < key t) : Op.bytesLess s.toList t.toList = true := by rw [Proofs.bytesLess_eq, Lib.toList_data, Lib.toList_data]; exact decide_eq_true h
theorem ok6 {p : Nat} (h : p < 6) : IntOk (p : Int) := by
  rcases (by omega : p = 0 ∨ p = 1 ∨ p = 2 ∨ p = 3 ∨ p = 4 ∨ p = 5) with rfl | rfl | rfl | rfl | rfl | rfl <;> (unfold IntOk; decide)
theorem geq9 {s t : ByteArray} (h : key s < key t) (w : World) : (binOp .geq 9 (.string s) (.string t)).run Try.prog w = .ok (.bool false) w := by
  have h2 : Op.bytesLess s.toList t.toList = true := by rw [Proofs.bytesLess_eq, Lib.toList_data, Lib.toList_data]; exact decide_eq_true h
  go_simp

structure OneInv (w wx : World) (b m1 m2 hb mb N : Nat) (L : List Nm) (hs : List Bool) (ms : List ByteArray) : Prop where
  run : Run w wx b m1 m2 N L
  hB : Blk wx hb 42 (hs.map Value.bool).toArray
  mB : Blk wx mb 43 (ms.map Value.string).toArray
  one : One L hs ms
  sz : ∀ x ∈ L, x.1.size ≤ maxLen
  h1 : w.heap.size ≤ hb
  h2 : w.heap.size ≤ mb
  far : hb ≠ m1 ∧ hb ≠ m2 ∧ mb ≠ m1 ∧ mb ≠ m2 ∧ b ≠ hb ∧ b ≠ mb
  ne : hb ≠ mb
section
variable {w wx wy : World} {b m1 m2 hb mb N N' : Nat} {L L' : List Nm} {hs hs' : List Bool} {ms ms' : List ByteArray}
theorem OneInv.fresh (h : OneInv w wx b m1 m2 hb mb N L hs ms) (k : Keeps NoB wx wy) : OneInv w wy b m1 m2 hb mb N L hs ms :=
  ⟨h.run.fresh k, h.hB.keep k id, h.mB.keep k id, h.one, h.sz, h.h1, h.h2, h.far, h.ne⟩
theorem OneInv.get (h : OneInv w wx b m1 m2 hb mb N L hs ms) {k : Nat} (hk : k < 6) : ∃ v m, hs[k]? = some v ∧ ms[k]? = some m ∧ wx.cell? ⟨hb, k, none⟩ = some (.bool v) ∧ wx.cell? ⟨mb, k, none⟩ = some (.string m) ∧ (v = true → (m, (k : Int)) ∈ L ∧ m.size ≤ maxLen) := by
  obtain ⟨v, hv⟩ : ∃ v, hs[k]? = some v := ⟨_, List.getElem?_eq_getElem (by rw [h.one.l1]; exact hk)⟩
  obtain ⟨m, hm⟩ : ∃ m, ms[k]? = some m := ⟨_, List.getElem?_eq_getElem (by rw [h.one.l2]; exact hk)⟩
  refine ⟨v, m, hv, hm, ?_, ?_, fun e => ?_⟩
  · rw [h.hB.cell]; simp [hv]
  · rw [h.mB.cell]; simp [hm]
  · subst e
    have hx := h.one.mem.2 ⟨k, hk, rfl, hv, hm⟩
    exact ⟨hx, h.sz _ hx⟩
/-- Behind a call that turned the maps: what is said to be is set to that. -/
theorem OneInv.calls (h : OneInv w wx b m1 m2 hb mb N L hs ms) (hk : Keeps (fun k => k = m1 ∨ k = m2) wx wy) (hn : NamesAt wy b m1 m2 N' L') : Run w wy b m1 m2 N' L' ∧ Blk wy hb 42 (hs.map Value.bool).toArray ∧ Blk wy mb 43 (ms.map Value.string).toArray := by
  obtain ⟨f1, f2, f3, f4, _⟩ := h.far
  exact ⟨h.run.turn hk hn, h.hB.keep hk (by rintro (e | e); exact f1 e; exact f2 e), h.mB.keep hk (by rintro (e | e); exact f3 e; exact f4 e)⟩
theorem cal_fresh (h : Run w wx b m1 m2 N' L' ∧ Blk wx hb 42 (hs.map Value.bool).toArray ∧ Blk wx mb 43 (ms.map Value.string).toArray) (k : Keeps NoB wx wy) : Run w wy b m1 m2 N' L' ∧ Blk wy hb 42 (hs.map Value.bool).toArray ∧ Blk wy mb 43 (ms.map Value.string).toArray := ⟨h.1.fresh k, h.2.1.keep k id, h.2.2.keep k id⟩
theorem OneInv.cal (h : OneInv w wx b m1 m2 hb mb N L hs ms) : Run w wx b m1 m2 N L ∧ Blk wx hb 42 (hs.map Value.bool).toArray ∧ Blk wx mb 43 (ms.map Value.string).toArray := ⟨h.run, h.hB, h.mB⟩
theorem map_set_bool (p : Nat) (v : Bool) : (hs.map Value.bool).toArray.setIfInBounds p (.bool v) = ((hs.set p v).map Value.bool).toArray := by simp [List.map_set]
theorem map_set_str (p : Nat) (v : ByteArray) : (ms.map Value.string).toArray.setIfInBounds p (.string v) = ((ms.set p v).map Value.string).toArray := by simp [List.map_set]
theorem Run.cells (h : Run w wx b m1 m2 N L) {g : Nat} (hg : w.heap.size ≤ g) (f : g ≠ m1 ∧ g ≠ m2 ∧ b ≠ g) (hk : Keeps (fun k => k = g) wx wy) : Run w wy b m1 m2 N L :=
  ⟨h.at'.keep hk (fun e => f.2.2 e) (fun e => f.1 e.symm) (fun e => f.2.1 e.symm), h.keep.trans' hk (fun _ _ => id) (fun x hx e => by omega), h.hb, h.h1, h.h2⟩
theorem setB (g p : Nat) (v : Value) : Keeps (fun k => k = g) wx (wx.setCell ⟨g, p, none⟩ v) := (Keeps.refl (fun k => k = g) wx).setCell (p := ⟨g, p, none⟩) (.inl rfl) v
/-- has[p] is set behind. -/
theorem OneInv.setH (h : OneInv w wx b m1 m2 hb mb N L hs ms) (hr : Run w wy b m1 m2 N' L' ∧ Blk wy hb 42 (hs.map Value.bool).toArray ∧ Blk wy mb 43 (ms.map Value.string).toArray) (p : Nat) (v : Bool) (ho : One L' (hs.set p v) ms) (hsz : ∀ x ∈ L', x.1.size ≤ maxLen) : OneInv w (wy.setCell ⟨hb, p, none⟩ (.bool v)) b m1 m2 hb mb N' L' (hs.set p v) ms := by
  obtain ⟨hr, hB, mB⟩ := hr
  obtain ⟨f1, f2, f3, f4, f5, f6⟩ := h.far
  refine ⟨hr.cells h.h1 ⟨f1, f2, f5⟩ (setB hb p _), ?_, mB.keep (setB hb p _) (fun e => h.ne e.symm), ho, hsz, h.h1, h.h2, h.far, h.ne⟩
  have := hB.put p (.bool v)
  rwa [map_set_bool] at this
/-- mine[p] as well. -/
theorem OneInv.setHM (h : OneInv w wx b m1 m2 hb mb N L hs ms) (hr : Run w wy b m1 m2 N' L' ∧ Blk wy hb 42 (hs.map Value.bool).toArray ∧ Blk wy mb 43 (ms.map Value.string).toArray) (p : Nat) (v : Bool) (s : ByteArray) (ho : One L' (hs.set p v) (ms.set p s)) (hsz : ∀ x ∈ L', x.1.size ≤ maxLen) : OneInv w ((wy.setCell ⟨hb, p, none⟩ (.bool v)).setCell ⟨mb, p, none⟩ (.string s)) b m1 m2 hb mb N' L' (hs.set p v) (ms.set p s) := by
  obtain ⟨hr, hB, mB⟩ := hr
  obtain ⟨f1, f2, f3, f4, f5, f6⟩ := h.far
  refine ⟨(hr.cells h.h1 ⟨f1, f2, f5⟩ (setB hb p _)).cells h.h2 ⟨f3, f4, f6⟩ (setB mb p _), ?_, ?_, ho, hsz, h.h1, h.h2, h.far, h.ne⟩
  · have := hB.put p (.bool v)
    rw [map_set_bool] at this
    exact this.keep (setB mb p _) h.ne
  · have := (mB.keep (setB hb p (.bool v)) (fun e => h.ne e.symm)).put p (.string s)
    rwa [map_set_str] at this
end

theorem drop_sz {L : List Nm} {s : ByteArray} (h : ∀ x ∈ L, x.1.size ≤ maxLen) : ∀ x ∈ dropName s L, x.1.size ≤ maxLen := fun x hx => h x (List.mem_filter.1 hx).1
theorem ins_sz {L : List Nm} {y : Nm} (h : ∀ x ∈ L, x.1.size ≤ maxLen) (hy : y.1.size ≤ maxLen) : ∀ x ∈ ins y L, x.1.size ≤ maxLen := fun x hx => by
  rcases mem_ins.1 hx with rfl | hx
  · exact hy
  · exact h x hx

/-- Of the first k, who has the name. -/
def OwnAt (hs : List Bool) (ms : List ByteArray) (s : ByteArray) (k : Nat) (o : Int) : Prop := (o = -1 ∧ ∀ j, j < k → ¬ (hs[j]? = some true ∧ ms[j]? = some s)) ∨ ∃ j : Nat, j < k ∧ o = (j : Int) ∧ hs[j]? = some true ∧ ms[j]? = some s
theorem OwnAt.nil {hs : List Bool} {ms : List ByteArray} {s : ByteArray} : OwnAt hs ms s 0 (-1) := .inl ⟨rfl, fun j hj => by omega⟩
theorem OwnAt.no {hs : List Bool} {ms : List ByteArray} {s : ByteArray} {k : Nat} {o : Int} (h : OwnAt hs ms s k o) (hk : ¬ (hs[k]? = some true ∧ ms[k]? = some s)) : OwnAt hs ms s (k + 1) o := by
  rcases h with ⟨rfl, h⟩ | ⟨j, hj, h⟩
  · refine .inl ⟨rfl, fun j hj => ?_⟩
    rcases Nat.lt_succ_iff_lt_or_eq.1 hj with hj | rfl
    · exact h j hj
    · exact hk
  · exact .inr ⟨j, by omega, h⟩
theorem OwnAt.yes {hs : List Bool} {ms : List ByteArray} {s : ByteArray} {k : Nat} (h1 : hs[k]? = some true) (h2 : ms[k]? = some s) : OwnAt hs ms s (k + 1) (k : Int) := .inr ⟨k, by omega, rfl, h1, h2⟩
theorem One.owner {L : List Nm} {hs : List Bool} {ms : List ByteArray} {s : ByteArray} {o : Int} (h : One L hs ms) (ho : OwnAt hs ms s 6 o) : (o = -1 ∧ s ∉ names L) ∨ ∃ j : Nat, j < 6 ∧ o = (j : Int) ∧ hs[j]? = some true ∧ ms[j]? = some s ∧ (s, (j : Int)) ∈ L := by
  rcases ho with ⟨rfl, ho⟩ | ⟨j, hj, rfl, h1, h2⟩
  · refine .inl ⟨rfl, fun hm => ?_⟩
    obtain ⟨⟨t, p⟩, hx, rfl⟩ := List.mem_map.1 hm
    obtain ⟨k, hk, _, h1, h2⟩ := h.mem.1 hx
    exact ho k hk ⟨h1, h2⟩
  · exact .inr ⟨j, hj, rfl, h1, h2, h.mem.2 ⟨j, hj, rfl, h1, h2⟩⟩
theorem countP_take {hs : List Bool} {k : Nat} {v : Bool} (h : hs[k]? = some v) : (hs.take (k + 1)).countP id = (hs.take k).countP id + (if v then 1 else 0) := by
  rw [List.take_add_one, h, List.countP_append]
  cases v <;> rfl

/-- The two arrays as they are made. -/
theorem one_start {w wc : World} {b m1 m2 : Nat} (h : Run w wc b m1 m2 0 []) : OneInv w ((wc.alloc (.cells #[.bool false, .bool false, .bool false, .bool false, .bool false, .bool false] 42)).alloc (.cells #[.string { data := #[] }, .string { data := #[] }, .string { data := #[] }, .string { data := #[] }, .string { data := #[] }, .string { data := #[] }] 43)) b m1 m2 wc.heap.size (wc.heap.size + 1) 0 [] (List.replicate 6 false) (List.replicate 6 ByteArray.empty) := by
  have hl := h.at'.lt
  have hz := h.keep.size
  have hB := (Blk.new wc 42 #[.bool false, .bool false, .bool false, .bool false, .bool false, .bool false]).alloc (.cells #[.string { data := #[] }, .string { data := #[] }, .string { data := #[] }, .string { data := #[] }, .string { data := #[] }, .string { data := #[] }] 43)
  have mB := Blk.new (wc.alloc (.cells #[.bool false, .bool false, .bool false, .bool false, .bool false, .bool false] 42)) 43 #[.string { data := #[] }, .string { data := #[] }, .string { data := #[] }, .string { data := #[] }, .string { data := #[] }, .string { data := #[] }]
  refine ⟨h.fresh (((Keeps.refl NoB wc).alloc _).alloc _), hB, ?_, One.start, (fun x hx => by cases hx), hz, by omega, ⟨by omega, by omega, by omega, by omega, by omega, by omega⟩, by omega⟩
  rw [show (wc.alloc (.cells #[.bool false, .bool false, .bool false, .bool false, .bool false, .bool false] 42)).heap.size = wc.heap.size + 1 from by simp] at mB
  exact mB
end Go.Proofs.Ythoaaihghgabcaa
