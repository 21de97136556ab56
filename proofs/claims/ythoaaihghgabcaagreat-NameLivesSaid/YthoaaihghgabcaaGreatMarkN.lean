/- pigeonholekit: mark, markNamed. -/
import Derived.Test.YthoaaihghgabcaaGreatFlat
import Derived.Test.YthoaaihghgabcaaGreatSame
namespace Go.Proofs.YthoaaihghgabcaaGreat
open Go.RowKit Go.Maps

theorem mark_any (a b v : Int) (w : World) (ha : 0 ≤ a) (ha2 : a ≤ 1000000) (hb : 0 ≤ b) (hb2 : b ≤ 1000000000) (hv : 1000003 * (a + 7) + b = v) : Calls Tryz.prog 55 #[.int .i64 a, .int .i64 b] w fun e w' => e = .returned (.int .i64 v) ∧ w = w' := by
  have HV := hide hv
  clear hv
  go_enter Tryz.func55, Tryz.ntmps55
  go_wp2
  go_ret
  exact ⟨by rw [← HV.out]; rfl, rfl⟩
theorem mkI_eq (k i : Nat) : 1000003 * ((k : Int) + 7) + (i : Int) = mkI k i := rfl
def MarkPost (w : World) (v : Int) (e : Ending) (w' : World) : Prop := e = .returned (.agg #[.string ByteArray.empty, .int .i64 v]) ∧ Keeps NoB w w'
set_option maxRecDepth 100000 in
theorem mark_named (a b v : Int) (w : World) (ha : 0 ≤ a) (ha2 : a ≤ 1000000) (hb : 0 ≤ b) (hb2 : b ≤ 1000000000) (hv : 1000003 * (a + 7) + b = v) : Calls Tryz.prog 78 #[.int .i64 a, .int .i64 b] w (MarkPost w v) := by
  have hm := fun W => mark_any a b v W ha ha2 hb hb2 hv
  have HB := hide (Blk.new w 42 #[.string { data := #[] }, .int .i64 0])
  have z0 : (w.alloc (.cells #[.string { data := #[] }, .int .i64 0] 42)).cell? ⟨w.heap.size, 0, none⟩ = some (.string { data := #[] }) := HB.out.cell 0
  have z1 : (w.alloc (.cells #[.string { data := #[] }, .int .i64 0] 42)).cell? ⟨w.heap.size, 1, none⟩ = some (.int .i64 0) := HB.out.cell 1
  have f0 : (w.alloc (.cells #[.string { data := #[] }, .int .i64 0] 42)).frozen? ⟨w.heap.size, 0, none⟩ = false := HB.out.free 0
  have f1 : (w.alloc (.cells #[.string { data := #[] }, .int .i64 0] 42)).frozen? ⟨w.heap.size, 1, none⟩ = false := HB.out.free 1
  clear hv
  go_enter Tryz.func78, Tryz.ntmps78
  go_wp2_with (go_at_call 55; refine (hm _).mono ?_; rintro e w' ⟨rfl, rfl⟩)
  have HP := hide (Blk.new w 42 #[.string { data := #[] }, .int .i64 v])
  have HKP := hide ((Keeps.refl NoB w).alloc (.cells #[.string { data := #[] }, .int .i64 v] 42))
  clear z0 z1 f0 f1
  generalize w.alloc (.cells #[.string { data := #[] }, .int .i64 v] 42) = w7 at *
  have d0 : w7.cell? ⟨w.heap.size, 0, none⟩ = some (.string { data := #[] }) := HP.out.cell 0
  have d1 : w7.cell? ⟨w.heap.size, 1, none⟩ = some (.int .i64 v) := HP.out.cell 1
  refine bodyPost_ret (v := .agg #[.string { data := #[] }, .int .i64 v]) (by simp [results, Tryz.results78, go_sem, d0, d1]) rfl ?_
  exact ⟨rfl, HKP.out⟩
abbrev KN : Kd := ⟨42, 28, 2, fun k i => [.string ByteArray.empty, .int .i64 (mkI k i)]⟩
theorem named_put {w : World} {g o n c k j : Nat} (h : Marked KN w (some ⟨g, o, none⟩) n c k j) (hj : j < n) : Marked KN ((w.setCell ⟨g, o + j * 2, none⟩ (.string ByteArray.empty)).setCell ⟨g, o + j * 2 + 1, none⟩ (.int .i64 (mkI k j))) (some ⟨g, o, none⟩) n c k (j + 1) := by
  obtain ⟨ys, h1, h2⟩ := h
  have h3 := (Slab.put1 (j := j * 2) h1 (by show j * 2 < n * 2; omega) (.string ByteArray.empty)).put1 (j := j * 2 + 1) (by show j * 2 + 1 < n * 2; omega) (.int .i64 (mkI k j))
  have hl : ys.length = n * 2 := h1.1
  refine ⟨_, h3, fun i hi t ht => ?_⟩
  show ((ys.set (j * 2) _).set (j * 2 + 1) _)[i * 2 + t]? = _
  have ht' : t < 2 := ht
  rcases Nat.lt_succ_iff_lt_or_eq.1 hi with h | rfl
  · rw [List.getElem?_set_ne (by omega), List.getElem?_set_ne (by omega)]; exact h2 i h t ht
  · rcases (by omega : t = 0 ∨ t = 1) with rfl | rfl
    · rw [List.getElem?_set_ne (by omega), Nat.add_zero, List.getElem?_set_self (by omega)]; rfl
    · rw [List.getElem?_set_self (by rw [List.length_set]; omega)]; rfl
theorem eql42 (v : Int) (w : World) : (binOp .eql 42 (.agg #[.string ByteArray.empty, .int .i64 v]) (.agg #[.string ByteArray.empty, .int .i64 v])).run Tryz.prog w = .ok (.bool true) w := by
  rw [run_eql_struct, eq48]; rfl
theorem guard42 (x y : Operand) (v : Int) (w : World) : (eqGuard .eql 42 x y (.agg #[.string ByteArray.empty, .int .i64 v]) (.agg #[.string ByteArray.empty, .int .i64 v])).run Tryz.prog w = .ok () w := by kernel_rfl
/-- Two marks, held side by side: by a law, not by the walk's simp (its proof of it is too great for the kernel). -/
theorem exec42 (o : Oper) (a : Act) (x y : Operand) (r : TypeId) (v : Int) (ho : o.op = .binOp .eql 42 x y r) (hx : a.eval x = .agg #[.string ByteArray.empty, .int .i64 v]) (hy : a.eval y = .agg #[.string ByteArray.empty, .int .i64 v]) (w : World) : (execOp a.eval o).run Tryz.prog w = .ok (.value (.bool true)) w := by
  unfold execOp
  simp only [ho, hx, hy, Sem.run_bind, guard42, Result.andThen_ok, eql42, Sem.run_pure]
end Go.Proofs.YthoaaihghgabcaaGreat
