/- Of: an integer of a number. -/
import Derived.Test.YtfehciiidmgopaaMade
namespace Go.Proofs.Ytfehciiidmgopaa
open Go.RowKit

/-- An integer is returned. -/
def IntP (w : World) (z : Int) (e : Ending) (w' : World) : Prop := ∃ ng A n c, e = .returned (.agg #[.int .u8 1, .bool ng, .slice A n c, .string { data := #[] }, .int .i64 0, .slice none 0 0, .slice none 0 0]) ∧ IA w' (fun k => w.heap.size ≤ k) ng A n c z ∧ Keeps NoB w w'

theorem limbs_two {w : World} {g : Nat} {x y : Int} {a b : Nat} (h : Blk w g 44 #[.int .u32 x, .int .u32 y]) (hx : x = a) (hy : y = b) (ha : a < B32) (hb : b < B32) : LimbsIn w (fun k => k = g) (some ⟨g, 0, none⟩) 2 2 [a, b] := by
  subst hx hy
  have hs : Slab w 44 1 (some ⟨g, 0, none⟩) 2 2 (u32s [a, b]) := Slab.mk' rfl (Nat.le_refl _) (by decide) h (by simp) (fun j hj => by
    rcases (by omega : j = 0 ∨ j = 1) with rfl | rfl <;> rfl)
  exact (LimbsIn.of_slab hs (fun z hz => by simp at hz; rcases hz with rfl | rfl <;> assumption)).more (fun k _ ⟨o, e⟩ => by injection e with e; injection e with e; exact e.symm)
theorem Blk.new2' (w : World) (o : Obj) (t : TypeId) (cs : Array Value) : Blk ((w.alloc o).alloc (.cells cs t)) (w.heap.size + 1) t cs := by
  have := Blk.new (w.alloc o) t cs
  simpa using this
theorem nat_two (M : Nat) : nat [M % B32, M / B32] = M := by
  show M % B32 + B32 * (M / B32 + B32 * 0) = M
  have := Nat.mod_add_div M B32
  omega
theorem big_pow : 18446744073709551616 ≤ Big := by
  rw [Big_eq]
  exact Nat.le_trans (show 18446744073709551616 ≤ B32 ^ 2 by decide) (Nat.pow_le_pow_right (by decide) (by decide))
theorem small_big {M : Nat} (h : M < 18446744073709551616) : M < Big := Nat.lt_of_lt_of_le h big_pow

set_option maxRecDepth 100000 in
theorem of_any (z : Int) (h1 : -9223372036854775808 ≤ z) (h2 : z ≤ 9223372036854775807) (w : World) : Calls Try.prog 20 #[.int .i64 z] w (IntP w z) := by
  by_cases hz : z < 0
  · obtain ⟨M, rfl⟩ : ∃ M : Nat, z = -(M : Int) := ⟨z.natAbs, by omega⟩
    have hz0 : 0 < M := by omega
    have hz1 : decide (-(M : Int) < 0) = true := by simp only [hz, decide_true]
    have hz2 : decide (0 < (M : Int)) = true := by simp; exact hz0
    have e1 : IntKind.u64.wrap (-(M : Int)) = 18446744073709551616 - (M : Int) := by unfold IntKind.wrap; simp [IntKind.bits, IntKind.signed]; omega
    have e2 : IntKind.u64.wrap (-(18446744073709551616 - (M : Int))) = (M : Int) := by unfold IntKind.wrap; simp [IntKind.bits, IntKind.signed]; omega
    clear hz
    have hw1 : ((M : Int) % 4294967296) = ((M % B32 : Nat) : Int) := by unfold B32; omega
    have HM := hide (show nat [M % B32, M / B32] < Big from by rw [nat_two]; exact small_big (by omega))
    have HL := hide (fun (W : World) (g : Nat) (x y : Int) (hb : Blk W g 44 #[.int .u32 x, .int .u32 y]) (hx : x = ((M % B32 : Nat) : Int)) (hy : y = ((M / B32 : Nat) : Int)) => (limbs_two hb hx hy (Nat.mod_lt _ (by decide)) (by unfold B32; omega) : LimbsIn W (fun k => k = g) (some ⟨g, 0, none⟩) 2 2 [M % B32, M / B32]))
    clear hw1
    go_enter Try.func20, Try.ntmps20
    go_wp2_with (go_at_call 35; refine (made_yes _ _ _ true _ _ _ (HL.out _ _ _ _ (Blk.new2' _ _ _ _) (by unfold B32; omega) (by unfold B32; omega)) HM.out).mono ?_; rintro e w2 ⟨ng, A, n, c, rfl, hi, hk⟩; have HI := hide hi; have HB2 := hide (((Blk.new w 26 #[.int .u8 0, .bool false, .slice none 0 0, .string { data := #[] }, .int .i64 0, .slice none 0 0, .slice none 0 0]).alloc _).keep hk id); have HK2 := hide ((((Keeps.refl NoB w).alloc _).alloc _).trans' hk (fun _ _ h => h) (fun _ _ h => h)); clear hi hk; have hlt := HB2.out.lt; have z0 : w2.cell? ⟨w.heap.size, 0, none⟩ = some (.int .u8 0) := HB2.out.cell 0; have z1 : w2.cell? ⟨w.heap.size, 1, none⟩ = some (.bool false) := HB2.out.cell 1; have z2 : w2.cell? ⟨w.heap.size, 2, none⟩ = some (.slice none 0 0) := HB2.out.cell 2; have z3 : w2.cell? ⟨w.heap.size, 3, none⟩ = some (.string { data := #[] }) := HB2.out.cell 3; have z4 : w2.cell? ⟨w.heap.size, 4, none⟩ = some (.int .i64 0) := HB2.out.cell 4; have z5 : w2.cell? ⟨w.heap.size, 5, none⟩ = some (.slice none 0 0) := HB2.out.cell 5; have z6 : w2.cell? ⟨w.heap.size, 6, none⟩ = some (.slice none 0 0) := HB2.out.cell 6; have f0 : w2.frozen? ⟨w.heap.size, 0, none⟩ = false := HB2.out.free 0; have f1 : w2.frozen? ⟨w.heap.size, 1, none⟩ = false := HB2.out.free 1; have f2 : w2.frozen? ⟨w.heap.size, 2, none⟩ = false := HB2.out.free 2; have f3 : w2.frozen? ⟨w.heap.size, 3, none⟩ = false := HB2.out.free 3; have f4 : w2.frozen? ⟨w.heap.size, 4, none⟩ = false := HB2.out.free 4; have f5 : w2.frozen? ⟨w.heap.size, 5, none⟩ = false := HB2.out.free 5; have f6 : w2.frozen? ⟨w.heap.size, 6, none⟩ = false := HB2.out.free 6)
    have HBf := hide ((HB2.out.put7 (.int .u8 1) (.bool ng) (.slice A n c) (.string { data := #[] }) (.int .i64 0) (.slice none 0 0) (.slice none 0 0)).alloc (.cells #[.int .u8 1, .bool ng, .slice A n c, .string { data := #[] }, .int .i64 0, .slice none 0 0, .slice none 0 0] 26))
    have HKf := hide ((HK2.out.set7 (Nat.le_refl _) (.int .u8 1) (.bool ng) (.slice A n c) (.string { data := #[] }) (.int .i64 0) (.slice none 0 0) (.slice none 0 0)).alloc (.cells #[.int .u8 1, .bool ng, .slice A n c, .string { data := #[] }, .int .i64 0, .slice none 0 0, .slice none 0 0] 26))
    have HIf := hide (((HI.out.far (Keeps.set7' (g := w.heap.size) (.int .u8 1) (.bool ng) (.slice A n c) (.string { data := #[] }) (.int .i64 0) (.slice none 0 0) (.slice none 0 0)) (fun k hk e => by simp at hk; omega)).keep ((Keeps.refl NoB _).alloc (.cells #[.int .u8 1, .bool ng, .slice A n c, .string { data := #[] }, .int .i64 0, .slice none 0 0, .slice none 0 0] 26))).more (B' := fun k => w.heap.size ≤ k) (fun k _ hk => by simp at hk; omega))
    clear z0 z1 z2 z3 z4 z5 z6 f0 f1 f2 f3 f4 f5 f6 HB2 HK2 HI hlt
    generalize (((((((w2.setCell ⟨w.heap.size, 0, none⟩ (.int .u8 1)).setCell ⟨w.heap.size, 1, none⟩ (.bool ng)).setCell ⟨w.heap.size, 2, none⟩ (.slice A n c)).setCell ⟨w.heap.size, 3, none⟩ (.string { data := #[] })).setCell ⟨w.heap.size, 4, none⟩ (.int .i64 0)).setCell ⟨w.heap.size, 5, none⟩ (.slice none 0 0)).setCell ⟨w.heap.size, 6, none⟩ (.slice none 0 0)).alloc (.cells #[.int .u8 1, .bool ng, .slice A n c, .string { data := #[] }, .int .i64 0, .slice none 0 0, .slice none 0 0] 26) = wf at *
    have d0 : wf.cell? ⟨w.heap.size, 0, none⟩ = some (.int .u8 1) := HBf.out.cell 0
    have d1 : wf.cell? ⟨w.heap.size, 1, none⟩ = some (.bool ng) := HBf.out.cell 1
    have d2 : wf.cell? ⟨w.heap.size, 2, none⟩ = some (.slice A n c) := HBf.out.cell 2
    have d3 : wf.cell? ⟨w.heap.size, 3, none⟩ = some (.string { data := #[] }) := HBf.out.cell 3
    have d4 : wf.cell? ⟨w.heap.size, 4, none⟩ = some (.int .i64 0) := HBf.out.cell 4
    have d5 : wf.cell? ⟨w.heap.size, 5, none⟩ = some (.slice none 0 0) := HBf.out.cell 5
    have d6 : wf.cell? ⟨w.heap.size, 6, none⟩ = some (.slice none 0 0) := HBf.out.cell 6
    refine bodyPost_ret (v := .agg #[.int .u8 1, .bool ng, .slice A n c, .string { data := #[] }, .int .i64 0, .slice none 0 0, .slice none 0 0]) (by simp [results, Try.results20, go_sem, d0, d1, d2, d3, d4, d5, d6]) rfl ?_
    refine ⟨ng, A, n, c, rfl, ?_, HKf.out⟩
    have hh := HIf.out
    rw [nat_two] at hh
    exact hh
  · obtain ⟨M, rfl⟩ : ∃ M : Nat, z = (M : Int) := ⟨z.natAbs, by omega⟩
    have hz1 : decide ((M : Int) < 0) = false := by simp
    have e1 : IntKind.u64.wrap (M : Int) = (M : Int) := by unfold IntKind.wrap; simp [IntKind.bits, IntKind.signed]; omega
    clear hz
    have hw1 : ((M : Int) % 4294967296) = ((M % B32 : Nat) : Int) := by unfold B32; omega
    have HM := hide (show nat [M % B32, M / B32] < Big from by rw [nat_two]; exact small_big (by omega))
    have HL := hide (fun (W : World) (g : Nat) (x y : Int) (hb : Blk W g 44 #[.int .u32 x, .int .u32 y]) (hx : x = ((M % B32 : Nat) : Int)) (hy : y = ((M / B32 : Nat) : Int)) => (limbs_two hb hx hy (Nat.mod_lt _ (by decide)) (by unfold B32; omega) : LimbsIn W (fun k => k = g) (some ⟨g, 0, none⟩) 2 2 [M % B32, M / B32]))
    clear hw1
    go_enter Try.func20, Try.ntmps20
    go_wp2_with (go_at_call 35; refine (made_yes _ _ _ false _ _ _ (HL.out _ _ _ _ (Blk.new2' _ _ _ _) (by unfold B32; omega) (by unfold B32; omega)) HM.out).mono ?_; rintro e w2 ⟨ng, A, n, c, rfl, hi, hk⟩; have HI := hide hi; have HB2 := hide (((Blk.new w 26 #[.int .u8 0, .bool false, .slice none 0 0, .string { data := #[] }, .int .i64 0, .slice none 0 0, .slice none 0 0]).alloc _).keep hk id); have HK2 := hide ((((Keeps.refl NoB w).alloc _).alloc _).trans' hk (fun _ _ h => h) (fun _ _ h => h)); clear hi hk; have hlt := HB2.out.lt; have z0 : w2.cell? ⟨w.heap.size, 0, none⟩ = some (.int .u8 0) := HB2.out.cell 0; have z1 : w2.cell? ⟨w.heap.size, 1, none⟩ = some (.bool false) := HB2.out.cell 1; have z2 : w2.cell? ⟨w.heap.size, 2, none⟩ = some (.slice none 0 0) := HB2.out.cell 2; have z3 : w2.cell? ⟨w.heap.size, 3, none⟩ = some (.string { data := #[] }) := HB2.out.cell 3; have z4 : w2.cell? ⟨w.heap.size, 4, none⟩ = some (.int .i64 0) := HB2.out.cell 4; have z5 : w2.cell? ⟨w.heap.size, 5, none⟩ = some (.slice none 0 0) := HB2.out.cell 5; have z6 : w2.cell? ⟨w.heap.size, 6, none⟩ = some (.slice none 0 0) := HB2.out.cell 6; have f0 : w2.frozen? ⟨w.heap.size, 0, none⟩ = false := HB2.out.free 0; have f1 : w2.frozen? ⟨w.heap.size, 1, none⟩ = false := HB2.out.free 1; have f2 : w2.frozen? ⟨w.heap.size, 2, none⟩ = false := HB2.out.free 2; have f3 : w2.frozen? ⟨w.heap.size, 3, none⟩ = false := HB2.out.free 3; have f4 : w2.frozen? ⟨w.heap.size, 4, none⟩ = false := HB2.out.free 4; have f5 : w2.frozen? ⟨w.heap.size, 5, none⟩ = false := HB2.out.free 5; have f6 : w2.frozen? ⟨w.heap.size, 6, none⟩ = false := HB2.out.free 6)
    have HBf := hide ((HB2.out.put7 (.int .u8 1) (.bool ng) (.slice A n c) (.string { data := #[] }) (.int .i64 0) (.slice none 0 0) (.slice none 0 0)).alloc (.cells #[.int .u8 1, .bool ng, .slice A n c, .string { data := #[] }, .int .i64 0, .slice none 0 0, .slice none 0 0] 26))
    have HKf := hide ((HK2.out.set7 (Nat.le_refl _) (.int .u8 1) (.bool ng) (.slice A n c) (.string { data := #[] }) (.int .i64 0) (.slice none 0 0) (.slice none 0 0)).alloc (.cells #[.int .u8 1, .bool ng, .slice A n c, .string { data := #[] }, .int .i64 0, .slice none 0 0, .slice none 0 0] 26))
    have HIf := hide (((HI.out.far (Keeps.set7' (g := w.heap.size) (.int .u8 1) (.bool ng) (.slice A n c) (.string { data := #[] }) (.int .i64 0) (.slice none 0 0) (.slice none 0 0)) (fun k hk e => by simp at hk; omega)).keep ((Keeps.refl NoB _).alloc (.cells #[.int .u8 1, .bool ng, .slice A n c, .string { data := #[] }, .int .i64 0, .slice none 0 0, .slice none 0 0] 26))).more (B' := fun k => w.heap.size ≤ k) (fun k _ hk => by simp at hk; omega))
    clear z0 z1 z2 z3 z4 z5 z6 f0 f1 f2 f3 f4 f5 f6 HB2 HK2 HI hlt
    generalize (((((((w2.setCell ⟨w.heap.size, 0, none⟩ (.int .u8 1)).setCell ⟨w.heap.size, 1, none⟩ (.bool ng)).setCell ⟨w.heap.size, 2, none⟩ (.slice A n c)).setCell ⟨w.heap.size, 3, none⟩ (.string { data := #[] })).setCell ⟨w.heap.size, 4, none⟩ (.int .i64 0)).setCell ⟨w.heap.size, 5, none⟩ (.slice none 0 0)).setCell ⟨w.heap.size, 6, none⟩ (.slice none 0 0)).alloc (.cells #[.int .u8 1, .bool ng, .slice A n c, .string { data := #[] }, .int .i64 0, .slice none 0 0, .slice none 0 0] 26) = wf at *
    have d0 : wf.cell? ⟨w.heap.size, 0, none⟩ = some (.int .u8 1) := HBf.out.cell 0
    have d1 : wf.cell? ⟨w.heap.size, 1, none⟩ = some (.bool ng) := HBf.out.cell 1
    have d2 : wf.cell? ⟨w.heap.size, 2, none⟩ = some (.slice A n c) := HBf.out.cell 2
    have d3 : wf.cell? ⟨w.heap.size, 3, none⟩ = some (.string { data := #[] }) := HBf.out.cell 3
    have d4 : wf.cell? ⟨w.heap.size, 4, none⟩ = some (.int .i64 0) := HBf.out.cell 4
    have d5 : wf.cell? ⟨w.heap.size, 5, none⟩ = some (.slice none 0 0) := HBf.out.cell 5
    have d6 : wf.cell? ⟨w.heap.size, 6, none⟩ = some (.slice none 0 0) := HBf.out.cell 6
    refine bodyPost_ret (v := .agg #[.int .u8 1, .bool ng, .slice A n c, .string { data := #[] }, .int .i64 0, .slice none 0 0, .slice none 0 0]) (by simp [results, Try.results20, go_sem, d0, d1, d2, d3, d4, d5, d6]) rfl ?_
    refine ⟨ng, A, n, c, rfl, ?_, HKf.out⟩
    have hh := HIf.out
    rw [nat_two] at hh
    exact hh
end Go.Proofs.Ytfehciiidmgopaa
