/- CopyTerm of an integer. -/
import Derived.Test.YtfehciiidmgopaaDivAll
namespace Go.Proofs.Ytfehciiidmgopaa
open Go.RowKit

set_option maxRecDepth 100000 in
theorem copy_limbs (A : Option Addr) (n c : Nat) (l : List Nat) (w : World) (B : Nat → Prop) (h : LimbsIn w B A n c l) (hb : Roomy n 4) :
    Calls Try.prog 50 #[.slice A n c] w fun e w' => ∃ A' c', e = .returned (.slice A' n c') ∧ Slab w' 44 1 A' n c' (u32s l) ∧ (∀ k, rowB A' k → w.heap.size ≤ k) ∧ Keeps NoB w w' := by
  obtain ⟨i0, hi0, hz0, hz1, hz2⟩ := info_parts Try.info44
  obtain ⟨F, hr⟩ := h.reads
  have hlow := hide h.low
  clear h
  go_enter Try.func50, Try.ntmps50
  go_wp2_with (at_builtin; go_must (refine wpList_append_reads _ rfl (.tmp 4) (.tmp 5) 23 rfl w.heap.size 44 i0 _ 1 4 Try.underlying23 hi0 hz0 hz1 hz2 rfl (by omega) (.slice none 0 0) 0 [] rfl ?z1 B F A n c (u32s l) rfl ?z2 (u32s_ones l) ?z3 ?z4 ?z5 ?_))
  case z1 => exact ⟨by simp, .inl ⟨rfl, rfl⟩⟩
  case z2 => exact hr
  case z3 => rw [Nat.zero_add]; exact hb.len (by omega)
  case z4 => rw [Nat.zero_add]; exact hb
  case z5 => exact Nat.le_refl _
  intro v' w' hown hg _
  obtain ⟨A', c', hv, hs⟩ := Slab.of_own hown
  subst hv
  have hfr : ∀ k, rowB A' k → w.heap.size ≤ k := by
    rintro k ⟨o, rfl⟩
    rcases hown.2 with ⟨hv, _⟩ | ⟨g, cap, cur, hv, hb, _⟩
    · injection hv with hv _ _; cases hv
    · injection hv with hv _ _; injection hv with hv; injection hv with hv _ _; omega
  have HFR := hide hfr; clear hfr
  have H := hide hs; clear hown hs
  have hbel : Below w.heap.size w w' := (Below.refl _ _).grown hg (by simp) (fun k h => by simp [Value.ownBlock] at h)
  have HB := hide hbel; clear hbel hg
  go_wp2
  go_ret
  exact ⟨A', c', by simp, by simpa using H.out, HFR.out, Keeps.of_below HB.out _⟩
set_option maxRecDepth 100000 in
theorem copy_none (A : Option Addr) (c : Nat) (w : World) : Calls Try.prog 51 #[.slice A 0 c] w fun e w' => e = .returned (.slice none 0 0) ∧ Keeps NoB w w' := by
  go_enter Try.func51, Try.ntmps51
  go_wp2
  go_loop [3, 4] (fun ov iv => ov = .slice none 0 0 ∧ iv = .int .i64 0) (fun _ _ => 0)
  case atStart => exact ⟨rfl, rfl⟩
  case round =>
    obtain ⟨rfl, rfl⟩ := hrel
    go_wp2
    go_ret
    exact ⟨rfl, Keeps.refl _ _⟩

/-- A copy is told: a term of its own rows. -/
def CopyP (w : World) (ng : Bool) (n : Nat) (z : Int) (e : Ending) (w' : World) : Prop := ∃ A2 c2, e = .returned (.agg #[.int .u8 1, .bool ng, .slice A2 n c2, .string { data := #[] }, .int .i64 0, .slice none 0 0, .slice none 0 0]) ∧ IA w' (fun k => w.heap.size ≤ k) ng A2 n c2 z ∧ Keeps NoB w w'
set_option maxHeartbeats 2000000 in
set_option maxRecDepth 100000 in
theorem copy_int (ng : Bool) (A ia ta : Option Addr) (n c ic tc : Nat) (z : Int) (w : World) (B : Nat → Prop) (h : IA w B ng A n c z) :
    Calls Try.prog 26 #[.agg #[.int .u8 1, .bool ng, .slice A n c, .string { data := #[] }, .int .i64 0, .slice ia 0 ic, .slice ta 0 tc]] w (CopyP w ng n z) := by
  have hn := h.len
  have HI := hide h
  clear h
  have HX0 := hide ((Blk.new w 26 #[.int .u8 1, .bool ng, .slice A n c, .string { data := #[] }, .int .i64 0, .slice ia 0 ic, .slice ta 0 tc]).alloc (.cells #[.int .u8 0, .bool false, .slice none 0 0, .string { data := #[] }, .int .i64 0, .slice none 0 0, .slice none 0 0] 26))
  have HZ0 := hide (Blk.new2' w (.cells #[.int .u8 1, .bool ng, .slice A n c, .string { data := #[] }, .int .i64 0, .slice ia 0 ic, .slice ta 0 tc] 26) 26 #[.int .u8 0, .bool false, .slice none 0 0, .string { data := #[] }, .int .i64 0, .slice none 0 0, .slice none 0 0])
  have HK0 := hide (((Keeps.refl NoB w).alloc (.cells #[.int .u8 1, .bool ng, .slice A n c, .string { data := #[] }, .int .i64 0, .slice ia 0 ic, .slice ta 0 tc] 26)).alloc (.cells #[.int .u8 0, .bool false, .slice none 0 0, .string { data := #[] }, .int .i64 0, .slice none 0 0, .slice none 0 0] 26))
  have M1 := hide True.intro
  go_enter Try.func26, Try.ntmps26
  go_wp2_with first | (go_at_call 50; refine (copy_limbs A n c _ _ _ (HI.out.keep HK0.out).limbs (by unfold Roomy; omega)).mono ?_; rintro e w1 ⟨A2, c2, rfl, hs, hf, hk⟩; have HL1 := hide ((LimbsIn.of_slab hs HI.out.limbs.low).more (fun k _ hk => hf k hk)); have HX1 := hide (HX0.out.keep hk id); have HZ1 := hide (HZ0.out.keep hk id); have HK1 := hide (HK0.out.trans' hk (fun _ _ h => h) (fun _ _ h => h)); clear hs hf hk HX0 HZ0 HK0; have x0 : w1.cell? ⟨w.heap.size, 0, none⟩ = some (.int .u8 1) := HX1.out.cell 0; have x1 : w1.cell? ⟨w.heap.size, 1, none⟩ = some (.bool ng) := HX1.out.cell 1; have x2 : w1.cell? ⟨w.heap.size, 2, none⟩ = some (.slice A n c) := HX1.out.cell 2; have x3 : w1.cell? ⟨w.heap.size, 3, none⟩ = some (.string { data := #[] }) := HX1.out.cell 3; have x4 : w1.cell? ⟨w.heap.size, 4, none⟩ = some (.int .i64 0) := HX1.out.cell 4; have x5 : w1.cell? ⟨w.heap.size, 5, none⟩ = some (.slice ia 0 ic) := HX1.out.cell 5; have x6 : w1.cell? ⟨w.heap.size, 6, none⟩ = some (.slice ta 0 tc) := HX1.out.cell 6; have f0 : w1.frozen? ⟨w.heap.size, 0, none⟩ = false := HX1.out.free 0; have f1 : w1.frozen? ⟨w.heap.size, 1, none⟩ = false := HX1.out.free 1; have f2 : w1.frozen? ⟨w.heap.size, 2, none⟩ = false := HX1.out.free 2; have f3 : w1.frozen? ⟨w.heap.size, 3, none⟩ = false := HX1.out.free 3; have f4 : w1.frozen? ⟨w.heap.size, 4, none⟩ = false := HX1.out.free 4; have f5 : w1.frozen? ⟨w.heap.size, 5, none⟩ = false := HX1.out.free 5; have f6 : w1.frozen? ⟨w.heap.size, 6, none⟩ = false := HX1.out.free 6) | (clear M1; go_at_call 51; refine (copy_none _ _ _).mono ?_; rintro e w2 ⟨rfl, hk⟩; have HP := HX1.out.put 2 (.slice A2 n c2); have hs := Keeps.setCell (Keeps.refl (fun k => k = w.heap.size) w1) (p := ⟨w.heap.size, 2, none⟩) (.inl rfl) (.slice A2 n c2); have HX2 := hide ((show Blk _ w.heap.size 26 #[.int .u8 1, .bool ng, .slice A2 n c2, .string { data := #[] }, .int .i64 0, .slice ia 0 ic, .slice ta 0 tc] from HP).keep hk id); have HZ2 := hide ((HZ1.out.keep hs (by omega)).keep hk id); have HK2 := hide ((HK1.out.setCell (p := ⟨w.heap.size, 2, none⟩) (.inr (Nat.le_refl _)) (.slice A2 n c2)).trans' hk (fun _ _ h => h) (fun _ _ h => h)); have HL2 := hide ((HL1.out.far hs (fun k hk e => by simp at hk; omega)).keep hk); clear hk HP hs HX1 HZ1 HK1 HL1 x0 x1 x2 x3 x4 x5 x6 f0 f1 f2 f3 f4 f5 f6; have x0 : w2.cell? ⟨w.heap.size, 0, none⟩ = some (.int .u8 1) := HX2.out.cell 0; have x1 : w2.cell? ⟨w.heap.size, 1, none⟩ = some (.bool ng) := HX2.out.cell 1; have x2 : w2.cell? ⟨w.heap.size, 2, none⟩ = some (.slice A2 n c2) := HX2.out.cell 2; have x3 : w2.cell? ⟨w.heap.size, 3, none⟩ = some (.string { data := #[] }) := HX2.out.cell 3; have x4 : w2.cell? ⟨w.heap.size, 4, none⟩ = some (.int .i64 0) := HX2.out.cell 4; have x5 : w2.cell? ⟨w.heap.size, 5, none⟩ = some (.slice ia 0 ic) := HX2.out.cell 5; have x6 : w2.cell? ⟨w.heap.size, 6, none⟩ = some (.slice ta 0 tc) := HX2.out.cell 6; have f0 : w2.frozen? ⟨w.heap.size, 0, none⟩ = false := HX2.out.free 0; have f1 : w2.frozen? ⟨w.heap.size, 1, none⟩ = false := HX2.out.free 1; have f2 : w2.frozen? ⟨w.heap.size, 2, none⟩ = false := HX2.out.free 2; have f3 : w2.frozen? ⟨w.heap.size, 3, none⟩ = false := HX2.out.free 3; have f4 : w2.frozen? ⟨w.heap.size, 4, none⟩ = false := HX2.out.free 4; have f5 : w2.frozen? ⟨w.heap.size, 5, none⟩ = false := HX2.out.free 5; have f6 : w2.frozen? ⟨w.heap.size, 6, none⟩ = false := HX2.out.free 6) | (go_at_call 51; refine (copy_none _ _ _).mono ?_; rintro e w3 ⟨rfl, hk⟩; have HP := HX2.out.put 5 (.slice none 0 0); have hs := Keeps.setCell (Keeps.refl (fun k => k = w.heap.size) w2) (p := ⟨w.heap.size, 5, none⟩) (.inl rfl) (.slice none 0 0); have HX3 := hide ((show Blk _ w.heap.size 26 #[.int .u8 1, .bool ng, .slice A2 n c2, .string { data := #[] }, .int .i64 0, .slice none 0 0, .slice ta 0 tc] from HP).keep hk id); have HZ3 := hide ((HZ2.out.keep hs (by omega)).keep hk id); have HK3 := hide ((HK2.out.setCell (p := ⟨w.heap.size, 5, none⟩) (.inr (Nat.le_refl _)) (.slice none 0 0)).trans' hk (fun _ _ h => h) (fun _ _ h => h)); have HL3 := hide ((HL2.out.far hs (fun k hk e => by simp at hk; omega)).keep hk); clear hk HP hs HX2 HZ2 HK2 HL2 x0 x1 x2 x3 x4 x5 x6 f0 f1 f2 f3 f4 f5 f6; have x0 : w3.cell? ⟨w.heap.size, 0, none⟩ = some (.int .u8 1) := HX3.out.cell 0; have x1 : w3.cell? ⟨w.heap.size, 1, none⟩ = some (.bool ng) := HX3.out.cell 1; have x2 : w3.cell? ⟨w.heap.size, 2, none⟩ = some (.slice A2 n c2) := HX3.out.cell 2; have x3 : w3.cell? ⟨w.heap.size, 3, none⟩ = some (.string { data := #[] }) := HX3.out.cell 3; have x4 : w3.cell? ⟨w.heap.size, 4, none⟩ = some (.int .i64 0) := HX3.out.cell 4; have x5 : w3.cell? ⟨w.heap.size, 5, none⟩ = some (.slice none 0 0) := HX3.out.cell 5; have x6 : w3.cell? ⟨w.heap.size, 6, none⟩ = some (.slice ta 0 tc) := HX3.out.cell 6; have f0 : w3.frozen? ⟨w.heap.size, 0, none⟩ = false := HX3.out.free 0; have f1 : w3.frozen? ⟨w.heap.size, 1, none⟩ = false := HX3.out.free 1; have f2 : w3.frozen? ⟨w.heap.size, 2, none⟩ = false := HX3.out.free 2; have f3 : w3.frozen? ⟨w.heap.size, 3, none⟩ = false := HX3.out.free 3; have f4 : w3.frozen? ⟨w.heap.size, 4, none⟩ = false := HX3.out.free 4; have f5 : w3.frozen? ⟨w.heap.size, 5, none⟩ = false := HX3.out.free 5; have f6 : w3.frozen? ⟨w.heap.size, 6, none⟩ = false := HX3.out.free 6; have z0 : w3.cell? ⟨w.heap.size + 1, 0, none⟩ = some (.int .u8 0) := HZ3.out.cell 0; have z1 : w3.cell? ⟨w.heap.size + 1, 1, none⟩ = some (.bool false) := HZ3.out.cell 1; have z2 : w3.cell? ⟨w.heap.size + 1, 2, none⟩ = some (.slice none 0 0) := HZ3.out.cell 2; have z3 : w3.cell? ⟨w.heap.size + 1, 3, none⟩ = some (.string { data := #[] }) := HZ3.out.cell 3; have z4 : w3.cell? ⟨w.heap.size + 1, 4, none⟩ = some (.int .i64 0) := HZ3.out.cell 4; have z5 : w3.cell? ⟨w.heap.size + 1, 5, none⟩ = some (.slice none 0 0) := HZ3.out.cell 5; have z6 : w3.cell? ⟨w.heap.size + 1, 6, none⟩ = some (.slice none 0 0) := HZ3.out.cell 6; have g0 : w3.frozen? ⟨w.heap.size + 1, 0, none⟩ = false := HZ3.out.free 0; have g1 : w3.frozen? ⟨w.heap.size + 1, 1, none⟩ = false := HZ3.out.free 1; have g2 : w3.frozen? ⟨w.heap.size + 1, 2, none⟩ = false := HZ3.out.free 2; have g3 : w3.frozen? ⟨w.heap.size + 1, 3, none⟩ = false := HZ3.out.free 3; have g4 : w3.frozen? ⟨w.heap.size + 1, 4, none⟩ = false := HZ3.out.free 4; have g5 : w3.frozen? ⟨w.heap.size + 1, 5, none⟩ = false := HZ3.out.free 5; have g6 : w3.frozen? ⟨w.heap.size + 1, 6, none⟩ = false := HZ3.out.free 6) | fail
  have hs := Keeps.setCell (Keeps.refl (fun k => k = w.heap.size) w3) (p := ⟨w.heap.size, 6, none⟩) (.inl rfl) (.slice none 0 0)
  have HZ4 := hide (HZ3.out.keep hs (by omega))
  have HK4 := hide (HK3.out.setCell (p := ⟨w.heap.size, 6, none⟩) (.inr (Nat.le_refl _)) (.slice none 0 0))
  have HL4 := hide (HL3.out.far hs (fun k hk e => by simp at hk; omega))
  clear hs x0 x1 x2 x3 x4 x5 x6 f0 f1 f2 f3 f4 f5 f6 z0 z1 z2 z3 z4 z5 z6 g0 g1 g2 g3 g4 g5 g6 HX3 HZ3 HK3 HL3
  generalize w3.setCell ⟨w.heap.size, 6, none⟩ (.slice none 0 0) = w4 at *
  have HBf := hide (HZ4.out.put7 (.int .u8 1) (.bool ng) (.slice A2 n c2) (.string { data := #[] }) (.int .i64 0) (.slice none 0 0) (.slice none 0 0))
  have HKf := hide (HK4.out.set7 (g := w.heap.size + 1) (by omega) (.int .u8 1) (.bool ng) (.slice A2 n c2) (.string { data := #[] }) (.int .i64 0) (.slice none 0 0) (.slice none 0 0))
  have HLf := hide ((HL4.out.far (Keeps.set7' (g := w.heap.size + 1) (.int .u8 1) (.bool ng) (.slice A2 n c2) (.string { data := #[] }) (.int .i64 0) (.slice none 0 0) (.slice none 0 0)) (fun k hk e => by simp at hk; omega)).more (B' := fun k => w.heap.size ≤ k) (fun k _ hk => by simp at hk; omega))
  clear HZ4 HK4 HL4
  generalize (((((((w4.setCell ⟨w.heap.size + 1, 0, none⟩ (.int .u8 1)).setCell ⟨w.heap.size + 1, 1, none⟩ (.bool ng)).setCell ⟨w.heap.size + 1, 2, none⟩ (.slice A2 n c2)).setCell ⟨w.heap.size + 1, 3, none⟩ (.string { data := #[] })).setCell ⟨w.heap.size + 1, 4, none⟩ (.int .i64 0)).setCell ⟨w.heap.size + 1, 5, none⟩ (.slice none 0 0)).setCell ⟨w.heap.size + 1, 6, none⟩ (.slice none 0 0)) = wf at *
  have d0 : wf.cell? ⟨w.heap.size + 1, 0, none⟩ = some (.int .u8 1) := HBf.out.cell 0; have d1 : wf.cell? ⟨w.heap.size + 1, 1, none⟩ = some (.bool ng) := HBf.out.cell 1; have d2 : wf.cell? ⟨w.heap.size + 1, 2, none⟩ = some (.slice A2 n c2) := HBf.out.cell 2; have d3 : wf.cell? ⟨w.heap.size + 1, 3, none⟩ = some (.string { data := #[] }) := HBf.out.cell 3; have d4 : wf.cell? ⟨w.heap.size + 1, 4, none⟩ = some (.int .i64 0) := HBf.out.cell 4; have d5 : wf.cell? ⟨w.heap.size + 1, 5, none⟩ = some (.slice none 0 0) := HBf.out.cell 5; have d6 : wf.cell? ⟨w.heap.size + 1, 6, none⟩ = some (.slice none 0 0) := HBf.out.cell 6
  refine bodyPost_ret (v := .agg #[.int .u8 1, .bool ng, .slice A2 n c2, .string { data := #[] }, .int .i64 0, .slice none 0 0, .slice none 0 0]) (by simp [results, Try.results26, go_sem, d0, d1, d2, d3, d4, d5, d6]) rfl ?_
  exact ⟨A2, c2, rfl, ⟨HLf.out, HI.out.sign, HI.out.room⟩, HKf.out⟩
end Go.Proofs.Ytfehciiidmgopaa
