/- cases.Pattern. -/
import Derived.Test.YtdmldipnalklgaaAt
namespace Go.Proofs.Ytdmldipnalklgaa
open Go.RowKit

/-- What is told: tests and constants in rows of their own, all of it new. -/
structure Told (w : World) (r : Made) (A : Option Addr) (c : Nat) (A2 : Option Addr) (c2 : Nat) (css : List (List Value)) (w' : World) : Prop where
  ins : Slab w' 44 8 A r.ins.length c (insL r.ins)
  row : Slab w' 27 7 A2 r.cs.length c2 (List.flatten css)
  cs : TermsIn w' (fun k => w.heap.size ≤ k ∧ ¬ rowB A k ∧ ¬ rowB A2 k) true css r.cs
  newI : ∀ k, rowB A k → w.heap.size ≤ k
  newC : ∀ k, rowB A2 k → w.heap.size ≤ k
  keep : Keeps NoB w w'
def PatPost (w : World) (r : Made) (e : Ending) (w' : World) : Prop :=
  ∃ A c A2 c2 css, e = .returned (.tuple #[.slice A r.ins.length c, .slice A2 r.cs.length c2, .int .i64 r.next]) ∧ Told w r A c A2 c2 css w'
theorem Told.none {w w' : World} (hk : Keeps NoB w w') : Told w ⟨[], 0, []⟩ .none 0 .none 0 [] w' :=
  ⟨Slab.nil _ _ _, Slab.nil _ _ _, by unfold TermsIn; trivial, (fun k ⟨o, h⟩ => by cases h), (fun k ⟨o, h⟩ => by cases h), hk⟩
/-- The maker that Pattern begins with. -/
theorem maker_new (w : World) (next : Int) : MakerAt (fun k => k < w.heap.size) (w.alloc (.cells #[.slice none 0 0, .int .i64 next] 51)) w.heap.size next [] := by
  refine ⟨none, 0, [], Blk.new w 51 _, Slab.nil _ _ _, by unfold TermsIn; trivial, by simp, (fun k _ ⟨o, h⟩ => by cases h), (fun k h => by simp; omega)⟩

set_option maxRecDepth 100000 in
set_option maxHeartbeats 1000000 in
theorem pat_any (t : Co) (w : World) (F : Bool) (kd : Int) (tx : ByteArray) (nm tk : Int) (ng : Bool) (la : Option Addr) (ln lc : Nat) (tt : ByteArray) (tn : Int) (ia : Option Addr) (im ic : Nat) (ta : Option Addr) (tm tc : Nat) (ka : Option Addr) (kn kc : Nat) (s free : Int) (ht : CoreIn w (fun k => k < w.heap.size) F [.int .u8 kd, .string tx, .int .i64 nm, .int .u8 tk, .bool ng, .slice la ln lc, .string tt, .int .i64 tn, .slice ia im ic, .slice ta tm tc, .slice ka kn kc] t) (hc : t.count ≤ 900000) :
    Calls Try.prog 7 #[.agg #[.int .u8 kd, .string tx, .int .i64 nm, .int .u8 tk, .bool ng, .slice la ln lc, .string tt, .int .i64 tn, .slice ia im ic, .slice ta tm tc, .slice ka kn kc], .int .i64 s, .int .i64 free] w (PatPost w (patC t s free)) := by
  have HT := hide ht
  have HK1 : Hid (Keeps NoB w (w.alloc (.cells #[.int .u8 kd, .string tx, .int .i64 nm, .int .u8 tk, .bool ng, .slice la ln lc, .string tt, .int .i64 tn, .slice ia im ic, .slice ta tm tc, .slice ka kn kc] 30))) := hide ((Keeps.refl NoB w).alloc _)
  clear ht
  by_cases h1 : s < 0
  · have hE : patC t s free = ⟨[], 0, []⟩ := by unfold patC; rw [if_pos (.inl h1)]
    have HE := hide hE
    clear hE
    have b1 : decide (s < 0) = true := by simpa using h1
    go_enter Try.func7, Try.ntmps7
    go_wp2
    go_ret3
    rw [HE.out]
    exact ⟨none, 0, none, 0, [], rfl, Told.none HK1.out⟩
  by_cases h2 : free ≤ s
  · have hE : patC t s free = ⟨[], 0, []⟩ := by unfold patC; rw [if_pos (.inr (.inl h2))]
    have HE := hide hE
    clear hE
    have b1 : decide (s < 0) = false := by simpa using h1
    have b2 : decide (free ≤ s) = true := by simpa using h2
    clear h1 h2
    go_enter Try.func7, Try.ntmps7
    go_wp2
    go_ret3
    rw [HE.out]
    exact ⟨none, 0, none, 0, [], rfl, Told.none HK1.out⟩
  by_cases h3 : 1000 < free
  · have hE : patC t s free = ⟨[], 0, []⟩ := by unfold patC; rw [if_pos (.inr (.inr (.inl h3)))]
    have HE := hide hE
    clear hE
    have b1 : decide (s < 0) = false := by simpa using h1
    have b2 : decide (free ≤ s) = false := by simpa using h2
    have b3 : decide (1000 < free) = true := by simpa using h3
    clear h1 h2 h3
    go_enter Try.func7, Try.ntmps7
    go_wp2
    go_ret3
    rw [HE.out]
    exact ⟨none, 0, none, 0, [], rfl, Told.none HK1.out⟩
  have HT1 := hide (CoreIn.keep HK1.out (fun _ _ => id) _ _ HT.out)
  cases hmay : mayC free t with
  | false =>
    have hE : patC t s free = ⟨[], 0, []⟩ := by unfold patC; rw [if_pos (.inr (.inr (.inr hmay)))]
    have HE := hide hE; have HMAY := hide hmay
    clear hE hmay
    have b1 : decide (s < 0) = false := by simpa using h1
    have b2 : decide (free ≤ s) = false := by simpa using h2
    have b3 : decide (1000 < free) = false := by simpa using h3
    clear h1 h2 h3
    go_enter Try.func7, Try.ntmps7
    go_wp2_with
      first
      | (go_at_call 14
         refine (may_any _ t (Nat.le_refl _) _ _ F kd tx nm tk ng la ln lc tt tn ia im ic ta tm tc ka kn kc free HT1.out).mono ?_
         rintro e w2 ⟨rfl, hk⟩
         rw [HMAY.out]
         have HK2 := hide (HK1.out.trans' hk (fun _ _ => id) (fun _ _ => id) : Keeps NoB w w2)
         clear hk)
      | fail
    go_ret3
    rw [HE.out]
    exact ⟨none, 0, none, 0, [], rfl, Told.none HK2.out⟩
  | true =>
    have hE : patC t s free = ⟨(atC s free 0 t).ins, (atC s free 0 t).next - free, (atC s free 0 t).cs⟩ := by unfold patC; rw [if_neg (by simp [hmay]; omega)]
    have HE := hide hE; have HMAY := hide hmay
    have HB : Hid (0 ≤ s ∧ s < free ∧ free ≤ 1000) := hide ⟨by omega, by omega, by omega⟩
    have HFEW := hide (at_few s free 0 t)
    clear hE hmay
    have b1 : decide (s < 0) = false := by simpa using h1
    have b2 : decide (free ≤ s) = false := by simpa using h2
    have b3 : decide (1000 < free) = false := by simpa using h3
    clear h1 h2 h3
    go_enter Try.func7, Try.ntmps7
    go_wp2_with
      first
      | (go_at_call 14
         refine (may_any _ t (Nat.le_refl _) _ _ F kd tx nm tk ng la ln lc tt tn ia im ic ta tm tc ka kn kc free HT1.out).mono ?_
         rintro e w2 ⟨rfl, hk⟩
         rw [HMAY.out]
         have HK2 := hide (HK1.out.trans' hk (fun _ _ => id) (fun _ _ => id) : Keeps NoB w w2)
         have HBP := hide ((Blk.new w 30 #[.int .u8 kd, .string tx, .int .i64 nm, .int .u8 tk, .bool ng, .slice la ln lc, .string tt, .int .i64 tn, .slice ia im ic, .slice ta tm tc, .slice ka kn kc]).keep hk id)
         have hsl : w.heap.size < w2.heap.size := HBP.out.lt
         clear hk
         have p0 : w2.cell? ⟨w.heap.size, 0, none⟩ = some (.int .u8 kd) := HBP.out.cell 0; have p1 : w2.cell? ⟨w.heap.size, 1, none⟩ = some (.string tx) := HBP.out.cell 1; have p2 : w2.cell? ⟨w.heap.size, 2, none⟩ = some (.int .i64 nm) := HBP.out.cell 2; have p3 : w2.cell? ⟨w.heap.size, 3, none⟩ = some (.int .u8 tk) := HBP.out.cell 3; have p4 : w2.cell? ⟨w.heap.size, 4, none⟩ = some (.bool ng) := HBP.out.cell 4; have p5 : w2.cell? ⟨w.heap.size, 5, none⟩ = some (.slice la ln lc) := HBP.out.cell 5; have p6 : w2.cell? ⟨w.heap.size, 6, none⟩ = some (.string tt) := HBP.out.cell 6; have p7 : w2.cell? ⟨w.heap.size, 7, none⟩ = some (.int .i64 tn) := HBP.out.cell 7; have p8 : w2.cell? ⟨w.heap.size, 8, none⟩ = some (.slice ia im ic) := HBP.out.cell 8; have p9 : w2.cell? ⟨w.heap.size, 9, none⟩ = some (.slice ta tm tc) := HBP.out.cell 9; have p10 : w2.cell? ⟨w.heap.size, 10, none⟩ = some (.slice ka kn kc) := HBP.out.cell 10)
      | (go_at_call 15
         have hk3 : Keeps NoB w2 (w2.alloc (.cells #[.slice none 0 0, .int .i64 free] 51)) := (Keeps.refl NoB w2).alloc _
         refine (at_any _ t (Nat.le_refl _) _ (fun k => k < w2.heap.size) F kd tx nm tk ng la ln lc tt tn ia im ic ta tm tc ka kn kc s free free [] w2.heap.size (CoreIn.keep hk3 (fun _ _ => id) _ _ (CoreIn.more (fun k _ h => Nat.lt_of_lt_of_le h HK2.out.size) _ _ (CoreIn.keep HK2.out (fun _ _ => id) _ _ HT.out))) HMAY.out (maker_new w2 free) ⟨by have := HB.out; omega, by have := HB.out; omega, by simp; omega⟩).mono ?_
         rintro e w4 ⟨A, c, rfl, hs, hf, hm, hk⟩
         rw [List.length_nil] at hs hm ⊢
         have HK4 : Hid (Keeps NoB w w4) := hide ((HK2.out.trans' hk3 (fun _ _ => id) (fun _ _ => id) : Keeps NoB w _).trans' hk (fun _ _ => id) (fun k hk0 h => h (Nat.lt_of_lt_of_le hk0 HK2.out.size)))
         obtain ⟨A2, c2, css, hm1, hm2, hm3, hm4, hm5, hm6⟩ := hm
         rw [List.nil_append] at hm1 hm2 hm3
         have HBM := hide hm1
         have HTD : Hid (Told w (atC s free 0 t) A c A2 c2 css w4) := hide ⟨hs, hm2, TermsIn.more (fun k _ hb => ⟨by have := HK2.out.size; have := hb.2.2; simp only [not_or, Nat.not_lt] at this; omega, fun h => hb.2.2 (.inr h), hb.2.1⟩) _ _ hm3, fun k hr => by have := hf k hr; have := HK2.out.size; have := hk3.size; omega, fun k hr => by have := HK2.out.size; have : ¬ k < w2.heap.size := fun h => hm5 k (.inl h) hr; omega, HK4.out⟩
         clear hs hf hk hk3 hm1 hm2 hm3 hm4 hm5 hm6 p0 p1 p2 p3 p4 p5 p6 p7 p8 p9 p10 hsl)
      | fail
    obtain ⟨r, hrr⟩ : ∃ r, atC s free 0 t = r := ⟨_, rfl⟩
    rw [hrr] at HBM HTD HE HFEW ⊢
    clear hrr
    generalize w2.heap.size = mb at *
    refine order_begin (fun W => Blk W mb 51 #[.slice A2 r.cs.length c2, .int .i64 r.next]) (fun _ => true) (by kernel_rfl) 14 rfl ?_
    have HS : Blk w4.drew mb 51 #[.slice A2 r.cs.length c2, .int .i64 r.next] := HBM.out.drew
    refine order_pure (i := 0) rfl (by kernel_rfl) (fun _ _ _ h => h) (.inl ⟨rfl, fun _ => by go_simp; rfl⟩) ?_
    try simp only [Act.put, List.setIfInBounds_toArray, List.set_cons_succ, List.set_cons_zero]
    refine order_pure (i := 1) rfl (by kernel_rfl) (fun _ _ _ h => h) (.inl ⟨rfl, fun _ => by go_simp; rfl⟩) ?_
    try simp only [Act.put, List.setIfInBounds_toArray, List.set_cons_succ, List.set_cons_zero]
    refine order_pure (i := 2) rfl (by kernel_rfl) (fun _ _ _ h => h) (.inl ⟨rfl, fun _ => by go_simp; rfl⟩) ?_
    try simp only [Act.put, List.setIfInBounds_toArray, List.set_cons_succ, List.set_cons_zero]
    refine order_pure (i := 3) rfl (by kernel_rfl) (fun _ _ _ h => h) (.inl ⟨rfl, fun _ => by go_simp; rfl⟩) ?_
    try simp only [Act.put, List.setIfInBounds_toArray, List.set_cons_succ, List.set_cons_zero]
    refine order_held (i := 4) rfl (by kernel_rfl) (fun _ _ _ h => h) (.inl ⟨rfl, fun W hW => by
      have q0 : W.cell? ⟨mb, 0, none⟩ = some (.slice A2 r.cs.length c2) := hW.cell 0
      go_simp; rfl⟩) HS ?_
    try simp only [Act.put, List.setIfInBounds_toArray, List.set_cons_succ, List.set_cons_zero]
    refine order_pure (i := 5) rfl (by kernel_rfl) (fun _ _ _ h => h) (.inl ⟨rfl, fun _ => by go_simp; rfl⟩) ?_
    try simp only [Act.put, List.setIfInBounds_toArray, List.set_cons_succ, List.set_cons_zero]
    refine order_pure (i := 6) rfl (by kernel_rfl) (fun _ _ _ h => h) (.inl ⟨rfl, fun _ => by go_simp; rfl⟩) ?_
    try simp only [Act.put, List.setIfInBounds_toArray, List.set_cons_succ, List.set_cons_zero]
    refine order_pure (i := 7) rfl (by kernel_rfl) (fun _ _ _ h => h) (.inl ⟨rfl, fun _ => by go_simp; rfl⟩) ?_
    try simp only [Act.put, List.setIfInBounds_toArray, List.set_cons_succ, List.set_cons_zero]
    refine order_held (i := 8) rfl (by kernel_rfl) (fun _ _ _ h => h) (.inl ⟨rfl, fun W hW => by
      have q0 : W.cell? ⟨mb, 1, none⟩ = some (.int .i64 r.next) := hW.cell 1
      go_simp; rfl⟩) HS ?_
    try simp only [Act.put, List.setIfInBounds_toArray, List.set_cons_succ, List.set_cons_zero]
    refine order_pure (i := 9) rfl (by kernel_rfl) (fun _ _ _ h => h) (.inl ⟨rfl, fun _ => by go_simp; rfl⟩) ?_
    try simp only [Act.put, List.setIfInBounds_toArray, List.set_cons_succ, List.set_cons_zero]
    refine order_pure (i := 10) rfl (by kernel_rfl) (fun _ _ _ h => h) (.inl ⟨rfl, fun _ => by go_simp; rfl⟩) ?_
    try simp only [Act.put, List.setIfInBounds_toArray, List.set_cons_succ, List.set_cons_zero]
    refine order_pure (i := 11) rfl (by kernel_rfl) (fun _ _ _ h => h) (.inl ⟨rfl, fun _ => by go_simp; rfl⟩) ?_
    try simp only [Act.put, List.setIfInBounds_toArray, List.set_cons_succ, List.set_cons_zero]
    refine order_pure (i := 12) rfl (by kernel_rfl) (fun _ _ _ h => h) (.inl ⟨rfl, fun _ => by go_simp; rfl⟩) ?_
    try simp only [Act.put, List.setIfInBounds_toArray, List.set_cons_succ, List.set_cons_zero]
    refine order_pure (i := 13) rfl (by kernel_rfl) (fun _ _ _ h => h) (.inl ⟨rfl, fun _ => by go_simp; rfl⟩) ?_
    try simp only [Act.put, List.setIfInBounds_toArray, List.set_cons_succ, List.set_cons_zero]
    refine order_done (by kernel_rfl) ?_
    go_wp2
    go_ret3
    rw [HE.out]
    obtain ⟨q1, q2, q3, q4⟩ := HFEW.out
    obtain ⟨b4, b5, b6⟩ := HB.out
    have hk : Keeps NoB w4 w4.drew := (Keeps.refl NoB w4).drew
    have hw : IntKind.i64.wrap (r.next - free) = r.next - free := IntWalk.i64_in _ (by omega)
    have h := HTD.out
    exact ⟨A, c, A2, c2, css, by rw [hw]; rfl, ⟨h.ins.fresh hk, h.row.fresh hk, TermsIn.keep hk (fun _ _ => id) _ _ h.cs, h.newI, h.newC, h.keep.drew⟩⟩
end Go.Proofs.Ytdmldipnalklgaa
