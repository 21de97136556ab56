/- slices.BinarySearchFunc at those that wait. -/
import Derived.Test.YtaiphjgklfioeaaSearch
import Derived.Deep.CutRange
import Derived.Deep.CutBlock
import Derived.Deep.DeepCutAuto
namespace Go.Proofs.Ytaiphjgklfioeaa
open Go.RowKit

def SInv (w0 : World) (L : List Wt) (x : Wt) (i j : Nat) (wr : World) : Prop := Keeps NoB w0 wr ∧ (∀ k (h : k < L.length), k < i → wlt L[k] x) ∧ (∀ k (h : k < L.length), j ≤ k → ¬ wlt L[k] x)
theorem SInv.low {w0 wr w' : World} {L : List Wt} {x y : Wt} {i j h : Nat} (hi : SInv w0 L x i j wr) (hr : Rising L) (hy : L[h]? = some y) (hlt : wlt y x) (hk : Keeps NoB wr w') : SInv w0 L x (h + 1) j w' := by
  obtain ⟨hh, he⟩ := List.getElem?_eq_some_iff.1 hy
  refine ⟨hi.1.trans' hk (fun _ _ => id) (fun _ _ => id), fun k hkl hkh => ?_, hi.2.2⟩
  by_cases e : k = h
  · subst e; rw [he]; exact hlt
  · exact (List.pairwise_iff_getElem.1 hr k h hkl hh (by omega)).trans (by rw [he]; exact hlt)
theorem SInv.high {w0 wr w' : World} {L : List Wt} {x y : Wt} {i j h : Nat} (hi : SInv w0 L x i j wr) (hr : Rising L) (hy : L[h]? = some y) (hlt : ¬ wlt y x) (hk : Keeps NoB wr w') : SInv w0 L x i h w' := by
  obtain ⟨hh, he⟩ := List.getElem?_eq_some_iff.1 hy
  refine ⟨hi.1.trans' hk (fun _ _ => id) (fun _ _ => id), hi.2.1, fun k hkl hkh hc => ?_⟩
  by_cases e : k = h
  · subst e; rw [he] at hc; exact hlt hc
  · have := List.pairwise_iff_getElem.1 hr h k hh hkl (by omega)
    rw [he] at this
    exact hlt (this.trans hc)

def SearchPost (w : World) (L : List Wt) (x : Wt) (e : Ending) (w' : World) : Prop :=
  ∃ (i : Nat) (q : Bool), i ≤ L.length ∧ e = .returned (.tuple #[.int .i64 i, .bool q]) ∧ (∀ k (h : k < L.length), k < i → wlt L[k] x) ∧ (∀ k (h : k < L.length), i ≤ k → ¬ wlt L[k] x) ∧ Keeps NoB w w'

set_option maxRecDepth 100000 in
set_option maxHeartbeats 1000000 in
theorem search_any (A : Option Addr) (n c : Nat) (L : List Wt) (t p : Int) (w : World) (BB : Nat → Prop) (F : Bool) (hr : Reads w BB F 2 A n (prs L)) (hn : n ≤ 1048576) (hup : Rising L) :
    Calls Try.prog 22 #[.slice A n c, .agg #[.int .i64 t, .int .i64 p], .func (.func 23) #[] #[]] w (SearchPost w L (t, p)) := by
  have hl : L.length = n := by have := hr.1; rw [prs_len] at this; omega
  have HB := hide (Blk.new w 53 #[.int .i64 t, .int .i64 p])
  have HK0 := hide ((Keeps.refl NoB w).alloc (.cells #[.int .i64 t, .int .i64 p] 53))
  have HR := hide (hr.keep HK0.out (fun _ _ => id)); have HL := hide hl; have HUP := hide hup
  clear hr hl hup
  go_enter Try.func22, Try.ntmps22
  go_wp2_with fail
  generalize hw0 : w.alloc (.cells #[.int .i64 t, .int .i64 p] 53) = w0 at *
  generalize w.heap.size = bx at *
  clear hw0
  go_loopg [9, 10] n (fun g s9 s10 wr => ∃ i j : Nat, i ≤ j ∧ j ≤ n ∧ j - i ≤ g ∧ s9 = .int .i64 i ∧ s10 = .int .i64 j ∧ SInv w0 L (t, p) i j wr)
  case atStart => exact ⟨0, n, by omega, by omega, by omega, rfl, rfl, Keeps.refl _ _, fun k _ h => by omega, fun k h hk => by have := HL.out; omega⟩
  case round =>
    obtain ⟨i, j, hij, hjn, hg, rfl, rfl, hinv⟩ := hrel
    have HI := hide hinv; clear hinv
    have e0 : wr.cell? ⟨bx, 0, none⟩ = some (.int .i64 t) := HI.out.1.cell id (HB.out.cell 0)
    have e1 : wr.cell? ⟨bx, 1, none⟩ = some (.int .i64 p) := HI.out.1.cell id (HB.out.cell 1)
    by_cases hlt : i < j
    · obtain ⟨⟨g0, o, sp⟩, hA, hs, _, _, hc⟩ := (HR.out.keep HI.out.1 (fun _ _ => id)).2 (by omega)
      simp only at hs
      subst hs hA
      obtain ⟨h, hh⟩ : ∃ h, h = (i + j) / 2 := ⟨_, rfl⟩
      have HH := hide (show ((i : Int) + (j : Int)) / 2 = (h : Int) from by omega)
      have hih : i ≤ h := by omega
      have hhj : h < j := by omega
      have hm : h < n := by omega
      clear hh
      obtain ⟨y, hy⟩ : ∃ y, L[h]? = some y := ⟨_, List.getElem?_eq_getElem (by have := HL.out; omega)⟩
      obtain ⟨c0, c1⟩ := prs_at hy
      have HC := hide (show wr.cell? ⟨g0, o + h * 2, none⟩ = some (.int .i64 y.1) from (hc _ _ c0).1)
      have HC1 := hide (show wr.cell? ⟨g0, o + h * 2 + 1, none⟩ = some (.int .i64 y.2) from (hc _ _ c1).1)
      have HE0 := hide e0; have HE1 := hide e1; have HY := hide hy
      clear hc c0 c1 e0 e1 hy
      have HNG : (Hid (wlt y (t, p)) ∧ cmpW y (t, p) < 0) ∨ (Hid (¬ wlt y (t, p)) ∧ 0 ≤ cmpW y (t, p)) := by
        by_cases hcw : wlt y (t, p)
        · exact .inl ⟨hide hcw, cmpW_lt hcw⟩
        · exact .inr ⟨hide hcw, cmpW_ge hcw⟩
      rcases HNG with ⟨HCW, hneg⟩ | ⟨HCW, hneg⟩
      all_goals
        generalize hv : cmpW y (t, p) = v at *
        have HV := hide hv
        clear hv
        go_wp2_with fail
        rw [HH.out]
        have hz0 : (0 : Int) ≤ (h : Int) := by omega
        have hz1 : (h : Int) < (n : Int) := by omega
        refine order_begin (fun W => Keeps NoB wr W) (fun _ => true) (by kernel_rfl) 8 rfl ?_
        have HS : Keeps NoB wr wr.drew := (Keeps.refl _ _).drew
        refine order_pure (i := 0) rfl (by kernel_rfl) (fun _ _ _ h => h) (.inl ⟨rfl, fun _ => by go_simp; rfl⟩) ?_
        try simp only [Act.put, List.setIfInBounds_toArray, List.set_cons_succ, List.set_cons_zero]
        refine order_pure (i := 1) rfl (by kernel_rfl) (fun _ _ _ h => h) (.inl ⟨rfl, fun _ => by go_simp; rfl⟩) ?_
        try simp only [Act.put, List.setIfInBounds_toArray, List.set_cons_succ, List.set_cons_zero]
        refine order_pure (i := 2) rfl (by kernel_rfl) (fun _ _ _ h => h) (.inl ⟨rfl, fun _ => by go_simp; rfl⟩) ?_
        try simp only [Act.put, List.setIfInBounds_toArray, List.set_cons_succ, List.set_cons_zero]
        refine order_pure (i := 3) rfl (by kernel_rfl) (fun _ _ _ h => h) (.inl ⟨rfl, fun _ => by go_simp; rfl⟩) ?_
        try simp only [Act.put, List.setIfInBounds_toArray, List.set_cons_succ, List.set_cons_zero]
        refine order_held (i := 4) rfl (by kernel_rfl) (fun _ _ _ h => h) (.inl ⟨rfl, fun W hW => by
          have q0 : W.cell? ⟨g0, o + h * 2, none⟩ = some (.int .i64 y.1) := hW.cell id HC.out
          have q1 : W.cell? ⟨g0, o + h * 2 + 1, none⟩ = some (.int .i64 y.2) := hW.cell id HC1.out
          go_simp; rfl⟩) HS ?_
        try simp only [Act.put, List.setIfInBounds_toArray, List.set_cons_succ, List.set_cons_zero]
        refine order_held (i := 5) rfl (by kernel_rfl) (fun _ _ _ h => h) (.inl ⟨rfl, fun W hW => by
          have q0 : W.cell? ⟨bx, 0, none⟩ = some (.int .i64 t) := hW.cell id HE0.out
          have q1 : W.cell? ⟨bx, 1, none⟩ = some (.int .i64 p) := hW.cell id HE1.out
          go_simp; rfl⟩) HS ?_
        try simp only [Act.put, List.setIfInBounds_toArray, List.set_cons_succ, List.set_cons_zero]
        refine order_one (i := 6) rfl (by kernel_rfl) (fun K hK => ?_)
        go_simp
        refine (closure_any y (t, p) _).mono ?_
        rintro e w' ⟨rfl, hk⟩
        refine hK _ _ (fun _ h => h.trans' hk (fun _ _ => id) (fun _ _ => id)) ?_
        clear hK
        have HKD := hide (HS.trans' hk (fun _ _ => id) (fun _ _ => id) : Keeps NoB wr w')
        clear HS hk
        rw [HV.out]
        try simp only [Act.put, List.setIfInBounds_toArray, List.set_cons_succ, List.set_cons_zero]
        refine order_pure (i := 7) rfl (by kernel_rfl) (fun _ _ _ h => h) (.inl ⟨rfl, fun _ => by go_simp; rfl⟩) ?_
        try simp only [Act.put, List.setIfInBounds_toArray, List.set_cons_succ, List.set_cons_zero]
        refine order_done (by kernel_rfl) ?_
        go_wp2_with fail
      · go_roundg (j - (h + 1))
        case measure => omega
        case rel => exact ⟨h + 1, j, by omega, by omega, by omega, by go_num, rfl, HI.out.low HUP.out HY.out HCW.out HKD.out⟩
      · go_roundg (h - i)
        case measure => omega
        case rel => exact ⟨i, h, by omega, by omega, by omega, rfl, rfl, HI.out.high HUP.out HY.out HCW.out HKD.out⟩
    · obtain rfl : i = j := by omega
      by_cases hlast : i < n
      · obtain ⟨⟨g0, o, sp⟩, hA, hs, _, _, hc⟩ := (HR.out.keep HI.out.1 (fun _ _ => id)).2 (by omega)
        simp only at hs
        subst hs hA
        obtain ⟨y, hy⟩ : ∃ y, L[i]? = some y := ⟨_, List.getElem?_eq_getElem (by have := HL.out; omega)⟩
        obtain ⟨c0, c1⟩ := prs_at hy
        have HC := hide (show wr.cell? ⟨g0, o + i * 2, none⟩ = some (.int .i64 y.1) from (hc _ _ c0).1)
        have HC1 := hide (show wr.cell? ⟨g0, o + i * 2 + 1, none⟩ = some (.int .i64 y.2) from (hc _ _ c1).1)
        have HE0 := hide e0; have HE1 := hide e1
        clear hc c0 c1 e0 e1 hy
        go_wp2_with fail
        have hz : (i : Int) < n := by omega
        have hz0 : (0 : Int) ≤ i := by omega
        refine order_begin (fun W => Keeps NoB wr W) (fun _ => true) (by kernel_rfl) 16 rfl ?_
        have HS : Keeps NoB wr wr.drew := (Keeps.refl _ _).drew
        refine order_pure (i := 0) rfl (by kernel_rfl) (fun _ _ _ h => h) (.inl ⟨rfl, fun _ => by go_simp; rfl⟩) ?_
        try simp only [Act.put, List.setIfInBounds_toArray, List.set_cons_succ, List.set_cons_zero]
        refine order_pure (i := 1) rfl (by kernel_rfl) (fun _ _ _ h => h) (.inl ⟨rfl, fun _ => by go_simp; rfl⟩) ?_
        try simp only [Act.put, List.setIfInBounds_toArray, List.set_cons_succ, List.set_cons_zero]
        refine order_pure (i := 2) rfl (by kernel_rfl) (fun _ _ _ h => h) (.inl ⟨rfl, fun _ => by go_simp; rfl⟩) ?_
        try simp only [Act.put, List.setIfInBounds_toArray, List.set_cons_succ, List.set_cons_zero]
        refine order_pure (i := 3) rfl (by kernel_rfl) (fun _ _ _ h => h) (.inl ⟨rfl, fun _ => by go_simp; rfl⟩) ?_
        try simp only [Act.put, List.setIfInBounds_toArray, List.set_cons_succ, List.set_cons_zero]
        refine order_pure (i := 4) rfl (by kernel_rfl) (fun _ _ _ h => h) (.inl ⟨rfl, fun _ => by go_simp; rfl⟩) ?_
        try simp only [Act.put, List.setIfInBounds_toArray, List.set_cons_succ, List.set_cons_zero]
        refine order_pure (i := 5) rfl (by kernel_rfl) (fun _ _ _ h => h) (.inl ⟨rfl, fun _ => by go_simp; rfl⟩) ?_
        try simp only [Act.put, List.setIfInBounds_toArray, List.set_cons_succ, List.set_cons_zero]
        refine order_pure (i := 6) rfl (by kernel_rfl) (fun _ _ _ h => h) (.inl ⟨rfl, fun _ => by go_simp; rfl⟩) ?_
        try simp only [Act.put, List.setIfInBounds_toArray, List.set_cons_succ, List.set_cons_zero]
        refine order_pure (i := 7) rfl (by kernel_rfl) (fun _ _ _ h => h) (.inl ⟨rfl, fun _ => by go_simp; rfl⟩) ?_
        try simp only [Act.put, List.setIfInBounds_toArray, List.set_cons_succ, List.set_cons_zero]
        refine order_pure (i := 8) rfl (by kernel_rfl) (fun _ _ _ h => h) (.inl ⟨rfl, fun _ => by go_simp; rfl⟩) ?_
        try simp only [Act.put, List.setIfInBounds_toArray, List.set_cons_succ, List.set_cons_zero]
        refine order_held (i := 9) rfl (by kernel_rfl) (fun _ _ _ h => h) (.inl ⟨rfl, fun W hW => by
          have q0 : W.cell? ⟨g0, o + i * 2, none⟩ = some (.int .i64 y.1) := hW.cell id HC.out
          have q1 : W.cell? ⟨g0, o + i * 2 + 1, none⟩ = some (.int .i64 y.2) := hW.cell id HC1.out
          go_simp; rfl⟩) HS ?_
        try simp only [Act.put, List.setIfInBounds_toArray, List.set_cons_succ, List.set_cons_zero]
        refine order_held (i := 10) rfl (by kernel_rfl) (fun _ _ _ h => h) (.inl ⟨rfl, fun W hW => by
          have q0 : W.cell? ⟨bx, 0, none⟩ = some (.int .i64 t) := hW.cell id HE0.out
          have q1 : W.cell? ⟨bx, 1, none⟩ = some (.int .i64 p) := hW.cell id HE1.out
          go_simp; rfl⟩) HS ?_
        try simp only [Act.put, List.setIfInBounds_toArray, List.set_cons_succ, List.set_cons_zero]
        refine order_one (i := 11) rfl (by kernel_rfl) (fun K hK => ?_)
        go_simp
        refine (closure_any y (t, p) _).mono ?_
        rintro e w' ⟨rfl, hk⟩
        refine hK _ _ (fun _ h => h.trans' hk (fun _ _ => id) (fun _ _ => id)) ?_
        clear hK
        have HKD := hide (HS.trans' hk (fun _ _ => id) (fun _ _ => id) : Keeps NoB wr w')
        clear HS hk
        try simp only [Act.put, List.setIfInBounds_toArray, List.set_cons_succ, List.set_cons_zero]
        refine order_pure (i := 14) rfl (by kernel_rfl) (fun _ _ _ h => h) (.inl ⟨rfl, fun _ => by go_simp; rfl⟩) ?_
        try simp only [Act.put, List.setIfInBounds_toArray, List.set_cons_succ, List.set_cons_zero]
        refine order_pure (i := 12) rfl (by kernel_rfl) (fun _ _ _ h => h) (.inl ⟨rfl, fun _ => by go_simp; rfl⟩) ?_
        try simp only [Act.put, List.setIfInBounds_toArray, List.set_cons_succ, List.set_cons_zero]
        refine order_pure (i := 13) rfl (by kernel_rfl) (fun _ _ _ h => h) (.inl ⟨rfl, fun _ => by go_simp; rfl⟩) ?_
        try simp only [Act.put, List.setIfInBounds_toArray, List.set_cons_succ, List.set_cons_zero]
        refine order_pure (i := 15) rfl (by kernel_rfl) (fun _ _ _ h => h) (.inl ⟨rfl, fun _ => by go_simp; rfl⟩) ?_
        try simp only [Act.put, List.setIfInBounds_toArray, List.set_cons_succ, List.set_cons_zero]
        refine order_done (by kernel_rfl) ?_
        go_wp2_with fail
        go_ret2
        exact ⟨i, _, by have := HL.out; omega, rfl, HI.out.2.1, HI.out.2.2, HK0.out.trans' (HI.out.1.trans' HKD.out (fun _ _ => id) (fun _ _ => id) : Keeps NoB w0 w') (fun _ _ => id) (fun _ _ => id)⟩
      · go_wp2_with fail
        have hz : ¬ (i : Int) < n := by omega
        refine order_begin (fun W => Keeps NoB wr W) (fun _ => true) (by kernel_rfl) 16 rfl ?_
        refine order_pure (i := 0) rfl (by kernel_rfl) (fun _ _ _ h => h) (.inl ⟨rfl, fun _ => by go_simp; rfl⟩) ?_
        try simp only [Act.put, List.setIfInBounds_toArray, List.set_cons_succ, List.set_cons_zero]
        refine order_pure (i := 1) rfl (by kernel_rfl) (fun _ _ _ h => h) (.inl ⟨rfl, fun _ => by go_simp; rfl⟩) ?_
        try simp only [Act.put, List.setIfInBounds_toArray, List.set_cons_succ, List.set_cons_zero]
        refine order_pure (i := 2) rfl (by kernel_rfl) (fun _ _ _ h => h) (.inl ⟨rfl, fun _ => by go_simp; rfl⟩) ?_
        try simp only [Act.put, List.setIfInBounds_toArray, List.set_cons_succ, List.set_cons_zero]
        refine order_pure (i := 3) rfl (by kernel_rfl) (fun _ _ _ h => h) (.inl ⟨rfl, fun _ => by go_simp; rfl⟩) ?_
        try simp only [Act.put, List.setIfInBounds_toArray, List.set_cons_succ, List.set_cons_zero]
        refine order_pure (i := 4) rfl (by kernel_rfl) (fun _ _ _ h => h) (.inl ⟨rfl, fun _ => by go_simp; rfl⟩) ?_
        try simp only [Act.put, List.setIfInBounds_toArray, List.set_cons_succ, List.set_cons_zero]
        refine order_skip (i := 5) rfl (by kernel_rfl) (fun _ _ _ h => h) (by kernel_rfl) ?_
        try simp only [Act.put, List.setIfInBounds_toArray, List.set_cons_succ, List.set_cons_zero]
        refine order_skip (i := 6) rfl (by kernel_rfl) (fun _ _ _ h => h) (by kernel_rfl) ?_
        try simp only [Act.put, List.setIfInBounds_toArray, List.set_cons_succ, List.set_cons_zero]
        refine order_skip (i := 7) rfl (by kernel_rfl) (fun _ _ _ h => h) (by kernel_rfl) ?_
        try simp only [Act.put, List.setIfInBounds_toArray, List.set_cons_succ, List.set_cons_zero]
        refine order_skip (i := 8) rfl (by kernel_rfl) (fun _ _ _ h => h) (by kernel_rfl) ?_
        try simp only [Act.put, List.setIfInBounds_toArray, List.set_cons_succ, List.set_cons_zero]
        refine order_skip (i := 9) rfl (by kernel_rfl) (fun _ _ _ h => h) (by kernel_rfl) ?_
        try simp only [Act.put, List.setIfInBounds_toArray, List.set_cons_succ, List.set_cons_zero]
        refine order_skip (i := 10) rfl (by kernel_rfl) (fun _ _ _ h => h) (by kernel_rfl) ?_
        try simp only [Act.put, List.setIfInBounds_toArray, List.set_cons_succ, List.set_cons_zero]
        refine order_skip (i := 11) rfl (by kernel_rfl) (fun _ _ _ h => h) (by kernel_rfl) ?_
        try simp only [Act.put, List.setIfInBounds_toArray, List.set_cons_succ, List.set_cons_zero]
        refine order_pure (i := 14) rfl (by kernel_rfl) (fun _ _ _ h => h) (.inl ⟨rfl, fun _ => by go_simp; rfl⟩) ?_
        try simp only [Act.put, List.setIfInBounds_toArray, List.set_cons_succ, List.set_cons_zero]
        refine order_skip (i := 12) rfl (by kernel_rfl) (fun _ _ _ h => h) (by kernel_rfl) ?_
        try simp only [Act.put, List.setIfInBounds_toArray, List.set_cons_succ, List.set_cons_zero]
        refine order_pure (i := 13) rfl (by kernel_rfl) (fun _ _ _ h => h) (.inl ⟨rfl, fun _ => by go_simp; rfl⟩) ?_
        try simp only [Act.put, List.setIfInBounds_toArray, List.set_cons_succ, List.set_cons_zero]
        refine order_pure (i := 15) rfl (by kernel_rfl) (fun _ _ _ h => h) (.inl ⟨rfl, fun _ => by go_simp; rfl⟩) ?_
        try simp only [Act.put, List.setIfInBounds_toArray, List.set_cons_succ, List.set_cons_zero]
        refine order_done (by kernel_rfl) ?_
        go_wp2_with fail
        go_ret2
        exact ⟨i, _, by have := HL.out; omega, rfl, HI.out.2.1, HI.out.2.2, HK0.out.trans' (HI.out.1.drew : Keeps NoB w0 wr.drew) (fun _ _ => id) (fun _ _ => id)⟩
end Go.Proofs.Ytaiphjgklfioeaa
