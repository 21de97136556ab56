/- pigeonholelaw14: LinkLives. -/
import Derived.Test.YtjmljjmnamfljaaStep
namespace Go.Proofs.Ytjmljjmnamfljaa
open Go.RowKit Go.Maps

def LivesAt (w wx : World) (b m1 m2 r i : Nat) : Prop := ∃ N A c B d P L M, Two w wx b m1 m2 N r A c B d P L M ∧ N ≤ 4 * i ∧ P.length ≤ i ∧ M.length ≤ i
theorem lives_start {w w3 : World} {b m1 m2 : Nat} (h1 : LinksAt w3 w.heap.size b m1 m2 0 (fun _ => []) []) (hk : Keeps NoB w w3) : LivesAt w (w3.alloc (.cells #[.slice none 0 0, .slice none 0 0] 45)) b m1 m2 w3.heap.size 0 :=
  ⟨0, none, 0, none, 0, [], _, [], ⟨(show Run w w3 b m1 m2 0 _ [] from ⟨h1, hk⟩).fresh ((Keeps.refl NoB w3).alloc _), ⟨Blk.new w3 45 _, Slab.nil _ _ _, Slab.nil _ _ _⟩, Rel.none, hk.size, (fun k ⟨o, e⟩ => by cases e), (fun k ⟨o, e⟩ => by cases e)⟩, Nat.le_refl _, Nat.le_refl _, Nat.le_refl _⟩
theorem Two.len {w wx : World} {b m1 m2 N r c d : Nat} {A B : Option Addr} {P : List Pr} {L : LK} {M : List Mon} (h : Two w wx b m1 m2 N r A c B d P L M) (a : Int) : (L a).length ≤ P.length := by rw [← ofR_eq h.rel h.run.at'.good a]; exact ofR_len _ _
set_option maxRecDepth 100000 in
set_option maxHeartbeats 8000000 in
theorem link_lives (A : Option Addr) (n c : Nat) (hnc : n ≤ c) (E : List Dx) (w : World) (h : DosAt w A n E) : Calls Try.prog 4 #[.slice A n c] w fun e w' => e = .returned (.bool true) ∧ Keeps NoB w w' := by
  have H := hide h; clear h
  go_enter Try.func4, Try.ntmps4
  go_upto_if 10 with fail
  go_cut [0] (fun s0 wx => w = wx ∧ ∃ m : Nat, m ≤ 80 ∧ m ≤ n ∧ s0 = .slice A m c)
  case first =>
    by_cases h80 : n ≤ 80
    · have hz : (n : Int) ≤ 80 := by omega
      go_wp2_with fail
      go_meet
      exact ⟨rfl, n, h80, Nat.le_refl _, rfl⟩
    · have hz : (80 : Int) < n := by omega
      have hzc : (80 : Int) ≤ c := by omega
      go_wp2_with fail
      go_meet
      exact ⟨rfl, 80, Nat.le_refl _, by omega, rfl⟩
  case rest =>
    obtain ⟨rfl, m, hm80, hmn, rfl⟩ := hcut
    have HD := hide (H.out.pre hmn)
    generalize hE : E.take m = D at *
    clear hE H
    go_wp2_with
      first
      | (go_at_call 9
         refine (new_any _).mono ?_
         rintro e w3 ⟨rfl, h1, hk⟩)
      | fail
    have HP := hide (lives_start h1 hk)
    clear h1 hk
    generalize w.heap.size + 2 = b at *
    generalize w.heap.size + 1 = m2 at *
    obtain ⟨m1, hm1⟩ : ∃ m1, w.heap.size = m1 := ⟨_, rfl⟩
    rw [hm1] at HP
    clear hm1
    generalize w3.alloc (.cells #[.slice none 0 0, .slice none 0 0] 45) = w4 at *
    generalize w3.heap.size = r at *
    go_loopg [5] m (fun gg s wx => ∃ i : Nat, i ≤ m ∧ gg = m - i ∧ s = .int .i64 i ∧ LivesAt w wx b m1 m2 r i)
    case atStart => exact ⟨0, Nat.zero_le _, rfl, rfl, HP.out⟩
    case round =>
      clear HP
      obtain ⟨i, hi, rfl, rfl, N, A1, c1, B1, d1, P, L, M, htwo, hNi, hPi, hMi⟩ := hrel
      have HI := hide htwo
      clear htwo
      have hi0 : (0 : Int) ≤ i := by omega
      by_cases him : i < m
      · have hiz : (i : Int) < m := by omega
        obtain ⟨x, hx⟩ : ∃ x, D[i]? = some x := ⟨_, List.getElem?_eq_getElem (by rw [HD.out.1]; exact him)⟩
        obtain ⟨hok, ab, ao, rfl, e0, e1, e2, e3⟩ := (HD.out.keep HI.out.run.keep).2 i x hx
        obtain ⟨op, xa, xb, xr⟩ := x
        simp only at e0 e1 e2 e3 hok
        have HOK := hide hok
        clear hx hok
        go_wp2_with fail
        clear e0 e1 e2 e3
        have HI4 := hide (HI.out.fresh ((Keeps.refl NoB wr).alloc (.cells #[.int .i64 op, .int .i64 xa, .int .i64 xb, .int .i64 xr] 27)))
        have HX4 := hide (Blk.new wr 27 #[.int .i64 op, .int .i64 xa, .int .i64 xb, .int .i64 xr])
        have HXK := hide (show w.heap.size ≤ wr.heap.size from HI.out.run.keep.size)
        clear HI
        generalize wr.alloc (.cells #[.int .i64 op, .int .i64 xa, .int .i64 xb, .int .i64 xr] 27) = w5 at *
        generalize wr.heap.size = xk at *
        clear wr
        refine order_begin (fun W => Blk W xk 27 #[.int .i64 op, .int .i64 xa, .int .i64 xb, .int .i64 xr]) (fun _ => true) (by kernel_rfl) 39 rfl ?_
        have HS := HX4.out.keep (Keeps.refl NoB w5).drew id
        have HI5 := hide (HI4.out.fresh (Keeps.refl NoB w5).drew)
        clear HI4 HX4
        generalize w5.drew = w6 at *
        clear w5
        refine order_pure (i := 0) rfl (by kernel_rfl) (fun _ _ _ h => h) (.inl ⟨rfl, fun _ => by go_simp; rfl⟩) ?_
        try simp only [Act.put, List.setIfInBounds_toArray, List.set_cons_succ, List.set_cons_zero]
        refine order_pure (i := 1) rfl (by kernel_rfl) (fun _ _ _ h => h) (.inl ⟨rfl, fun _ => by go_simp; rfl⟩) ?_
        try simp only [Act.put, List.setIfInBounds_toArray, List.set_cons_succ, List.set_cons_zero]
        refine order_held (i := 2) rfl (by kernel_rfl) (fun _ _ _ h => h) (.inl ⟨rfl, fun W hW => by
          have q0 : W.cell? ⟨xk, 0, none⟩ = some (.int .i64 op) := hW.cell 0
          have q1 : W.cell? ⟨xk, 1, none⟩ = some (.int .i64 xa) := hW.cell 1
          have q2 : W.cell? ⟨xk, 2, none⟩ = some (.int .i64 xb) := hW.cell 2
          have q3 : W.cell? ⟨xk, 3, none⟩ = some (.int .i64 xr) := hW.cell 3
          go_simp; rfl⟩) HS ?_
        try simp only [Act.put, List.setIfInBounds_toArray, List.set_cons_succ, List.set_cons_zero]
        refine order_one (i := 3) rfl (by kernel_rfl) (fun K hK => ?_)
        go_simp
        refine (step_any w w6 b m1 m2 N r c1 d1 A1 B1 P L M op xa xb xr HI5.out (by omega) (by omega) (by omega) HOK.out.1 HOK.out.2.1 HOK.out.2.2).mono ?_
        rintro e w7 ⟨N2, A2, c2, B2, d2, P2, L2, M2, rfl, ht2, hn2, hp2, hm2, hof⟩
        have HS7 := hof _ _ _ HS (by decide) (by decide) (by decide)
        refine hK _ _ (fun _ _ => HS7) ?_
        have HT := hide ht2
        have HR0 := hide (show w7.cell? ⟨r, 1, none⟩ = some (.slice B2 M2.length d2) from ht2.ref.blk.cell 1)
        have HN2 := hide (And.intro hn2 (And.intro hp2 hm2))
        clear hK HS ht2 hn2 hp2 hm2 hof HI5
        try simp only [Act.put, List.setIfInBounds_toArray, List.set_cons_succ, List.set_cons_zero]
        refine order_more (fun W => W.cell? ⟨r, 1, none⟩ = some (.slice B2 M2.length d2)) HS7 HR0.out ?_
        have HS := And.intro HS7 HR0.out
        clear HS7 HR0
        refine order_pure (i := 4) rfl (by kernel_rfl) (fun _ _ _ h => h) (.inl ⟨rfl, fun _ => by go_simp; rfl⟩) ?_
        try simp only [Act.put, List.setIfInBounds_toArray, List.set_cons_succ, List.set_cons_zero]
        refine order_pure (i := 5) rfl (by kernel_rfl) (fun _ _ _ h => h) (.inl ⟨rfl, fun _ => by go_simp; rfl⟩) ?_
        try simp only [Act.put, List.setIfInBounds_toArray, List.set_cons_succ, List.set_cons_zero]
        refine order_pure (i := 6) rfl (by kernel_rfl) (fun _ _ _ h => h) (.inl ⟨rfl, fun _ => by go_simp; rfl⟩) ?_
        try simp only [Act.put, List.setIfInBounds_toArray, List.set_cons_succ, List.set_cons_zero]
        refine order_pure (i := 7) rfl (by kernel_rfl) (fun _ _ _ h => h) (.inl ⟨rfl, fun _ => by go_simp; rfl⟩) ?_
        try simp only [Act.put, List.setIfInBounds_toArray, List.set_cons_succ, List.set_cons_zero]
        refine order_pure (i := 10) rfl (by kernel_rfl) (fun _ _ _ h => h) (.inl ⟨rfl, fun _ => by go_simp; rfl⟩) ?_
        try simp only [Act.put, List.setIfInBounds_toArray, List.set_cons_succ, List.set_cons_zero]
        refine order_pure (i := 11) rfl (by kernel_rfl) (fun _ _ _ h => h) (.inl ⟨rfl, fun _ => by go_simp; rfl⟩) ?_
        try simp only [Act.put, List.setIfInBounds_toArray, List.set_cons_succ, List.set_cons_zero]
        refine order_held (i := 8) rfl (by kernel_rfl) (fun _ _ _ h => h) (.inl ⟨rfl, fun W hW => by
          have q0 : W.cell? ⟨xk, 1, none⟩ = some (.int .i64 xa) := hW.1.cell 1
          go_simp; rfl⟩) HS ?_
        try simp only [Act.put, List.setIfInBounds_toArray, List.set_cons_succ, List.set_cons_zero]
        refine order_held (i := 12) rfl (by kernel_rfl) (fun _ _ _ h => h) (.inl ⟨rfl, fun W hW => by
          have q0 : W.cell? ⟨xk, 1, none⟩ = some (.int .i64 xa) := hW.1.cell 1
          go_simp; rfl⟩) HS ?_
        try simp only [Act.put, List.setIfInBounds_toArray, List.set_cons_succ, List.set_cons_zero]
        refine order_one (i := 9) rfl (by kernel_rfl) (fun K hK => ?_)
        go_simp
        refine (of_at w7 w.heap.size b m1 m2 N2 L2 M2 xa HT.out.run.at' HOK.out.1 (by have := HN2.out; omega)).mono ?_
        rintro e w8 ⟨X1, cx1, rfl, hx1, hk, _⟩
        have HS2 : (Blk w8 xk 27 #[.int .i64 op, .int .i64 xa, .int .i64 xb, .int .i64 xr] ∧ w8.cell? ⟨r, 1, none⟩ = some (.slice B2 M2.length d2)) := ⟨HS.1.keep hk id, hk.cell id HS.2⟩
        refine hK _ _ (fun _ _ => HS2) ?_
        have HT8 := hide (HT.out.fresh hk); have HX1 := hide hx1
        clear hK hk hx1 HS HT
        try simp only [Act.put, List.setIfInBounds_toArray, List.set_cons_succ, List.set_cons_zero]
        refine order_one (i := 13) rfl (by kernel_rfl) (fun K hK => ?_)
        go_simp
        refine (rof_any w8 r c2 d2 A2 B2 P2 M2 L2 xa HT8.out.ref (by have := HN2.out; omega) HT8.out.rel).mono ?_
        rintro e w9 ⟨X2, cx2, rfl, hx2, hk, _⟩
        rw [ofR_eq HT8.out.rel HT8.out.run.at'.good xa] at hx2 ⊢
        have HS3 : (Blk w9 xk 27 #[.int .i64 op, .int .i64 xa, .int .i64 xb, .int .i64 xr] ∧ w9.cell? ⟨r, 1, none⟩ = some (.slice B2 M2.length d2)) := ⟨HS2.1.keep hk id, hk.cell id HS2.2⟩
        refine hK _ _ (fun _ _ => HS3) ?_
        have HT9 := hide (HT8.out.fresh hk); have HX1 := hide (HX1.out.fresh hk); have HX2 := hide hx2
        clear hK hk hx2 HS2 HT8
        try simp only [Act.put, List.setIfInBounds_toArray, List.set_cons_succ, List.set_cons_zero]
        refine order_one (i := 14) rfl (by kernel_rfl) (fun K hK => ?_)
        go_simp
        refine (same_self X1 X2 (L2 xa).length cx1 cx2 (L2 xa) w9 _ _ _ _ HX1.out.reads HX2.out.reads (Roomy.small (by have := HT9.out.len xa; have := HN2.out; omega) (by omega))).mono ?_
        rintro e w10 ⟨rfl, hk⟩
        have HS : (Blk w10 xk 27 #[.int .i64 op, .int .i64 xa, .int .i64 xb, .int .i64 xr] ∧ w10.cell? ⟨r, 1, none⟩ = some (.slice B2 M2.length d2)) := ⟨HS3.1.keep hk id, hk.cell id HS3.2⟩
        refine hK _ _ (fun _ _ => HS) ?_
        have HT := hide (HT9.out.fresh hk)
        clear hK hk HS3 HT9 HX1 HX2
        try simp only [Act.put, List.setIfInBounds_toArray, List.set_cons_succ, List.set_cons_zero]
        refine order_pure (i := 15) rfl (by kernel_rfl) (fun _ _ _ h => h) (.inl ⟨rfl, fun _ => by go_simp; rfl⟩) ?_
        try simp only [Act.put, List.setIfInBounds_toArray, List.set_cons_succ, List.set_cons_zero]
        refine order_pure (i := 16) rfl (by kernel_rfl) (fun _ _ _ h => h) (.inl ⟨rfl, fun _ => by go_simp; rfl⟩) ?_
        try simp only [Act.put, List.setIfInBounds_toArray, List.set_cons_succ, List.set_cons_zero]
        refine order_pure (i := 17) rfl (by kernel_rfl) (fun _ _ _ h => h) (.inl ⟨rfl, fun _ => by go_simp; rfl⟩) ?_
        try simp only [Act.put, List.setIfInBounds_toArray, List.set_cons_succ, List.set_cons_zero]
        refine order_pure (i := 18) rfl (by kernel_rfl) (fun _ _ _ h => h) (.inl ⟨rfl, fun _ => by go_simp; rfl⟩) ?_
        try simp only [Act.put, List.setIfInBounds_toArray, List.set_cons_succ, List.set_cons_zero]
        refine order_pure (i := 19) rfl (by kernel_rfl) (fun _ _ _ h => h) (.inl ⟨rfl, fun _ => by go_simp; rfl⟩) ?_
        try simp only [Act.put, List.setIfInBounds_toArray, List.set_cons_succ, List.set_cons_zero]
        refine order_pure (i := 22) rfl (by kernel_rfl) (fun _ _ _ h => h) (.inl ⟨rfl, fun _ => by go_simp; rfl⟩) ?_
        try simp only [Act.put, List.setIfInBounds_toArray, List.set_cons_succ, List.set_cons_zero]
        refine order_pure (i := 23) rfl (by kernel_rfl) (fun _ _ _ h => h) (.inl ⟨rfl, fun _ => by go_simp; rfl⟩) ?_
        try simp only [Act.put, List.setIfInBounds_toArray, List.set_cons_succ, List.set_cons_zero]
        refine order_held (i := 20) rfl (by kernel_rfl) (fun _ _ _ h => h) (.inl ⟨rfl, fun W hW => by
          have q0 : W.cell? ⟨xk, 2, none⟩ = some (.int .i64 xb) := hW.1.cell 2
          go_simp; rfl⟩) HS ?_
        try simp only [Act.put, List.setIfInBounds_toArray, List.set_cons_succ, List.set_cons_zero]
        refine order_held (i := 24) rfl (by kernel_rfl) (fun _ _ _ h => h) (.inl ⟨rfl, fun W hW => by
          have q0 : W.cell? ⟨xk, 2, none⟩ = some (.int .i64 xb) := hW.1.cell 2
          go_simp; rfl⟩) HS ?_
        try simp only [Act.put, List.setIfInBounds_toArray, List.set_cons_succ, List.set_cons_zero]
        refine order_one (i := 21) rfl (by kernel_rfl) (fun K hK => ?_)
        go_simp
        refine (of_at w10 w.heap.size b m1 m2 N2 L2 M2 xb HT.out.run.at' HOK.out.2.1 (by have := HN2.out; omega)).mono ?_
        rintro e w8 ⟨X1, cx1, rfl, hx1, hk, _⟩
        have HS2 : (Blk w8 xk 27 #[.int .i64 op, .int .i64 xa, .int .i64 xb, .int .i64 xr] ∧ w8.cell? ⟨r, 1, none⟩ = some (.slice B2 M2.length d2)) := ⟨HS.1.keep hk id, hk.cell id HS.2⟩
        refine hK _ _ (fun _ _ => HS2) ?_
        have HT8 := hide (HT.out.fresh hk); have HX1 := hide hx1
        clear hK hk hx1 HS HT
        try simp only [Act.put, List.setIfInBounds_toArray, List.set_cons_succ, List.set_cons_zero]
        refine order_one (i := 25) rfl (by kernel_rfl) (fun K hK => ?_)
        go_simp
        refine (rof_any w8 r c2 d2 A2 B2 P2 M2 L2 xb HT8.out.ref (by have := HN2.out; omega) HT8.out.rel).mono ?_
        rintro e w9 ⟨X2, cx2, rfl, hx2, hk, _⟩
        rw [ofR_eq HT8.out.rel HT8.out.run.at'.good xb] at hx2 ⊢
        have HS3 : (Blk w9 xk 27 #[.int .i64 op, .int .i64 xa, .int .i64 xb, .int .i64 xr] ∧ w9.cell? ⟨r, 1, none⟩ = some (.slice B2 M2.length d2)) := ⟨HS2.1.keep hk id, hk.cell id HS2.2⟩
        refine hK _ _ (fun _ _ => HS3) ?_
        have HT9 := hide (HT8.out.fresh hk); have HX1 := hide (HX1.out.fresh hk); have HX2 := hide hx2
        clear hK hk hx2 HS2 HT8
        try simp only [Act.put, List.setIfInBounds_toArray, List.set_cons_succ, List.set_cons_zero]
        refine order_one (i := 26) rfl (by kernel_rfl) (fun K hK => ?_)
        go_simp
        refine (same_self X1 X2 (L2 xb).length cx1 cx2 (L2 xb) w9 _ _ _ _ HX1.out.reads HX2.out.reads (Roomy.small (by have := HT9.out.len xb; have := HN2.out; omega) (by omega))).mono ?_
        rintro e w10 ⟨rfl, hk⟩
        have HS : (Blk w10 xk 27 #[.int .i64 op, .int .i64 xa, .int .i64 xb, .int .i64 xr] ∧ w10.cell? ⟨r, 1, none⟩ = some (.slice B2 M2.length d2)) := ⟨HS3.1.keep hk id, hk.cell id HS3.2⟩
        refine hK _ _ (fun _ _ => HS) ?_
        have HT := hide (HT9.out.fresh hk)
        clear hK hk HS3 HT9 HX1 HX2
        try simp only [Act.put, List.setIfInBounds_toArray, List.set_cons_succ, List.set_cons_zero]
        refine order_pure (i := 27) rfl (by kernel_rfl) (fun _ _ _ h => h) (.inl ⟨rfl, fun _ => by go_simp; rfl⟩) ?_
        try simp only [Act.put, List.setIfInBounds_toArray, List.set_cons_succ, List.set_cons_zero]
        refine order_pure (i := 28) rfl (by kernel_rfl) (fun _ _ _ h => h) (.inl ⟨rfl, fun _ => by go_simp; rfl⟩) ?_
        try simp only [Act.put, List.setIfInBounds_toArray, List.set_cons_succ, List.set_cons_zero]
        refine order_pure (i := 29) rfl (by kernel_rfl) (fun _ _ _ h => h) (.inl ⟨rfl, fun _ => by go_simp; rfl⟩) ?_
        try simp only [Act.put, List.setIfInBounds_toArray, List.set_cons_succ, List.set_cons_zero]
        refine order_pure (i := 30) rfl (by kernel_rfl) (fun _ _ _ h => h) (.inl ⟨rfl, fun _ => by go_simp; rfl⟩) ?_
        try simp only [Act.put, List.setIfInBounds_toArray, List.set_cons_succ, List.set_cons_zero]
        refine order_pure (i := 32) rfl (by kernel_rfl) (fun _ _ _ h => h) (.inl ⟨rfl, fun _ => by go_simp; rfl⟩) ?_
        try simp only [Act.put, List.setIfInBounds_toArray, List.set_cons_succ, List.set_cons_zero]
        refine order_pure (i := 33) rfl (by kernel_rfl) (fun _ _ _ h => h) (.inl ⟨rfl, fun _ => by go_simp; rfl⟩) ?_
        try simp only [Act.put, List.setIfInBounds_toArray, List.set_cons_succ, List.set_cons_zero]
        refine order_pure (i := 34) rfl (by kernel_rfl) (fun _ _ _ h => h) (.inl ⟨rfl, fun _ => by go_simp; rfl⟩) ?_
        try simp only [Act.put, List.setIfInBounds_toArray, List.set_cons_succ, List.set_cons_zero]
        refine order_held (i := 35) rfl (by kernel_rfl) (fun _ _ _ h => h) (.inl ⟨rfl, fun W hW => by
          have q0 : W.cell? ⟨r, 1, none⟩ = some (.slice B2 M2.length d2) := hW.2
          go_simp; rfl⟩) HS ?_
        try simp only [Act.put, List.setIfInBounds_toArray, List.set_cons_succ, List.set_cons_zero]
        refine order_one (i := 31) rfl (by kernel_rfl) (fun K hK => ?_)
        go_simp
        refine (mons_any _ w.heap.size b m1 m2 N2 L2 M2 HT.out.run.at' (by have := HN2.out; omega) (by have := HN2.out; omega)).mono ?_
        rintro e w12 ⟨X1, cx1, rfl, hx1, hk, _⟩
        have HS2 : (Blk w12 xk 27 #[.int .i64 op, .int .i64 xa, .int .i64 xb, .int .i64 xr] ∧ w12.cell? ⟨r, 1, none⟩ = some (.slice B2 M2.length d2)) := ⟨HS.1.keep hk id, hk.cell id HS.2⟩
        refine hK _ _ (fun _ _ => HS2) ?_
        have HT8 := hide (HT.out.fresh hk); have HX1 := hide hx1
        clear hK hk hx1 HS HT
        try simp only [Act.put, List.setIfInBounds_toArray, List.set_cons_succ, List.set_cons_zero]
        refine order_one (i := 36) rfl (by kernel_rfl) (fun K hK => ?_)
        go_simp
        refine (mons_self X1 B2 M2.length cx1 d2 M2 w12 _ _ _ _ HX1.out.reads HT8.out.ref.two.reads (by have := HN2.out; omega)).mono ?_
        rintro e w13 ⟨rfl, hk⟩
        have HS3 : (Blk w13 xk 27 #[.int .i64 op, .int .i64 xa, .int .i64 xb, .int .i64 xr] ∧ w13.cell? ⟨r, 1, none⟩ = some (.slice B2 M2.length d2)) := ⟨HS2.1.keep hk id, hk.cell id HS2.2⟩
        refine hK _ _ (fun _ _ => HS3) ?_
        have HT9 := hide (HT8.out.fresh hk)
        clear hK hk HS2 HT8 HX1
        try simp only [Act.put, List.setIfInBounds_toArray, List.set_cons_succ, List.set_cons_zero]
        refine order_pure (i := 37) rfl (by kernel_rfl) (fun _ _ _ h => h) (.inl ⟨rfl, fun _ => by go_simp; rfl⟩) ?_
        try simp only [Act.put, List.setIfInBounds_toArray, List.set_cons_succ, List.set_cons_zero]
        refine order_pure (i := 38) rfl (by kernel_rfl) (fun _ _ _ h => h) (.inl ⟨rfl, fun _ => by go_simp; rfl⟩) ?_
        try simp only [Act.put, List.setIfInBounds_toArray, List.set_cons_succ, List.set_cons_zero]
        refine order_done (by kernel_rfl) ?_
        clear HS3
        go_wp2_with fail
        go_roundg (m - (i + 1))
        case measure => omega
        case rel => exact ⟨i + 1, by omega, rfl, by go_num, N2, A2, c2, B2, d2, P2, L2, M2, HT9.out, by have := HN2.out; omega, by have := HN2.out; omega, by have := HN2.out; omega⟩
      · obtain rfl : i = m := by omega
        have hiz : ¬ (i : Int) < i := by omega
        go_wp2_with fail
        go_loopg [7] i (fun gg s wx => ∃ k : Nat, k ≤ i ∧ gg = i - k ∧ s = .int .i64 k ∧ Two w wx b m1 m2 N r A1 c1 B1 d1 P L M)
        case atStart => exact ⟨0, Nat.zero_le _, rfl, rfl, HI.out⟩
        case round =>
          clear HI
          obtain ⟨k, hk, rfl, rfl, htwo⟩ := hrel
          have HI := hide htwo
          clear htwo
          have hk0 : (0 : Int) ≤ k := by omega
          by_cases hki : k < i
          · have hkz : (k : Int) < i := by omega
            obtain ⟨x, hx⟩ : ∃ x, D[k]? = some x := ⟨_, List.getElem?_eq_getElem (by rw [HD.out.1]; exact hki)⟩
            obtain ⟨hok, ab, ao, rfl, _, e1, _, _⟩ := HD.out.2 k x hx
            obtain ⟨op, xa, xb, xr⟩ := x
            simp only at e1 hok
            have HOK := hide hok; have HE := hide e1
            clear hx hok e1
            go_wp2_with fail
            refine order_begin (fun W => Keeps NoB w W) (fun _ => true) (by kernel_rfl) 16 rfl ?_
            have HS : Keeps NoB w wr.drew := HI.out.run.keep.drew
            have HT := hide (HI.out.fresh (Keeps.refl NoB wr).drew)
            clear HI
            generalize wr.drew = w7 at *
            refine order_pure (i := 0) rfl (by kernel_rfl) (fun _ _ _ h => h) (.inl ⟨rfl, fun _ => by go_simp; rfl⟩) ?_
            try simp only [Act.put, List.setIfInBounds_toArray, List.set_cons_succ, List.set_cons_zero]
            refine order_pure (i := 1) rfl (by kernel_rfl) (fun _ _ _ h => h) (.inl ⟨rfl, fun _ => by go_simp; rfl⟩) ?_
            try simp only [Act.put, List.setIfInBounds_toArray, List.set_cons_succ, List.set_cons_zero]
            refine order_pure (i := 2) rfl (by kernel_rfl) (fun _ _ _ h => h) (.inl ⟨rfl, fun _ => by go_simp; rfl⟩) ?_
            try simp only [Act.put, List.setIfInBounds_toArray, List.set_cons_succ, List.set_cons_zero]
            refine order_pure (i := 3) rfl (by kernel_rfl) (fun _ _ _ h => h) (.inl ⟨rfl, fun _ => by go_simp; rfl⟩) ?_
            try simp only [Act.put, List.setIfInBounds_toArray, List.set_cons_succ, List.set_cons_zero]
            refine order_pure (i := 4) rfl (by kernel_rfl) (fun _ _ _ h => h) (.inl ⟨rfl, fun _ => by go_simp; rfl⟩) ?_
            try simp only [Act.put, List.setIfInBounds_toArray, List.set_cons_succ, List.set_cons_zero]
            refine order_pure (i := 7) rfl (by kernel_rfl) (fun _ _ _ h => h) (.inl ⟨rfl, fun _ => by go_simp; rfl⟩) ?_
            try simp only [Act.put, List.setIfInBounds_toArray, List.set_cons_succ, List.set_cons_zero]
            refine order_pure (i := 8) rfl (by kernel_rfl) (fun _ _ _ h => h) (.inl ⟨rfl, fun _ => by go_simp; rfl⟩) ?_
            try simp only [Act.put, List.setIfInBounds_toArray, List.set_cons_succ, List.set_cons_zero]
            refine order_pure (i := 9) rfl (by kernel_rfl) (fun _ _ _ h => h) (.inl ⟨rfl, fun _ => by go_simp; rfl⟩) ?_
            try simp only [Act.put, List.setIfInBounds_toArray, List.set_cons_succ, List.set_cons_zero]
            refine order_pure (i := 10) rfl (by kernel_rfl) (fun _ _ _ h => h) (.inl ⟨rfl, fun _ => by go_simp; rfl⟩) ?_
            try simp only [Act.put, List.setIfInBounds_toArray, List.set_cons_succ, List.set_cons_zero]
            refine order_pure (i := 11) rfl (by kernel_rfl) (fun _ _ _ h => h) (.inl ⟨rfl, fun _ => by go_simp; rfl⟩) ?_
            try simp only [Act.put, List.setIfInBounds_toArray, List.set_cons_succ, List.set_cons_zero]
            refine order_held (i := 5) rfl (by kernel_rfl) (fun _ _ _ h => h) (.inl ⟨rfl, fun W hW => by
              have q0 : W.cell? ⟨ab, ao + k * 4 + 1, none⟩ = some (.int .i64 xa) := hW.cell id HE.out
              go_simp; rfl⟩) HS ?_
            try simp only [Act.put, List.setIfInBounds_toArray, List.set_cons_succ, List.set_cons_zero]
            refine order_held (i := 12) rfl (by kernel_rfl) (fun _ _ _ h => h) (.inl ⟨rfl, fun W hW => by
              have q0 : W.cell? ⟨ab, ao + k * 4 + 1, none⟩ = some (.int .i64 xa) := hW.cell id HE.out
              go_simp; rfl⟩) HS ?_
            try simp only [Act.put, List.setIfInBounds_toArray, List.set_cons_succ, List.set_cons_zero]
            refine order_one (i := 6) rfl (by kernel_rfl) (fun K hK => ?_)
            go_simp
            refine (of_at w7 w.heap.size b m1 m2 N L M xa HT.out.run.at' HOK.out.1 (by omega)).mono ?_
            rintro e w8 ⟨X1, cx1, rfl, hx1, hk, _⟩
            have HS2 := HS.trans' hk (fun _ _ => id) (fun _ _ => id)
            refine hK _ _ (fun _ _ => HS2) ?_
            have HT8 := hide (HT.out.fresh hk); have HX1 := hide hx1
            clear hK hk hx1 HS HT
            try simp only [Act.put, List.setIfInBounds_toArray, List.set_cons_succ, List.set_cons_zero]
            refine order_one (i := 13) rfl (by kernel_rfl) (fun K hK => ?_)
            go_simp
            refine (rof_any w8 r c1 d1 A1 B1 P M L xa HT8.out.ref (by omega) HT8.out.rel).mono ?_
            rintro e w9 ⟨X2, cx2, rfl, hx2, hk, _⟩
            rw [ofR_eq HT8.out.rel HT8.out.run.at'.good xa] at hx2 ⊢
            have HS3 := HS2.trans' hk (fun _ _ => id) (fun _ _ => id)
            refine hK _ _ (fun _ _ => HS3) ?_
            have HT9 := hide (HT8.out.fresh hk); have HX1 := hide (HX1.out.fresh hk); have HX2 := hide hx2
            clear hK hk hx2 HS2 HT8
            try simp only [Act.put, List.setIfInBounds_toArray, List.set_cons_succ, List.set_cons_zero]
            refine order_one (i := 14) rfl (by kernel_rfl) (fun K hK => ?_)
            go_simp
            refine (same_self X1 X2 (L xa).length cx1 cx2 (L xa) w9 _ _ _ _ HX1.out.reads HX2.out.reads (Roomy.small (by have := HT9.out.len xa; omega) (by omega))).mono ?_
            rintro e w10 ⟨rfl, hk⟩
            have HS4 := HS3.trans' hk (fun _ _ => id) (fun _ _ => id)
            refine hK _ _ (fun _ _ => HS4) ?_
            have HT := hide (HT9.out.fresh hk)
            clear hK hk HS3 HT9 HX1 HX2
            try simp only [Act.put, List.setIfInBounds_toArray, List.set_cons_succ, List.set_cons_zero]
            refine order_pure (i := 15) rfl (by kernel_rfl) (fun _ _ _ h => h) (.inl ⟨rfl, fun _ => by go_simp; rfl⟩) ?_
            try simp only [Act.put, List.setIfInBounds_toArray, List.set_cons_succ, List.set_cons_zero]
            refine order_done (by kernel_rfl) ?_
            clear HS4
            go_wp2_with fail
            go_roundg (i - (k + 1))
            case measure => omega
            case rel => exact ⟨k + 1, by omega, rfl, by go_num, HT.out⟩
          · obtain rfl : k = i := by omega
            have hkz : ¬ (k : Int) < k := by omega
            go_wp2_with
              first
              | (go_at_call 8
                 refine (awake_any _).mono ?_
                 rintro e w8 ⟨rfl, hk⟩
                 have HK8 := hide (HI.out.run.keep.trans' hk (fun _ _ => id) (fun _ _ => id))
                 clear hk)
              | fail
            go_ret
            exact ⟨rfl, HK8.out⟩
end Go.Proofs.Ytjmljjmnamfljaa
