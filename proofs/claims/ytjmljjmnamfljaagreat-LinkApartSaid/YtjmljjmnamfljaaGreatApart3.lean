/- pigeonholelaw14: LinkApart. -/
import Derived.Test.YtjmljjmnamfljaaGreatMade
import Derived.Test.YtjmljjmnamfljaaGreatCmp
namespace Go.Proofs.YtjmljjmnamfljaaGreat
open Go.RowKit Go.Maps

/-- Links since w; a list of one's, a row of monitors; and a row of which the first i may have turned. -/
structure ApAt (w wx : World) (b m1 m2 N : Nat) (L : LK) (M : List Mon) (l : List Int) (Y : Option Addr) (ly cy : Nat) (B : Option Addr) (cB : Nat) (A : Option Addr) (cA nl i : Nat) : Prop where
  run : Run w wx b m1 m2 N L M
  y : Slab wx 3 1 Y ly cy (l.map (Value.int .i64))
  row : Slab wx 33 3 B nl cB (mons M)
  mrow : MonRow wx A nl cA M i
section
variable {w wx wy : World} {b m1 m2 N ly cy cB cA nl i : Nat} {L : LK} {M : List Mon} {l : List Int} {Y B A : Option Addr}
theorem ApAt.fresh (h : ApAt w wx b m1 m2 N L M l Y ly cy B cB A cA nl i) (k : Keeps NoB wx wy) : ApAt w wy b m1 m2 N L M l Y ly cy B cB A cA nl i := ⟨h.run.fresh k, h.y.fresh k, h.row.fresh k, h.mrow.keep k (fun _ _ => id)⟩
theorem ApAt.two {g o : Nat} (h : ApAt w wx b m1 m2 N L M l Y ly cy B cB (some ⟨g, o, none⟩) cA nl i) (hi : i < nl) (hAB : ∀ k, rowB (some ⟨g, o, none⟩) k → ¬ rowB B k) (hA : ∀ k, rowB (some ⟨g, o, none⟩) k → w.heap.size ≤ k) (u v : Value) :
    ApAt w ((wx.setCell ⟨g, o + i * 3, none⟩ u).setCell ⟨g, o + i * 3 + 1, none⟩ v) b m1 m2 N L M l Y ly cy B cB (some ⟨g, o, none⟩) cA nl (i + 1) := by
  have hk := two_keeps wx g (o + i * 3) (o + i * 3 + 1) u v
  have hg : rowB (some (⟨g, o, none⟩ : Addr)) g := ⟨o, rfl⟩
  obtain ⟨ys, h1, _⟩ := id h.mrow
  obtain ⟨cs, hcs⟩ := row_blk h1 hg
  refine ⟨h.run.cells hk (fun k e => ⟨33, cs, e ▸ hcs, by decide⟩) (fun k e => hA k (e ▸ hg)), h.y.keep hk (fun k hk e => h.y.ne hcs (by decide) (e ▸ hk)), h.row.keep hk (fun k hk e => hAB g hg (e ▸ hk)), h.mrow.put hi u v⟩
end

set_option maxRecDepth 100000 in
set_option maxHeartbeats 8000000 in
theorem link_apart (A : Option Addr) (n c : Nat) (hnc : n ≤ c) (a : Int) (ha : IntOk a) (E : List Dx) (w : World) (h : DosAt w A n E) : Calls Tryz.prog 3 #[.slice A n c, .int .i64 a] w (TrueK w) := by
  have H := hide h; clear h
  have HA := hide ha; clear ha
  go_enter Tryz.func3, Tryz.ntmps3
  go_upto_if 16 with fail
  go_cut [0] (fun s0 wx => w = wx ∧ ∃ m : Nat, m ≤ 80 ∧ m ≤ n ∧ s0 = .slice A m c)
  case first =>
    by_cases h80 : n ≤ 80
    · have hz : (n : Int) ≤ 80 := by omega
      go_wp2_with fail
      go_meet
      exact ⟨rfl, n, h80, Nat.le_refl _, rfl⟩
    · have hz : (80 : Int) < n := by omega
      have hzc : (80 : Int) ≤ c := by omega
      go_wp2_with fail
      go_meet
      exact ⟨rfl, 80, Nat.le_refl _, by omega, rfl⟩
  case rest =>
    obtain ⟨rfl, m, hm80, hmn, rfl⟩ := hcut
    have HD := hide (H.out.pre hmn)
    generalize hE : E.take m = D at *
    clear hE H
    go_wp2_with fail
    refine (made_steps A m c hm80 D w HD.out).mono ?_
    rintro e w1 ⟨b, m1, m2, N, L, M, rfl, hr, hN, hM, hL⟩
    have HR := hide hr
    have HLL := hide (hL a)
    clear hr hL
    go_wp2_with fail
    refine (of_at w1 w.heap.size b m1 m2 N L M a HR.out.at' HA.out (by omega)).mono ?_
    rintro e w2 ⟨X, cx, rfl, hx, hk, hn⟩
    obtain ⟨l, hl⟩ : ∃ l, L a = l := ⟨_, rfl⟩
    rw [hl] at hx HLL ⊢
    obtain ⟨nl, hnl⟩ : ∃ nl, l.length = nl := ⟨_, rfl⟩
    rw [hnl] at hx HLL ⊢
    have HLA := hide hl; have HNL := hide hnl
    have HX := hide hx
    have HXN := hide (show ∀ k, rowB X k → w.heap.size ≤ k from fun k h => Nat.le_trans HR.out.keep.size (hn k h))
    have HR := hide (HR.out.fresh hk)
    clear hl hnl hx hn hk
    go_wp2_with fail
    refine (of_at w2 w.heap.size b m1 m2 N L M a HR.out.at' HA.out (by omega)).mono ?_
    rintro e w3 ⟨Y, cy, rfl, hy, hk, hn⟩
    rw [HLA.out, HNL.out] at hy
    rw [HLA.out, HNL.out]
    have HXY := hide (show ∀ k, rowB X k → ¬ rowB Y k from fun k h1 h2 => by have := HX.out.lt h1; have := hn k h2; omega)
    have HX := hide (HX.out.fresh hk); have HY := hide hy; have HR := hide (HR.out.fresh hk)
    clear hy hn hk
    go_wp2_with fail
    refine (mons_any w3 w.heap.size b m1 m2 N L M HR.out.at' (by omega) (by omega)).mono ?_
    rintro e w4 ⟨A1, cA, rfl, h1, hk, hn⟩
    obtain ⟨ml, hml⟩ : ∃ ml, M.length = ml := ⟨_, rfl⟩
    rw [hml] at h1 hM ⊢
    have HML := hide hml
    have HA1 := hide h1
    have HAN := hide (show ∀ k, rowB A1 k → w.heap.size ≤ k from fun k h => Nat.le_trans HR.out.keep.size (hn k h))
    have HX := hide (HX.out.fresh hk); have HY := hide (HY.out.fresh hk); have HR := hide (HR.out.fresh hk)
    clear hml h1 hn hk
    go_wp2_with fail
    refine (mons_any w4 w.heap.size b m1 m2 N L M HR.out.at' (by omega) (by have := HML.out; omega)).mono ?_
    rintro e w5 ⟨B1, cB, rfl, h1, hk, hn⟩
    rw [HML.out] at h1
    rw [HML.out]
    have HB1 := hide h1
    have HAB := hide (show ∀ k, rowB A1 k → ¬ rowB B1 k from fun k h1 h2 => by have := HA1.out.lt h1; have := hn k h2; omega)
    have HA1 := hide (HA1.out.fresh hk)
    have HX := hide (HX.out.fresh hk); have HY := hide (HY.out.fresh hk); have HR := hide (HR.out.fresh hk)
    clear h1 hn hk
    go_wp2_with fail
    refine (same_self X Y nl cx cy l w5 _ _ _ _ HX.out.reads HY.out.reads (Roomy.small (by have := HLL.out; omega) (by omega))).mono ?_
    rintro e w6 ⟨rfl, hk⟩
    have HA1 := hide (HA1.out.fresh hk); have HB1 := hide (HB1.out.fresh hk)
    have HX := hide (HX.out.fresh hk); have HY := hide (HY.out.fresh hk); have HR := hide (HR.out.fresh hk)
    clear hk
    go_wp2_with fail
    refine (of_at w6 w.heap.size b m1 m2 N L M a HR.out.at' HA.out (by omega)).mono ?_
    rintro e w7 ⟨Z, cz, rfl, hz, hk, hn⟩
    rw [HLA.out, HNL.out] at hz
    rw [HLA.out, HNL.out]
    have HZL := hide (show (∀ k, rowB X k → ¬ rowB Z k) ∧ (∀ k, rowB Y k → ¬ rowB Z k) ∧ ∀ k, rowB Z k → w.heap.size ≤ k from ⟨fun k h1 h2 => by have := HX.out.lt h1; have := hn k h2; omega, fun k h1 h2 => by have := HY.out.lt h1; have := hn k h2; omega, fun k h => Nat.le_trans HR.out.keep.size (hn k h)⟩)
    have hk := hk.trans' ((Keeps.refl NoB w7).alloc (.cells #[.slice X nl cx, .slice Z nl cz] 25)) (fun _ _ => id) (fun _ _ => id)
    have HA1 := hide (HA1.out.fresh hk); have HB1 := hide (HB1.out.fresh hk)
    have HX := hide (HX.out.fresh hk); have HY := hide (HY.out.fresh hk); have HZ := hide (hz.fresh ((Keeps.refl NoB w7).alloc (.cells #[.slice X nl cx, .slice Z nl cz] 25))); have HR := hide (HR.out.fresh hk)
    clear hz hn hk
    go_wp2_with fail
    refine (apart_ints 2 2 (some ⟨w7.heap.size, 0, none⟩) (twoL X Z nl cx cz) _ (fun _ => True) true (twoL_reads (Blk.new w7 25 _)) (fun k hk => ?_) (fun k j hk hj hkj b h1 h2 => ?_) (by omega) (fun k hk => ?_)).mono ?_
    · rcases (by omega : k = 0 ∨ k = 1) with rfl | rfl
      · exact ⟨_, HX.out⟩
      · exact ⟨_, HZ.out⟩
    · rcases (by omega : k = 0 ∧ j = 1 ∨ k = 1 ∧ j = 0) with ⟨rfl, rfl⟩ | ⟨rfl, rfl⟩
      · exact HZL.out.1 b h1 h2
      · exact HZL.out.1 b h2 h1
    · have := HLL.out
      rcases (by omega : k = 0 ∨ k = 1) with rfl | rfl
      · show nl ≤ 100000; omega
      · show nl ≤ 100000; omega
    rintro e w8 ⟨rfl, hk⟩
    have hfp : ∀ k, fpL (twoL X Z nl cx cz) 2 k → ∃ cs, Blk (w7.alloc (.cells #[.slice X nl cx, .slice Z nl cz] 25)) k 3 cs := fun k h => (fp_two h).elim (row_blk HX.out) (row_blk HZ.out)
    have HP := hide (show ApAt w w8 b m1 m2 N L M l Y nl cy B1 cB A1 cA ml 0 from
      ⟨HR.out.cells hk (fun k h => let ⟨cs, hc⟩ := hfp k h; ⟨3, cs, hc, by decide⟩) (fun k h => (fp_two h).elim (HXN.out k) (HZL.out.2.2 k)),
       HY.out.keep hk (fun k h1 h2 => (fp_two h2).elim (fun h3 => HXY.out k h3 h1) (fun h3 => HZL.out.2.1 k h1 h3)),
       HB1.out.keep hk (fun k h1 h2 => let ⟨cs, hc⟩ := hfp k h2; HB1.out.ne hc (by decide) h1),
       ⟨_, HA1.out.keep hk (fun k h1 h2 => let ⟨cs, hc⟩ := hfp k h2; HA1.out.ne hc (by decide) h1), fun j _ _ => rfl⟩⟩)
    clear hk hfp HR HX HY HZ HA1 HB1 HXY HZL HXN HD
    go_wp2_with fail
    go_loopg [10] ml (fun gg s wx => ∃ i : Nat, i ≤ ml ∧ gg = ml - i ∧ s = .int .i64 i ∧ ApAt w wx b m1 m2 N L M l Y nl cy B1 cB A1 cA ml i)
    case atStart => exact ⟨0, Nat.zero_le _, rfl, rfl, HP.out⟩
    case round =>
      clear HP
      obtain ⟨i, hi, rfl, rfl, hap⟩ := hrel
      have HP := hide hap
      clear hap
      have hi0 : (0 : Int) ≤ i := by omega
      by_cases him : i < ml
      · have hiz : (i : Int) < ml := by omega
        obtain ⟨x, hx⟩ : ∃ x, M[i]? = some x := ⟨_, List.getElem?_eq_getElem (by have := HML.out; omega)⟩
        obtain ⟨g, o, rfl, p, f0, f1⟩ := HP.out.mrow.at' him hx
        obtain ⟨g', o', hB, q⟩ := mon_reads HP.out.row.reads hx
        subst hB
        obtain ⟨xr, xw, xm⟩ := x
        have HC := hide p; have HQ := hide q; have HF := hide (And.intro f0 f1)
        clear hx p q f0 f1
        go_wp2_with fail
        refine order_begin (fun W => Keeps NoB wr W) (fun _ => true) (by kernel_rfl) 9 rfl ?_
        have HS : Keeps NoB wr wr.drew := (Keeps.refl NoB wr).drew
        refine order_pure (i := 0) rfl (by kernel_rfl) (fun _ _ _ h => h) (.inl ⟨rfl, fun _ => by go_simp; rfl⟩) ?_
        try simp only [Act.put, List.setIfInBounds_toArray, List.set_cons_succ, List.set_cons_zero]
        refine order_pure (i := 1) rfl (by kernel_rfl) (fun _ _ _ h => h) (.inl ⟨rfl, fun _ => by go_simp; rfl⟩) ?_
        try simp only [Act.put, List.setIfInBounds_toArray, List.set_cons_succ, List.set_cons_zero]
        refine order_pure (i := 2) rfl (by kernel_rfl) (fun _ _ _ h => h) (.inl ⟨rfl, fun _ => by go_simp; rfl⟩) ?_
        try simp only [Act.put, List.setIfInBounds_toArray, List.set_cons_succ, List.set_cons_zero]
        refine order_pure (i := 4) rfl (by kernel_rfl) (fun _ _ _ h => h) (.inl ⟨rfl, fun _ => by go_simp; rfl⟩) ?_
        try simp only [Act.put, List.setIfInBounds_toArray, List.set_cons_succ, List.set_cons_zero]
        refine order_pure (i := 5) rfl (by kernel_rfl) (fun _ _ _ h => h) (.inl ⟨rfl, fun _ => by go_simp; rfl⟩) ?_
        try simp only [Act.put, List.setIfInBounds_toArray, List.set_cons_succ, List.set_cons_zero]
        refine order_pure (i := 6) rfl (by kernel_rfl) (fun _ _ _ h => h) (.inl ⟨rfl, fun _ => by go_simp; rfl⟩) ?_
        try simp only [Act.put, List.setIfInBounds_toArray, List.set_cons_succ, List.set_cons_zero]
        refine order_held (i := 3) rfl (by kernel_rfl) (fun _ _ _ h => h) (.inl ⟨rfl, fun W hW => by
          have q0 : W.cell? ⟨g, o + i * 3, none⟩ = some (.int .i64 xr) := hW.cell id HC.out.1
          have q1 : W.cell? ⟨g, o + i * 3 + 1, none⟩ = some (.int .i64 xw) := hW.cell id HC.out.2.1
          have q2 : W.cell? ⟨g, o + i * 3 + 2, none⟩ = some (.int .i64 xm) := hW.cell id HC.out.2.2
          go_simp; rfl⟩) HS ?_
        try simp only [Act.put, List.setIfInBounds_toArray, List.set_cons_succ, List.set_cons_zero]
        refine order_held (i := 7) rfl (by kernel_rfl) (fun _ _ _ h => h) (.inl ⟨rfl, fun W hW => by
          have q0 : W.cell? ⟨g', o' + i * 3, none⟩ = some (.int .i64 xr) := hW.cell id HQ.out.1
          have q1 : W.cell? ⟨g', o' + i * 3 + 1, none⟩ = some (.int .i64 xw) := hW.cell id HQ.out.2.1
          have q2 : W.cell? ⟨g', o' + i * 3 + 2, none⟩ = some (.int .i64 xm) := hW.cell id HQ.out.2.2
          go_simp; rfl⟩) HS ?_
        try simp only [Act.put, List.setIfInBounds_toArray, List.set_cons_succ, List.set_cons_zero]
        refine order_pure (i := 8) rfl (by kernel_rfl) (fun _ _ _ h => h) (.inl ⟨rfl, fun W => execN33 _ _ _ _ _ ⟨xr, xw, xm⟩ ⟨xr, xw, xm⟩ rfl rfl rfl W⟩) ?_
        try simp only [Act.put, List.setIfInBounds_toArray, List.set_cons_succ, List.set_cons_zero]
        refine order_done (by kernel_rfl) ?_
        rw [eqMb_self]
        have HP2 := hide (HP.out.fresh HS)
        have HC2 := hide (And.intro (HS.cell id HC.out.1) (HS.cell id HC.out.2.1))
        have HF2 := hide (show wr.drew.frozen? ⟨g, o + i * 3, none⟩ = false ∧ wr.drew.frozen? ⟨g, o + i * 3 + 1, none⟩ = false from ⟨by simpa using HF.out.1, by simpa using HF.out.2⟩)
        clear HP HS HC HQ HF
        generalize wr.drew = wd at *
        go_wp2_with fail
        refine order_begin (fun W => Keeps NoB wd W) (fun j => !(j == 18 || j == 21)) (by kernel_rfl) 22 rfl ?_
        have HS : Keeps NoB wd wd.drew := (Keeps.refl NoB wd).drew
        refine order_pure (i := 0) rfl (by kernel_rfl) (fun _ _ _ h => h) (.inl ⟨rfl, fun _ => by go_simp; rfl⟩) ?_
        try simp only [Act.put, List.setIfInBounds_toArray, List.set_cons_succ, List.set_cons_zero]
        refine order_pure (i := 1) rfl (by kernel_rfl) (fun _ _ _ h => h) (.inl ⟨rfl, fun _ => by go_simp; rfl⟩) ?_
        try simp only [Act.put, List.setIfInBounds_toArray, List.set_cons_succ, List.set_cons_zero]
        refine order_pure (i := 2) rfl (by kernel_rfl) (fun _ _ _ h => h) (.inl ⟨rfl, fun _ => by go_simp; rfl⟩) ?_
        try simp only [Act.put, List.setIfInBounds_toArray, List.set_cons_succ, List.set_cons_zero]
        refine order_pure (i := 3) rfl (by kernel_rfl) (fun _ _ _ h => h) (.inl ⟨rfl, fun _ => by go_simp; rfl⟩) ?_
        try simp only [Act.put, List.setIfInBounds_toArray, List.set_cons_succ, List.set_cons_zero]
        refine order_pure (i := 4) rfl (by kernel_rfl) (fun _ _ _ h => h) (.inl ⟨rfl, fun _ => by go_simp; rfl⟩) ?_
        try simp only [Act.put, List.setIfInBounds_toArray, List.set_cons_succ, List.set_cons_zero]
        refine order_pure (i := 5) rfl (by kernel_rfl) (fun _ _ _ h => h) (.inl ⟨rfl, fun _ => by go_simp; rfl⟩) ?_
        try simp only [Act.put, List.setIfInBounds_toArray, List.set_cons_succ, List.set_cons_zero]
        refine order_pure (i := 6) rfl (by kernel_rfl) (fun _ _ _ h => h) (.inl ⟨rfl, fun _ => by go_simp; rfl⟩) ?_
        try simp only [Act.put, List.setIfInBounds_toArray, List.set_cons_succ, List.set_cons_zero]
        refine order_pure (i := 7) rfl (by kernel_rfl) (fun _ _ _ h => h) (.inl ⟨rfl, fun _ => by go_simp; rfl⟩) ?_
        try simp only [Act.put, List.setIfInBounds_toArray, List.set_cons_succ, List.set_cons_zero]
        refine order_held (i := 8) rfl (by kernel_rfl) (fun _ _ _ h => h) (.inl ⟨rfl, fun W hW => by
          have q0 : W.cell? ⟨g, o + i * 3, none⟩ = some (.int .i64 xr) := hW.cell id HC2.out.1
          go_simp; rfl⟩) HS ?_
        try simp only [Act.put, List.setIfInBounds_toArray, List.set_cons_succ, List.set_cons_zero]
        refine order_pure (i := 9) rfl (by kernel_rfl) (fun _ _ _ h => h) (.inl ⟨rfl, fun _ => by go_simp; rfl⟩) ?_
        try simp only [Act.put, List.setIfInBounds_toArray, List.set_cons_succ, List.set_cons_zero]
        refine order_pure (i := 10) rfl (by kernel_rfl) (fun _ _ _ h => h) (.inl ⟨rfl, fun _ => by go_simp; rfl⟩) ?_
        try simp only [Act.put, List.setIfInBounds_toArray, List.set_cons_succ, List.set_cons_zero]
        refine order_pure (i := 11) rfl (by kernel_rfl) (fun _ _ _ h => h) (.inl ⟨rfl, fun _ => by go_simp; rfl⟩) ?_
        try simp only [Act.put, List.setIfInBounds_toArray, List.set_cons_succ, List.set_cons_zero]
        refine order_pure (i := 12) rfl (by kernel_rfl) (fun _ _ _ h => h) (.inl ⟨rfl, fun _ => by go_simp; rfl⟩) ?_
        try simp only [Act.put, List.setIfInBounds_toArray, List.set_cons_succ, List.set_cons_zero]
        refine order_pure (i := 13) rfl (by kernel_rfl) (fun _ _ _ h => h) (.inl ⟨rfl, fun _ => by go_simp; rfl⟩) ?_
        try simp only [Act.put, List.setIfInBounds_toArray, List.set_cons_succ, List.set_cons_zero]
        refine order_held (i := 14) rfl (by kernel_rfl) (fun _ _ _ h => h) (.inl ⟨rfl, fun W hW => by
          have q0 : W.cell? ⟨g, o + i * 3 + 1, none⟩ = some (.int .i64 xw) := hW.cell id HC2.out.2
          go_simp; rfl⟩) HS ?_
        try simp only [Act.put, List.setIfInBounds_toArray, List.set_cons_succ, List.set_cons_zero]
        refine order_pure (i := 15) rfl (by kernel_rfl) (fun _ _ _ h => h) (.inl ⟨rfl, fun _ => by go_simp; rfl⟩) ?_
        try simp only [Act.put, List.setIfInBounds_toArray, List.set_cons_succ, List.set_cons_zero]
        refine order_pure (i := 16) rfl (by kernel_rfl) (fun _ _ _ h => h) (.inl ⟨rfl, fun _ => by go_simp; rfl⟩) ?_
        try simp only [Act.put, List.setIfInBounds_toArray, List.set_cons_succ, List.set_cons_zero]
        refine order_pure (i := 17) rfl (by kernel_rfl) (fun _ _ _ h => h) (.inl ⟨rfl, fun _ => by go_simp; rfl⟩) ?_
        try simp only [Act.put, List.setIfInBounds_toArray, List.set_cons_succ, List.set_cons_zero]
        have d0 : wd.cell? ⟨g, o + i * 3, none⟩ = some (.int .i64 xr) := HC2.out.1
        have d1 : wd.cell? ⟨g, o + i * 3 + 1, none⟩ = some (.int .i64 xw) := HC2.out.2
        have g0 : wd.frozen? ⟨g, o + i * 3, none⟩ = false := HF2.out.1
        have g1 : wd.frozen? ⟨g, o + i * 3 + 1, none⟩ = false := HF2.out.2
        refine order_one (i := 18) rfl (by kernel_rfl) (fun K hK => ?_)
        go_simp
        refine hK _ _ (fun h => by cases h) ?_
        clear hK HS
        try simp only [Act.put, List.setIfInBounds_toArray, List.set_cons_succ, List.set_cons_zero]
        refine order_pure (i := 19) rfl (by kernel_rfl) (fun _ _ _ h => h) (.inl ⟨rfl, fun _ => by go_simp; rfl⟩) ?_
        try simp only [Act.put, List.setIfInBounds_toArray, List.set_cons_succ, List.set_cons_zero]
        refine order_pure (i := 20) rfl (by kernel_rfl) (fun _ _ _ h => h) (.inl ⟨rfl, fun _ => by go_simp; rfl⟩) ?_
        try simp only [Act.put, List.setIfInBounds_toArray, List.set_cons_succ, List.set_cons_zero]
        refine order_one (i := 21) rfl (by kernel_rfl) (fun K hK => ?_)
        go_simp
        refine hK _ _ (fun h => absurd h (by decide)) ?_
        clear hK
        try simp only [Act.put, List.setIfInBounds_toArray, List.set_cons_succ, List.set_cons_zero]
        refine order_done (by kernel_rfl) ?_
        clear d0 d1 g0 g1
        go_wp2_with fail
        go_roundg (ml - (i + 1))
        case measure => omega
        case rel => exact ⟨i + 1, by omega, rfl, by go_num, (HP2.out.two him HAB.out HAN.out _ _).fresh ((Keeps.refl NoB _).drew)⟩
      · obtain rfl : i = ml := by omega
        have hiz : ¬ (i : Int) < i := by omega
        go_wp2_with fail
        refine (of_at wr w.heap.size b m1 m2 N L M a HP.out.run.at' HA.out (by omega)).mono ?_
        rintro e w9 ⟨Z2, cz2, rfl, hz, hk, _⟩
        rw [HLA.out, HNL.out] at hz
        rw [HLA.out, HNL.out]
        have HP2 := hide (HP.out.fresh hk); have HZ := hide hz
        clear hz hk HP
        go_wp2_with fail
        refine (mons_any w9 w.heap.size b m1 m2 N L M HP2.out.run.at' (by omega) (by have := HML.out; omega)).mono ?_
        rintro e w10 ⟨C1, cC, rfl, h1, hk, _⟩
        rw [HML.out] at h1
        rw [HML.out]
        have HP := hide (HP2.out.fresh hk); have HZ := hide (HZ.out.fresh hk); have HC1 := hide h1
        clear h1 hk HP2
        go_wp2_with fail
        refine (same_self Y Z2 nl cy cz2 l w10 _ _ _ _ HP.out.y.reads HZ.out.reads (Roomy.small (by have := HLL.out; omega) (by omega))).mono ?_
        rintro e w11 ⟨rfl, hk⟩
        have HP2 := hide (HP.out.fresh hk); have HC1 := hide (HC1.out.fresh hk)
        clear hk HP HZ
        go_wp2_with fail
        go_loopg [13] i (fun gg s wx => ∃ k : Nat, k ≤ i ∧ gg = i - k ∧ s = .int .i64 k ∧ Keeps NoB w11 wx)
        case atStart => exact ⟨0, Nat.zero_le _, rfl, rfl, Keeps.refl _ _⟩
        case round =>
          obtain ⟨k, hk, rfl, rfl, hkp⟩ := hrel
          have HK := hide hkp
          clear hkp
          have hk0 : (0 : Int) ≤ k := by omega
          by_cases hki : k < i
          · have hkz : (k : Int) < i := by omega
            obtain ⟨x, hx⟩ : ∃ x, M[k]? = some x := ⟨_, List.getElem?_eq_getElem (by have := HML.out; omega)⟩
            obtain ⟨g, o, hA1, p⟩ := mon_reads (HP2.out.row.reads.keep HK.out (fun _ _ => id)) hx
            obtain ⟨g', o', hB, q⟩ := mon_reads (HC1.out.reads.keep HK.out (fun _ _ => id)) hx
            subst hA1 hB
            obtain ⟨xr, xw, xm⟩ := x
            have HC := hide p; have HQ := hide q
            clear hx p q
            go_wp2_with fail
            refine order_begin (fun W => Keeps NoB wr W) (fun _ => true) (by kernel_rfl) 9 rfl ?_
            have HS : Keeps NoB wr wr.drew := (Keeps.refl NoB wr).drew
            refine order_pure (i := 0) rfl (by kernel_rfl) (fun _ _ _ h => h) (.inl ⟨rfl, fun _ => by go_simp; rfl⟩) ?_
            try simp only [Act.put, List.setIfInBounds_toArray, List.set_cons_succ, List.set_cons_zero]
            refine order_pure (i := 1) rfl (by kernel_rfl) (fun _ _ _ h => h) (.inl ⟨rfl, fun _ => by go_simp; rfl⟩) ?_
            try simp only [Act.put, List.setIfInBounds_toArray, List.set_cons_succ, List.set_cons_zero]
            refine order_pure (i := 2) rfl (by kernel_rfl) (fun _ _ _ h => h) (.inl ⟨rfl, fun _ => by go_simp; rfl⟩) ?_
            try simp only [Act.put, List.setIfInBounds_toArray, List.set_cons_succ, List.set_cons_zero]
            refine order_pure (i := 4) rfl (by kernel_rfl) (fun _ _ _ h => h) (.inl ⟨rfl, fun _ => by go_simp; rfl⟩) ?_
            try simp only [Act.put, List.setIfInBounds_toArray, List.set_cons_succ, List.set_cons_zero]
            refine order_pure (i := 5) rfl (by kernel_rfl) (fun _ _ _ h => h) (.inl ⟨rfl, fun _ => by go_simp; rfl⟩) ?_
            try simp only [Act.put, List.setIfInBounds_toArray, List.set_cons_succ, List.set_cons_zero]
            refine order_pure (i := 6) rfl (by kernel_rfl) (fun _ _ _ h => h) (.inl ⟨rfl, fun _ => by go_simp; rfl⟩) ?_
            try simp only [Act.put, List.setIfInBounds_toArray, List.set_cons_succ, List.set_cons_zero]
            refine order_held (i := 3) rfl (by kernel_rfl) (fun _ _ _ h => h) (.inl ⟨rfl, fun W hW => by
              have q0 : W.cell? ⟨g, o + k * 3, none⟩ = some (.int .i64 xr) := hW.cell id HC.out.1
              have q1 : W.cell? ⟨g, o + k * 3 + 1, none⟩ = some (.int .i64 xw) := hW.cell id HC.out.2.1
              have q2 : W.cell? ⟨g, o + k * 3 + 2, none⟩ = some (.int .i64 xm) := hW.cell id HC.out.2.2
              go_simp; rfl⟩) HS ?_
            try simp only [Act.put, List.setIfInBounds_toArray, List.set_cons_succ, List.set_cons_zero]
            refine order_held (i := 7) rfl (by kernel_rfl) (fun _ _ _ h => h) (.inl ⟨rfl, fun W hW => by
              have q0 : W.cell? ⟨g', o' + k * 3, none⟩ = some (.int .i64 xr) := hW.cell id HQ.out.1
              have q1 : W.cell? ⟨g', o' + k * 3 + 1, none⟩ = some (.int .i64 xw) := hW.cell id HQ.out.2.1
              have q2 : W.cell? ⟨g', o' + k * 3 + 2, none⟩ = some (.int .i64 xm) := hW.cell id HQ.out.2.2
              go_simp; rfl⟩) HS ?_
            try simp only [Act.put, List.setIfInBounds_toArray, List.set_cons_succ, List.set_cons_zero]
            refine order_pure (i := 8) rfl (by kernel_rfl) (fun _ _ _ h => h) (.inl ⟨rfl, fun W => execN33 _ _ _ _ _ ⟨xr, xw, xm⟩ ⟨xr, xw, xm⟩ rfl rfl rfl W⟩) ?_
            try simp only [Act.put, List.setIfInBounds_toArray, List.set_cons_succ, List.set_cons_zero]
            refine order_done (by kernel_rfl) ?_
            rw [eqMb_self]
            have HK2 := hide (HK.out.trans' HS (fun _ _ => id) (fun _ _ => id))
            clear HK HS HC HQ
            generalize wr.drew = wd at *
            go_wp2_with fail
            go_roundg (i - (k + 1))
            case measure => omega
            case rel => exact ⟨k + 1, by omega, rfl, by go_num, HK2.out⟩
          · obtain rfl : k = i := by omega
            have hkz : ¬ (k : Int) < k := by omega
            go_wp2_with
              first
              | (go_at_call 9
                 refine (awake_any _).mono ?_
                 rintro e w12 ⟨rfl, hk⟩
                 have HK12 := hide ((HP2.out.run.keep.trans' HK.out (fun _ _ => id) (fun _ _ => id)).trans' hk (fun _ _ => id) (fun _ _ => id))
                 clear hk)
              | fail
            go_ret
            exact ⟨rfl, HK12.out⟩
end Go.Proofs.YtjmljjmnamfljaaGreat
