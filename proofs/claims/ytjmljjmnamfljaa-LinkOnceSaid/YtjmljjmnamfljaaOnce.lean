/- pigeonholelaw14: LinkOnce. -/
import Derived.Test.YtjmljjmnamfljaaOnceLaw
namespace Go.Proofs.Ytjmljjmnamfljaa
open Go.RowKit Go.Maps

structure OnceInv (w wx : World) (b m1 m2 N : Nat) (L : LK) (M V : List Mon) (X : Option Addr) (nl cX : Nat) : Prop where
  run : Run w wx b m1 m2 N L M
  row : Slab wx 36 3 X nl cX (mons V)
  perm : V.Perm M
  new : ∀ k, rowB X k → w.heap.size ≤ k
theorem OnceInv.fresh {w wx wy : World} {b m1 m2 N : Nat} {L : LK} {M V : List Mon} {X : Option Addr} {nl cX : Nat} (h : OnceInv w wx b m1 m2 N L M V X nl cX) (k : Keeps NoB wx wy) : OnceInv w wy b m1 m2 N L M V X nl cX := ⟨h.run.fresh k, h.row.fresh k, h.perm, h.new⟩
theorem OnceInv.len {w wx : World} {b m1 m2 N : Nat} {L : LK} {M V : List Mon} {X : Option Addr} {nl cX : Nat} (h : OnceInv w wx b m1 m2 N L M V X nl cX) : V.length = nl := by have := h.row.1; rw [mons_len] at this; omega
def OnceAt (w wx : World) (b m1 m2 i : Nat) (X : Option Addr) (nl cX : Nat) : Prop := ∃ N L M V, OnceInv w wx b m1 m2 N L M V X nl cX ∧ N ≤ 4 * i ∧ M.length ≤ i
theorem mon_reads' {w : World} {B : Nat → Prop} {F : Bool} {g o n i : Nat} {M : List Mon} {r wh wm : Int} (h : Reads w B F 3 (some ⟨g, o, none⟩) n (mons M)) (hx : M[i]? = some ⟨r, wh, wm⟩) : w.cell? ⟨g, o + i * 3, none⟩ = some (.int .i64 r) ∧ w.cell? ⟨g, o + i * 3 + 1, none⟩ = some (.int .i64 wh) ∧ w.cell? ⟨g, o + i * 3 + 2, none⟩ = some (.int .i64 wm) := by
  obtain ⟨g', o', e, h2⟩ := mon_reads h hx
  injection e with e; injection e with e1 e2; subst e1 e2; exact h2
set_option maxRecDepth 100000 in
set_option maxHeartbeats 8000000 in
theorem link_once (A : Option Addr) (n c : Nat) (hnc : n ≤ c) (E : List Dx) (w : World) (h : DosAt w A n E) : Calls Try.prog 7 #[.slice A n c] w fun e w' => e = .returned (.bool true) ∧ Keeps NoB w w' := by
  obtain ⟨i0, ni0, nz0, nz1, nz2⟩ := info_parts Try.info36
  have H := hide h; clear h
  go_enter Try.func7, Try.ntmps7
  go_upto_if 23 with
    first
    | (go_at_call 8
       refine (awake_any _).mono ?_
       rintro e w2 ⟨rfl, hk⟩
       have HK1 := hide hk
       clear hk)
    | fail
  go_cut [0] (fun s0 wx => w2 = wx ∧ ∃ m : Nat, m ≤ 80 ∧ m ≤ n ∧ s0 = .slice A m c)
  case first =>
    by_cases h80 : n ≤ 80
    · have hz : (n : Int) ≤ 80 := by omega
      go_wp2_with fail
      go_meet
      exact ⟨rfl, n, h80, Nat.le_refl _, rfl⟩
    · have hz : (80 : Int) < n := by omega
      have hzc : (80 : Int) ≤ c := by omega
      go_wp2_with fail
      go_meet
      exact ⟨rfl, 80, Nat.le_refl _, by omega, rfl⟩
  case rest =>
    obtain ⟨rfl, m, hm80, hmn, rfl⟩ := hcut
    have HD := hide ((H.out.pre hmn).keep HK1.out)
    generalize hE : E.take m = D at *
    clear hE H
    go_wp2_with
      first
      | (go_at_call 9
         refine (new_any _).mono ?_
         rintro e w3 ⟨rfl, h1, hk⟩)
      | fail
    have HR := hide (show OnceAt w2 w3 (w2.heap.size + 2) w2.heap.size (w2.heap.size + 1) 0 none 0 0 from ⟨0, _, [], [], ⟨⟨h1, hk⟩, Slab.nil _ _ _, List.Perm.refl _, fun k ⟨o, e⟩ => by cases e⟩, by omega, by simp⟩)
    clear h1 hk
    generalize w2.heap.size + 2 = b at *
    generalize w2.heap.size + 1 = m2 at *
    obtain ⟨m1, hm1⟩ : ∃ m1, w2.heap.size = m1 := ⟨_, rfl⟩
    rw [hm1] at HR
    clear hm1
    go_loopg [4, 5] m (fun g s4 s5 wx => ∃ (i : Nat) (X : Option Addr) (nl cX : Nat), i ≤ m ∧ g = m - i ∧ s5 = .int .i64 i ∧ s4 = .slice X nl cX ∧ OnceAt w2 wx b m1 m2 i X nl cX)
    case atStart => exact ⟨0, none, 0, 0, Nat.zero_le _, rfl, rfl, rfl, HR.out⟩
    case round =>
      clear HR
      obtain ⟨i, X, nl, cX, him, rfl, rfl, rfl, N, L, M, V, hinv, hNi, hMi⟩ := hrel
      have HI := hide hinv
      clear hinv
      have hi0 : (0 : Int) ≤ (i : Int) := by omega
      by_cases hi : i < m
      · obtain ⟨x, hx⟩ : ∃ x, D[i]? = some x := ⟨_, List.getElem?_eq_getElem (by rw [HD.out.1]; exact hi)⟩
        obtain ⟨hok, ab, ao, rfl, d0, d1, d2, d3⟩ := (HD.out.keep HI.out.run.keep).2 i x hx
        obtain ⟨op, xa, xb, xr⟩ := x
        simp only at d0 d1 d2 d3 hok
        have hi1 : (i : Int) < (m : Int) := by omega
        have HOK := hide hok
        clear hx hok
        go_wp2_with fail
        clear d0 d1 d2 d3
        have HI4 := hide (HI.out.fresh ((Keeps.refl NoB wr).alloc (.cells #[.int .i64 op, .int .i64 xa, .int .i64 xb, .int .i64 xr] 27)))
        have HX4 := hide (Blk.new wr 27 #[.int .i64 op, .int .i64 xa, .int .i64 xb, .int .i64 xr])
        clear HI
        generalize wr.alloc (.cells #[.int .i64 op, .int .i64 xa, .int .i64 xb, .int .i64 xr] 27) = w4 at *
        generalize wr.heap.size = xk at *
        clear wr
        refine order_begin (fun W => Blk W xk 27 #[.int .i64 op, .int .i64 xa, .int .i64 xb, .int .i64 xr]) (fun _ => true) (by kernel_rfl) 8 rfl ?_
        have HI5 := hide (HI4.out.fresh (Keeps.refl NoB w4).drew)
        have HS := HX4.out.keep (Keeps.refl NoB w4).drew id
        clear HI4 HX4
        generalize w4.drew = w5 at *
        clear w4
        refine order_pure (i := 0) rfl (by kernel_rfl) (fun _ _ _ h => h) (.inl ⟨rfl, fun _ => by go_simp; rfl⟩) ?_
        try simp only [Act.put, List.setIfInBounds_toArray, List.set_cons_succ, List.set_cons_zero]
        refine order_pure (i := 3) rfl (by kernel_rfl) (fun _ _ _ h => h) (.inl ⟨rfl, fun _ => by go_simp; rfl⟩) ?_
        try simp only [Act.put, List.setIfInBounds_toArray, List.set_cons_succ, List.set_cons_zero]
        refine order_held (i := 1) rfl (by kernel_rfl) (fun _ _ _ h => h) (.inl ⟨rfl, fun W hW => by
          have q0 : W.cell? ⟨xk, 1, none⟩ = some (.int .i64 xa) := hW.cell 1
          go_simp; rfl⟩) HS ?_
        try simp only [Act.put, List.setIfInBounds_toArray, List.set_cons_succ, List.set_cons_zero]
        refine order_held (i := 4) rfl (by kernel_rfl) (fun _ _ _ h => h) (.inl ⟨rfl, fun W hW => by
          have q0 : W.cell? ⟨xk, 2, none⟩ = some (.int .i64 xb) := hW.cell 2
          go_simp; rfl⟩) HS ?_
        try simp only [Act.put, List.setIfInBounds_toArray, List.set_cons_succ, List.set_cons_zero]
        refine order_one (i := 2) rfl (by kernel_rfl) (fun K hK => ?_)
        go_simp
        refine (pick_any xa 6 (by omega) (by omega) _).mono ?_
        rintro e w' ⟨rfl, rfl⟩
        refine hK _ _ (fun _ _ => HS) ?_
        clear hK
        try simp only [Act.put, List.setIfInBounds_toArray, List.set_cons_succ, List.set_cons_zero]
        refine order_one (i := 5) rfl (by kernel_rfl) (fun K hK => ?_)
        go_simp
        refine (pick_any xb 6 (by omega) (by omega) _).mono ?_
        rintro e w' ⟨rfl, rfl⟩
        refine hK _ _ (fun _ _ => HS) ?_
        clear hK
        try simp only [Act.put, List.setIfInBounds_toArray, List.set_cons_succ, List.set_cons_zero]
        refine order_pure (i := 6) rfl (by kernel_rfl) (fun _ _ _ h => h) (.inl ⟨rfl, fun _ => by go_simp; rfl⟩) ?_
        try simp only [Act.put, List.setIfInBounds_toArray, List.set_cons_succ, List.set_cons_zero]
        refine order_pure (i := 7) rfl (by kernel_rfl) (fun _ _ _ h => h) (.inl ⟨rfl, fun _ => by go_simp; rfl⟩) ?_
        try simp only [Act.put, List.setIfInBounds_toArray, List.set_cons_succ, List.set_cons_zero]
        refine order_done (by kernel_rfl) ?_
        have ha0 : 0 ≤ xa % 6 := Int.emod_nonneg _ (by omega)
        have ha1 : xa % 6 < 6 := Int.emod_lt_of_pos _ (by omega)
        have hb0 : 0 ≤ xb % 6 := Int.emod_nonneg _ (by omega)
        have hb1 : xb % 6 < 6 := Int.emod_lt_of_pos _ (by omega)
        have HX := hide HS
        clear HS
        generalize xa % 6 = pa at *
        generalize xb % 6 = pb at *
        have HPA := hide (ok_mid (p := pa) (by omega)); have HPB := hide (ok_mid (p := pb) (by omega))
        have x0 : w5.cell? ⟨xk, 0, none⟩ = some (.int .i64 op) := HX.out.cell 0
        have x3 : w5.cell? ⟨xk, 3, none⟩ = some (.int .i64 xr) := HX.out.cell 3
        have hMl := HI5.out.perm.length_eq
        have hVl := HI5.out.len
        have hnl : nl ≤ 80 := by omega
        clear hMl
        go_upto_block 2 with
          first
          | (go_at_call 10
             refine (pick_any op 4 (by omega) (by omega) _).mono ?_
             rintro e w' ⟨rfl, rfl⟩)
          | fail
        clear x0
        go_cut [4] (fun s4 wx => ∃ (X : Option Addr) (nl cX : Nat), s4 = .slice X nl cX ∧ OnceAt w2 wx b m1 m2 (i + 1) X nl cX)
        case first =>
          have hr0 : 0 ≤ op % 4 := Int.emod_nonneg _ (by omega)
          have hr5 : op % 4 < 4 := Int.emod_lt_of_pos _ (by omega)
          generalize op % 4 = r4 at *
          rcases (by omega : r4 = 0 ∨ r4 = 1 ∨ 1 < r4) with rfl | rfl | hr2
          · as_aux_lemma =>
            clear x3
            obtain ⟨T, hT⟩ : ∃ T, toldM pa M = T := ⟨_, rfl⟩
            obtain ⟨t, ht⟩ : ∃ t, T.length = t := ⟨_, rfl⟩
            have HT := hide hT; have HTL := hide ht
            have ht6 : t ≤ 80 := by have := toldM_len pa M; rw [hT, ht] at this; omega
            clear hT ht
            go_wp2_with
              first
              | (go_at_call 11
                 refine (end_any w5 w2.heap.size b m1 m2 N L M pa HI5.out.run.at' HPA.out (by omega) (by omega)).mono ?_
                 rintro e w6 ⟨A1, c1, A2, c2, rfl, _, h2, h3, h4, _, _⟩
                 rw [HT.out, HTL.out] at h2
                 rw [HT.out, HTL.out]
                 have HR6 := hide (HI5.out.run.turn h4 h3)
                 have HX6 := hide (HI5.out.row.keep h4 (FP.slab HI5.out.row))
                 have HT6 := hide h2
                 clear h2 h3 h4)
              | fail
            go_loopg [11, 12, 13] nl (fun g s11 s12 s13 wx => ∃ (k : Nat) (Z : Option Addr) (cZ : Nat), k ≤ nl ∧ g = nl - k ∧ s13 = .int .i64 k ∧ s11 = .int .i64 ((toldM pa (V.take k)).length : Nat) ∧ s12 = .slice Z (endM pa (V.take k)).length cZ ∧ Slab wx 36 3 Z (endM pa (V.take k)).length cZ (mons (endM pa (V.take k))) ∧ Keeps NoB w6 wx ∧ ∀ k, rowB Z k → w6.heap.size ≤ k)
            case atStart => exact ⟨0, none, 0, Nat.zero_le _, rfl, rfl, rfl, rfl, Slab.nil _ _ _, Keeps.refl _ _, fun k ⟨o, e⟩ => by cases e⟩
            case round =>
              obtain ⟨k, Z, cZ, hk, rfl, rfl, rfl, rfl, hz, hkp, hnw⟩ := hrel
              have HZ := hide hz; have HKP := hide hkp; have HNW := hide hnw
              clear hz hkp hnw
              have hk0 : (0 : Int) ≤ k := by omega
              by_cases hkn : k < nl
              · have hkz : (k : Int) < nl := by omega
                obtain ⟨x, hx⟩ : ∃ x, V[k]? = some x := ⟨_, List.getElem?_eq_getElem (by omega)⟩
                obtain ⟨g, o, rfl, p0, p1, p2⟩ := mon_reads (HX6.out.fresh HKP.out).reads hx
                have HTT := hide (told_take (a := pa) hx); have HET := hide (endM_take (a := pa) hx)
                have htl := told_len (a := pa) (M := V) k
                have hel : (endM pa (V.take k)).length ≤ k := filter_take_len _ _
                obtain ⟨L0, hL0⟩ : ∃ L0, endM pa (V.take k) = L0 := ⟨_, rfl⟩
                obtain ⟨tl, htl'⟩ : ∃ tl, (toldM pa (V.take k)).length = tl := ⟨_, rfl⟩
                rw [hL0] at HZ HET hel ⊢
                rw [htl'] at htl ⊢
                have HTLN := hide htl'
                have HXV := hide hx
                obtain ⟨r, wh, wm⟩ := x
                simp only at p0 p1 p2
                clear hx hL0 htl'
                by_cases hwm : wm = pa
                · have hq1 : (wm == pa) = true := by simpa using hwm
                  have HIN := hide (show T.any (fun z => eqMb z ⟨r, wh, wm⟩) = true from by
                    rw [List.any_eq_true]
                    refine ⟨⟨r, wh, wm⟩, ?_, eqMb_self _⟩
                    rw [← HT.out]
                    exact List.mem_filter.2 ⟨HI5.out.perm.mem_iff.1 (List.mem_of_getElem? HXV.out), by simp [hwm]⟩)
                  have HT2 := hide (show (toldM pa (V.take (k + 1))).length = tl + 1 from by rw [HTT.out, if_pos hwm, List.length_append, HTLN.out]; rfl)
                  have HE2 := hide (show endM pa (V.take (k + 1)) = L0 from by rw [HET.out, if_neg (by unfold keepM; simp [hwm]), List.append_nil])
                  clear hwm HTT HET
                  go_wp2_with fail
                  clear p0 p1 p2
                  generalize hwo : wr = wo at *
                  clear hwo
                  go_loopg [14, 15] t (fun g s14 s15 wx => ∃ j : Nat, j ≤ t ∧ g = t - j ∧ s15 = .int .i64 j ∧ s14 = .bool ((T.take j).any fun z => eqMb z ⟨r, wh, wm⟩) ∧ Keeps NoB wo wx)
                  case atStart => exact ⟨0, Nat.zero_le _, rfl, rfl, rfl, Keeps.refl _ _⟩
                  case round =>
                    obtain ⟨j, hj, rfl, rfl, rfl, hjk⟩ := hrel
                    have HJK := hide hjk
                    clear hjk
                    have hj0 : (0 : Int) ≤ j := by omega
                    by_cases hjt : j < t
                    · have hjz : (j : Int) < t := by omega
                      obtain ⟨y, hy⟩ : ∃ y, T[j]? = some y := ⟨_, List.getElem?_eq_getElem (by have := HTL.out; omega)⟩
                      obtain ⟨g2, o2, hA2, _⟩ := mon_reads HT6.out.reads hy
                      subst hA2
                      have HAT := hide (anyM_take (x := ⟨r, wh, wm⟩) hy)
                      have HYT := hide hy
                      obtain ⟨r', wh', wm'⟩ := y
                      clear hy
                      cases hf : (T.take j).any fun z => eqMb z ⟨r, wh, wm⟩ with
                      | true =>
                        have HF := hide (show ((T.take (j + 1)).any fun z => eqMb z ⟨r, wh, wm⟩) = true from by rw [HAT.out, hf]; rfl)
                        clear hf HAT
                        go_wp2_with fail
                        refine order_begin (fun W => True) (fun _ => true) (by kernel_rfl) 13 rfl ?_
                        have HS : True := trivial
                        refine order_pure (i := 0) rfl (by kernel_rfl) (fun _ _ _ h => h) (.inl ⟨rfl, fun _ => by go_simp; rfl⟩) ?_
                        try simp only [Act.put, List.setIfInBounds_toArray, List.set_cons_succ, List.set_cons_zero]
                        refine order_pure (i := 1) rfl (by kernel_rfl) (fun _ _ _ h => h) (.inl ⟨rfl, fun _ => by go_simp; rfl⟩) ?_
                        try simp only [Act.put, List.setIfInBounds_toArray, List.set_cons_succ, List.set_cons_zero]
                        refine order_skip (i := 2) rfl (by kernel_rfl) (fun _ _ _ h => h) (by kernel_rfl) ?_
                        try simp only [Act.put, List.setIfInBounds_toArray, List.set_cons_succ, List.set_cons_zero]
                        refine order_skip (i := 3) rfl (by kernel_rfl) (fun _ _ _ h => h) (by kernel_rfl) ?_
                        try simp only [Act.put, List.setIfInBounds_toArray, List.set_cons_succ, List.set_cons_zero]
                        refine order_skip (i := 4) rfl (by kernel_rfl) (fun _ _ _ h => h) (by kernel_rfl) ?_
                        try simp only [Act.put, List.setIfInBounds_toArray, List.set_cons_succ, List.set_cons_zero]
                        refine order_skip (i := 5) rfl (by kernel_rfl) (fun _ _ _ h => h) (by kernel_rfl) ?_
                        try simp only [Act.put, List.setIfInBounds_toArray, List.set_cons_succ, List.set_cons_zero]
                        refine order_skip (i := 6) rfl (by kernel_rfl) (fun _ _ _ h => h) (by kernel_rfl) ?_
                        try simp only [Act.put, List.setIfInBounds_toArray, List.set_cons_succ, List.set_cons_zero]
                        refine order_skip (i := 7) rfl (by kernel_rfl) (fun _ _ _ h => h) (by kernel_rfl) ?_
                        try simp only [Act.put, List.setIfInBounds_toArray, List.set_cons_succ, List.set_cons_zero]
                        refine order_skip (i := 8) rfl (by kernel_rfl) (fun _ _ _ h => h) (by kernel_rfl) ?_
                        try simp only [Act.put, List.setIfInBounds_toArray, List.set_cons_succ, List.set_cons_zero]
                        refine order_skip (i := 9) rfl (by kernel_rfl) (fun _ _ _ h => h) (by kernel_rfl) ?_
                        try simp only [Act.put, List.setIfInBounds_toArray, List.set_cons_succ, List.set_cons_zero]
                        refine order_skip (i := 10) rfl (by kernel_rfl) (fun _ _ _ h => h) (by kernel_rfl) ?_
                        try simp only [Act.put, List.setIfInBounds_toArray, List.set_cons_succ, List.set_cons_zero]
                        refine order_pure (i := 11) rfl (by kernel_rfl) (fun _ _ _ h => h) (.inl ⟨rfl, fun _ => by go_simp; rfl⟩) ?_
                        try simp only [Act.put, List.setIfInBounds_toArray, List.set_cons_succ, List.set_cons_zero]
                        refine order_pure (i := 12) rfl (by kernel_rfl) (fun _ _ _ h => h) (.inl ⟨rfl, fun _ => by go_simp; rfl⟩) ?_
                        try simp only [Act.put, List.setIfInBounds_toArray, List.set_cons_succ, List.set_cons_zero]
                        refine order_done (by kernel_rfl) ?_
                        have HJ2 := hide HJK.out.drew
                        clear HS
                        go_wp2_with fail
                        go_roundg (t - (j + 1))
                        case measure => omega
                        case rel => exact ⟨j + 1, by omega, rfl, by go_num, by rw [HF.out], HJ2.out⟩
                      | false =>
                        have HF := hide (show ((T.take (j + 1)).any fun z => eqMb z ⟨r, wh, wm⟩) = eqMb ⟨r', wh', wm'⟩ ⟨r, wh, wm⟩ from by rw [HAT.out, hf]; rfl)
                        clear hf HAT
                        go_wp2_with fail
                        refine order_begin (fun W => Slab W 36 3 (some ⟨g2, o2, none⟩) t c2 (mons T) ∧ Slab W 36 3 (some ⟨g, o, none⟩) nl cX (mons V)) (fun _ => true) (by kernel_rfl) 13 rfl ?_
                        have hkj := ((HKP.out.trans' HJK.out (fun _ _ => id) (fun _ _ => id)) : Keeps NoB w6 wr).drew
                        have HS := And.intro (HT6.out.fresh hkj) (HX6.out.fresh hkj)
                        clear hkj
                        refine order_pure (i := 0) rfl (by kernel_rfl) (fun _ _ _ h => h) (.inl ⟨rfl, fun _ => by go_simp; rfl⟩) ?_
                        try simp only [Act.put, List.setIfInBounds_toArray, List.set_cons_succ, List.set_cons_zero]
                        refine order_pure (i := 1) rfl (by kernel_rfl) (fun _ _ _ h => h) (.inl ⟨rfl, fun _ => by go_simp; rfl⟩) ?_
                        try simp only [Act.put, List.setIfInBounds_toArray, List.set_cons_succ, List.set_cons_zero]
                        refine order_pure (i := 2) rfl (by kernel_rfl) (fun _ _ _ h => h) (.inl ⟨rfl, fun _ => by go_simp; rfl⟩) ?_
                        try simp only [Act.put, List.setIfInBounds_toArray, List.set_cons_succ, List.set_cons_zero]
                        refine order_pure (i := 3) rfl (by kernel_rfl) (fun _ _ _ h => h) (.inl ⟨rfl, fun _ => by go_simp; rfl⟩) ?_
                        try simp only [Act.put, List.setIfInBounds_toArray, List.set_cons_succ, List.set_cons_zero]
                        refine order_pure (i := 4) rfl (by kernel_rfl) (fun _ _ _ h => h) (.inl ⟨rfl, fun _ => by go_simp; rfl⟩) ?_
                        try simp only [Act.put, List.setIfInBounds_toArray, List.set_cons_succ, List.set_cons_zero]
                        refine order_held (i := 5) rfl (by kernel_rfl) (fun _ _ _ h => h) (.inl ⟨rfl, fun W hW => by
                          have q0 : W.cell? ⟨g2, o2 + j * 3, none⟩ = some (.int .i64 r') := (mon_reads' hW.1.reads HYT.out).1
                          have q1 : W.cell? ⟨g2, o2 + j * 3 + 1, none⟩ = some (.int .i64 wh') := (mon_reads' hW.1.reads HYT.out).2.1
                          have q2 : W.cell? ⟨g2, o2 + j * 3 + 2, none⟩ = some (.int .i64 wm') := (mon_reads' hW.1.reads HYT.out).2.2
                          go_simp; rfl⟩) HS ?_
                        try simp only [Act.put, List.setIfInBounds_toArray, List.set_cons_succ, List.set_cons_zero]
                        refine order_pure (i := 6) rfl (by kernel_rfl) (fun _ _ _ h => h) (.inl ⟨rfl, fun _ => by go_simp; rfl⟩) ?_
                        try simp only [Act.put, List.setIfInBounds_toArray, List.set_cons_succ, List.set_cons_zero]
                        refine order_pure (i := 7) rfl (by kernel_rfl) (fun _ _ _ h => h) (.inl ⟨rfl, fun _ => by go_simp; rfl⟩) ?_
                        try simp only [Act.put, List.setIfInBounds_toArray, List.set_cons_succ, List.set_cons_zero]
                        refine order_pure (i := 8) rfl (by kernel_rfl) (fun _ _ _ h => h) (.inl ⟨rfl, fun _ => by go_simp; rfl⟩) ?_
                        try simp only [Act.put, List.setIfInBounds_toArray, List.set_cons_succ, List.set_cons_zero]
                        refine order_held (i := 9) rfl (by kernel_rfl) (fun _ _ _ h => h) (.inl ⟨rfl, fun W hW => by
                          have q0 : W.cell? ⟨g, o + k * 3, none⟩ = some (.int .i64 r) := (mon_reads' hW.2.reads HXV.out).1
                          have q1 : W.cell? ⟨g, o + k * 3 + 1, none⟩ = some (.int .i64 wh) := (mon_reads' hW.2.reads HXV.out).2.1
                          have q2 : W.cell? ⟨g, o + k * 3 + 2, none⟩ = some (.int .i64 wm) := (mon_reads' hW.2.reads HXV.out).2.2
                          go_simp; rfl⟩) HS ?_
                        try simp only [Act.put, List.setIfInBounds_toArray, List.set_cons_succ, List.set_cons_zero]
                        refine order_pure (i := 10) rfl (by kernel_rfl) (fun _ _ _ h => h) (.inl ⟨rfl, fun W => exec36 _ _ _ _ _ ⟨r', wh', wm'⟩ ⟨r, wh, wm⟩ rfl rfl rfl W⟩) ?_
                        try simp only [Act.put, List.setIfInBounds_toArray, List.set_cons_succ, List.set_cons_zero]
                        refine order_pure (i := 11) rfl (by kernel_rfl) (fun _ _ _ h => h) (.inl ⟨rfl, fun _ => by go_simp; rfl⟩) ?_
                        try simp only [Act.put, List.setIfInBounds_toArray, List.set_cons_succ, List.set_cons_zero]
                        refine order_pure (i := 12) rfl (by kernel_rfl) (fun _ _ _ h => h) (.inl ⟨rfl, fun _ => by go_simp; rfl⟩) ?_
                        try simp only [Act.put, List.setIfInBounds_toArray, List.set_cons_succ, List.set_cons_zero]
                        refine order_done (by kernel_rfl) ?_
                        have HJ2 := hide HJK.out.drew
                        clear HS
                        go_wp2_with fail
                        go_roundg (t - (j + 1))
                        case measure => omega
                        case rel => exact ⟨j + 1, by omega, rfl, by go_num, by rw [HF.out], HJ2.out⟩
                    · obtain rfl : j = t := by omega
                      have hjz : ¬ (j : Int) < j := by omega
                      rw [show (T.take j).any (fun z => eqMb z ⟨r, wh, wm⟩) = true from by rw [List.take_of_length_le (by have := HTL.out; omega)]; exact HIN.out]
                      have HZ2 := hide (HZ.out.fresh HJK.out)
                      have HKP2 := hide (HKP.out.trans' HJK.out (fun _ _ => id) (fun _ _ => id))
                      go_wp2_with fail
                      go_roundg (nl - (k + 1))
                      case measure => omega
                      case rel => exact ⟨k + 1, Z, cZ, by omega, rfl, by go_num, by rw [HT2.out]; go_num, by rw [HE2.out], by rw [HE2.out]; exact HZ2.out, HKP2.out, HNW.out⟩
                · have hq1 : (wm == pa) = false := by simpa using hwm
                  have HT2 := hide (show (toldM pa (V.take (k + 1))).length = tl from by rw [HTT.out, if_neg hwm, List.append_nil, HTLN.out])
                  by_cases hwh : wh = pa
                  · have hq2 : (wh == pa) = true := by simpa using hwh
                    have HE2 := hide (show endM pa (V.take (k + 1)) = L0 from by rw [HET.out, if_neg (by unfold keepM; simp [hwh]), List.append_nil])
                    clear hwm hwh HTT HET
                    go_wp2_with fail
                    go_roundg (nl - (k + 1))
                    case measure => omega
                    case rel => exact ⟨k + 1, Z, cZ, by omega, rfl, by go_num, by rw [HT2.out], by rw [HE2.out], by rw [HE2.out]; exact HZ.out, HKP.out, HNW.out⟩
                  · have hq2 : (wh == pa) = false := by simpa using hwh
                    have HE2 := hide (show endM pa (V.take (k + 1)) = L0 ++ [⟨r, wh, wm⟩] from by rw [HET.out, if_pos (by unfold keepM; simp [hwh, hwm])])
                    clear hwm hwh HTT HET
                    go_wp2_with
                      first
                      |
                        (at_builtin
                         have HRD := hide (three_reads (Blk.new (wr) 36 #[.int .i64 r, .int .i64 wh, .int .i64 wm]))
                         have HSA := hide (HZ.out.fresh ((Keeps.refl NoB (wr)).alloc (.cells #[.int .i64 r, .int .i64 wh, .int .i64 wm] 36)))
                         have HKA := hide (HKP.out.alloc (.cells #[.int .i64 r, .int .i64 wh, .int .i64 wm] 36))
                         refine wpList_append_any _ rfl (.tmp 110) (.tmp 115) 30 rfl 36 i0 _ 3 24 Try.underlying30 ni0 nz0 nz1 nz2 rfl (by omega) Z L0.length cZ (mons L0) rfl HSA.out (fun _ => True) true (some ⟨(wr).heap.size, 0, none⟩) 1 1 [.int .i64 r, .int .i64 wh, .int .i64 wm] rfl HRD.out (mons_ones [⟨r, wh, wm⟩]) (by unfold maxLen; omega) (by omega) ?_
                         intro Z3 c3 w8 hs8 hk8 hm8
                         have HS8 := hide hs8
                         have HK8 := hide (HKA.out.trans' hk8 (fun _ _ => id) (fun j hj hr => by have := HNW.out j hr; omega))
                         have HN8 := hide (show ∀ k, rowB Z3 k → w6.heap.size ≤ k from fun k hr => (hm8 k hr).elim (HNW.out k) (fun e => by rw [World.size_alloc] at e; have := HKP.out.size; omega))
                         clear hs8 hk8 hm8 HRD HSA HKA)
                      | fail
                    go_roundg (nl - (k + 1))
                    case measure => omega
                    case rel => exact ⟨k + 1, Z3, c3, by omega, rfl, by go_num, by rw [HT2.out], by rw [HE2.out, List.length_append]; rfl, by rw [HE2.out, List.length_append, mons_append]; exact HS8.out, HK8.out, HN8.out⟩
              · obtain rfl : k = nl := by omega
                have hkz : ¬ (k : Int) < k := by omega
                have e1 : V.take k = V := List.take_of_length_le (by omega)
                have e2 : (toldM pa V).length = t := by rw [(told_perm HI5.out.perm pa).length_eq, HT.out, HTL.out]
                rw [e1, e2]
                rw [e1] at HZ
                have HR7 := hide (HR6.out.fresh HKP.out)
                have HEP := hide (end_perm HI5.out.perm pa)
                have HZN := hide (show ∀ k, rowB Z k → w2.heap.size ≤ k from fun k hr => Nat.le_trans HR6.out.keep.size (HNW.out k hr))
                clear e1 e2
                go_wp2_with fail
                go_meet
                exact ⟨Z, _, cZ, rfl, N, _, _, _, ⟨HR7.out, HZ.out, HEP.out, HZN.out⟩, by omega, by have := endM_len pa M; omega⟩
          · as_aux_lemma =>
            go_wp2_with fail
            go_loopg [16, 17, 18] nl (fun g s16 s17 s18 wx => ∃ (k : Nat) (Z : Option Addr) (cZ : Nat), k ≤ nl ∧ g = nl - k ∧ s18 = .int .i64 k ∧ s16 = .bool (canX xr pa (V.take k)) ∧ s17 = .slice Z (notX xr pa (V.take k)).length cZ ∧ Slab wx 36 3 Z (notX xr pa (V.take k)).length cZ (mons (notX xr pa (V.take k))) ∧ Keeps NoB w5 wx ∧ ∀ k, rowB Z k → w5.heap.size ≤ k)
            case atStart => exact ⟨0, none, 0, Nat.zero_le _, rfl, rfl, rfl, rfl, Slab.nil _ _ _, Keeps.refl _ _, fun k ⟨o, e⟩ => by cases e⟩
            case round =>
              clear x3
              obtain ⟨k, Z, cZ, hk, rfl, rfl, rfl, rfl, hz, hkp, hnw⟩ := hrel
              have HZ := hide hz; have HKP := hide hkp; have HNW := hide hnw
              clear hz hkp hnw
              have hk0 : (0 : Int) ≤ k := by omega
              have x3 : wr.cell? ⟨xk, 3, none⟩ = some (.int .i64 xr) := (HX.out.keep HKP.out id).cell 3
              by_cases hkn : k < nl
              · have hkz : (k : Int) < nl := by omega
                obtain ⟨x, hx⟩ : ∃ x, V[k]? = some x := ⟨_, List.getElem?_eq_getElem (by omega)⟩
                obtain ⟨g, o, rfl, p0, p1, p2⟩ := mon_reads (HI5.out.row.fresh HKP.out).reads hx
                have HTT := hide (canX_take (r := xr) (p := pa) hx); have HET := hide (notX_take (r := xr) (p := pa) hx)
                have hel : (notX xr pa (V.take k)).length ≤ k := filter_take_len _ _
                obtain ⟨L0, hL0⟩ : ∃ L0, notX xr pa (V.take k) = L0 := ⟨_, rfl⟩
                obtain ⟨cb, hcb⟩ : ∃ cb, canX xr pa (V.take k) = cb := ⟨_, rfl⟩
                rw [hL0] at HZ HET hel ⊢
                rw [hcb] at HTT ⊢
                have HXV := hide hx
                obtain ⟨r, wh, wm⟩ := x
                simp only at p0 p1 p2
                clear hx hL0 hcb
                cases hq1 : (r == xr) with
                | false =>
                  have HT2 := hide (show canX xr pa (V.take (k + 1)) = cb from by rw [HTT.out]; show (cb || (r == xr && wh == pa)) = cb; rw [hq1, Bool.false_and]; cases cb <;> rfl)
                  have HE2 := hide (show notX xr pa (V.take (k + 1)) = L0 ++ [⟨r, wh, wm⟩] from by rw [HET.out, if_neg (by show ¬ (r == xr && wh == pa) = true; rw [hq1, Bool.false_and]; decide)])
                  clear HTT HET
                  go_wp2_with fail
                  go_quiet (fail)
                  have HZ := hide (HZ.out.fresh ((Keeps.refl NoB wr).drewN nq)); have HKP := hide (HKP.out.drewN nq)
                  clear p0 p1 p2 x3
                  generalize wr.drewN nq = wq at *
                  obtain ⟨p0, p1, p2⟩ := mon_reads' (HI5.out.row.fresh HKP.out).reads HXV.out
                  go_wp2_with
                    first
                    |
                      (at_builtin
                       have HRD := hide (three_reads (Blk.new (wq) 36 #[.int .i64 r, .int .i64 wh, .int .i64 wm]))
                       have HSA := hide (HZ.out.fresh ((Keeps.refl NoB (wq)).alloc (.cells #[.int .i64 r, .int .i64 wh, .int .i64 wm] 36)))
                       have HKA := hide (HKP.out.alloc (.cells #[.int .i64 r, .int .i64 wh, .int .i64 wm] 36))
                       refine wpList_append_any _ rfl (.tmp 147) (.tmp 152) 30 rfl 36 i0 _ 3 24 Try.underlying30 ni0 nz0 nz1 nz2 rfl (by omega) Z L0.length cZ (mons L0) rfl HSA.out (fun _ => True) true (some ⟨(wq).heap.size, 0, none⟩) 1 1 [.int .i64 r, .int .i64 wh, .int .i64 wm] rfl HRD.out (mons_ones [⟨r, wh, wm⟩]) (by unfold maxLen; omega) (by omega) ?_
                       intro Z3 c3 w8 hs8 hk8 hm8
                       have HS8 := hide hs8
                       have HK8 := hide (HKA.out.trans' hk8 (fun _ _ => id) (fun j hj hr => by have := HNW.out j hr; omega))
                       have HN8 := hide (show ∀ k, rowB Z3 k → w5.heap.size ≤ k from fun k hr => (hm8 k hr).elim (HNW.out k) (fun e => by rw [World.size_alloc] at e; have := HKP.out.size; omega))
                       clear hs8 hk8 hm8 HRD HSA HKA)
                    | fail
                  go_roundg (nl - (k + 1))
                  case measure => omega
                  case rel => exact ⟨k + 1, Z3, c3, by omega, rfl, by go_num, by rw [HT2.out], by rw [HE2.out, List.length_append]; rfl, by rw [HE2.out, List.length_append, mons_append]; exact HS8.out, HK8.out, HN8.out⟩
                | true =>
                  cases hq2 : (wh == pa) with
                  | false =>
                    have HT2 := hide (show canX xr pa (V.take (k + 1)) = cb from by rw [HTT.out]; show (cb || (r == xr && wh == pa)) = cb; rw [hq1, hq2, Bool.true_and]; cases cb <;> rfl)
                    have HE2 := hide (show notX xr pa (V.take (k + 1)) = L0 ++ [⟨r, wh, wm⟩] from by rw [HET.out, if_neg (by show ¬ (r == xr && wh == pa) = true; rw [hq1, hq2, Bool.true_and]; decide)])
                    clear HTT HET
                    go_wp2_with fail
                    go_quiet (fail)
                    have HZ := hide (HZ.out.fresh ((Keeps.refl NoB wr).drewN nq)); have HKP := hide (HKP.out.drewN nq)
                    clear p0 p1 p2 x3
                    generalize wr.drewN nq = wq at *
                    obtain ⟨p0, p1, p2⟩ := mon_reads' (HI5.out.row.fresh HKP.out).reads HXV.out
                    go_wp2_with
                      first
                      |
                        (at_builtin
                         have HRD := hide (three_reads (Blk.new (wq) 36 #[.int .i64 r, .int .i64 wh, .int .i64 wm]))
                         have HSA := hide (HZ.out.fresh ((Keeps.refl NoB (wq)).alloc (.cells #[.int .i64 r, .int .i64 wh, .int .i64 wm] 36)))
                         have HKA := hide (HKP.out.alloc (.cells #[.int .i64 r, .int .i64 wh, .int .i64 wm] 36))
                         refine wpList_append_any _ rfl (.tmp 147) (.tmp 152) 30 rfl 36 i0 _ 3 24 Try.underlying30 ni0 nz0 nz1 nz2 rfl (by omega) Z L0.length cZ (mons L0) rfl HSA.out (fun _ => True) true (some ⟨(wq).heap.size, 0, none⟩) 1 1 [.int .i64 r, .int .i64 wh, .int .i64 wm] rfl HRD.out (mons_ones [⟨r, wh, wm⟩]) (by unfold maxLen; omega) (by omega) ?_
                         intro Z3 c3 w8 hs8 hk8 hm8
                         have HS8 := hide hs8
                         have HK8 := hide (HKA.out.trans' hk8 (fun _ _ => id) (fun j hj hr => by have := HNW.out j hr; omega))
                         have HN8 := hide (show ∀ k, rowB Z3 k → w5.heap.size ≤ k from fun k hr => (hm8 k hr).elim (HNW.out k) (fun e => by rw [World.size_alloc] at e; have := HKP.out.size; omega))
                         clear hs8 hk8 hm8 HRD HSA HKA)
                      | fail
                    go_roundg (nl - (k + 1))
                    case measure => omega
                    case rel => exact ⟨k + 1, Z3, c3, by omega, rfl, by go_num, by rw [HT2.out], by rw [HE2.out, List.length_append]; rfl, by rw [HE2.out, List.length_append, mons_append]; exact HS8.out, HK8.out, HN8.out⟩
                  | true =>
                    have HT2 := hide (show canX xr pa (V.take (k + 1)) = true from by rw [HTT.out]; show (cb || (r == xr && wh == pa)) = true; rw [hq1, hq2]; cases cb <;> rfl)
                    have HE2 := hide (show notX xr pa (V.take (k + 1)) = L0 from by rw [HET.out, if_pos (by show (r == xr && wh == pa) = true; rw [hq1, hq2]; rfl), List.append_nil])
                    clear HTT HET
                    go_wp2_with fail
                    go_quiet (fail)
                    go_wp2_with fail
                    go_roundg (nl - (k + 1))
                    case measure => omega
                    case rel => exact ⟨k + 1, Z, cZ, by omega, rfl, by go_num, by rw [HT2.out], by rw [HE2.out], by rw [HE2.out]; exact HZ.out.fresh ((Keeps.refl NoB wr).drewN nq), HKP.out.drewN nq, HNW.out⟩
              · obtain rfl : k = nl := by omega
                have hkz : ¬ (k : Int) < k := by omega
                have e1 : V.take k = V := List.take_of_length_le (by omega)
                rw [e1, canX_perm HI5.out.perm]
                rw [e1] at HZ
                have HR7 := hide (HI5.out.run.fresh HKP.out)
                have HEP := hide (notX_perm HI5.out.perm HI5.out.run.at'.up xr pa)
                have HZN := hide (show ∀ k, rowB Z k → w2.heap.size ≤ k from fun k hr => Nat.le_trans HI5.out.run.keep.size (HNW.out k hr))
                have HU := hide (unwatch_any wr w2.heap.size b m1 m2 N L M xr pa HR7.out.at' HOK.out.2.2)
                obtain ⟨cb, hcb⟩ : ∃ cb, canX xr pa M = cb := ⟨_, rfl⟩
                rw [hcb] at HU ⊢
                clear e1 hcb
                cases cb with
                | false =>
                  go_wp2_with fail
                  refine HU.out.mono ?_
                  rintro e w6 ⟨rfl, h1, h2⟩
                  have HR8 := hide (HR7.out.turn h2 h1)
                  have HZ8 := hide (HZ.out.keep h2 (FP.slab HZ.out))
                  clear h1 h2 x3
                  go_wp2_with fail
                  go_meet
                  exact ⟨Z, _, cZ, rfl, N, _, _, _, ⟨HR8.out, HZ8.out, HEP.out, HZN.out⟩, by omega, by have := goX_len xr pa M; omega⟩
                | true =>
                  go_wp2_with fail
                  refine HU.out.mono ?_
                  rintro e w6 ⟨rfl, h1, h2⟩
                  have HR8 := hide (HR7.out.turn h2 h1)
                  have HZ8 := hide (HZ.out.keep h2 (FP.slab HZ.out))
                  clear h1 h2 x3
                  go_wp2_with fail
                  go_meet
                  exact ⟨Z, _, cZ, rfl, N, _, _, _, ⟨HR8.out, HZ8.out, HEP.out, HZN.out⟩, by omega, by have := goX_len xr pa M; omega⟩
          · as_aux_lemma =>
            have hn0 : (r4 == 0) = false := by simp; omega
            have hn1 : (r4 == 1) = false := by simp; omega
            have HU := hide (watch_any w5 w2.heap.size b m1 m2 N L M ⟨xr, pa, pb⟩ HI5.out.run.at' ⟨HOK.out.2.2, HPA.out, HPB.out⟩ (by omega))
            have HGL := hide (show (goW ⟨xr, pa, pb⟩ M).length ≤ M.length + 1 from goW_len _ _)
            have HGP := hide (show (if canW xr M = true then V ++ [⟨xr, pa, pb⟩] else V).Perm (goW ⟨xr, pa, pb⟩ M) from by
              unfold goW
              split
              · exact put_perm HI5.out.perm _
              · exact HI5.out.perm)
            simp only at HU
            obtain ⟨cb, hcb⟩ : ∃ cb, canW xr M = cb := ⟨_, rfl⟩
            rw [hcb] at HU HGP
            clear hcb
            cases cb with
            | false =>
              go_wp2_with fail
              refine HU.out.mono ?_
              rintro e w6 ⟨rfl, h1, h2⟩
              have HR8 := hide (HI5.out.run.turn h2 h1)
              have HX8 := hide (HI5.out.row.keep h2 (FP.slab HI5.out.row))
              clear h1 h2 x3
              go_wp2_with fail
              go_meet
              exact ⟨X, nl, cX, rfl, N + 4, _, _, _, ⟨HR8.out, HX8.out, HGP.out, HI5.out.new⟩, by omega, by have := HGL.out; omega⟩
            | true =>
              have HGP2 : Hid ((V ++ [(⟨xr, pa, pb⟩ : Mon)]).Perm (goW ⟨xr, pa, pb⟩ M)) := hide (by have := HGP.out; rwa [if_pos rfl] at this)
              clear HGP
              go_wp2_with fail
              refine HU.out.mono ?_
              rintro e w6 ⟨rfl, h1, h2⟩
              have HR8 := hide (HI5.out.run.turn h2 h1)
              have HX8 := hide (HI5.out.row.keep h2 (FP.slab HI5.out.row))
              have y3 : w6.cell? ⟨xk, 3, none⟩ = some (.int .i64 xr) := (HX.out.keep h2 (FP.blk HX.out)).cell 3
              clear h1 h2 x3
              go_wp2_with
                first
                | (at_builtin
                   have HRD := hide (three_reads (Blk.new w6 36 #[.int .i64 xr, .int .i64 pa, .int .i64 pb]))
                   have HSA := hide (HX8.out.fresh ((Keeps.refl NoB w6).alloc (.cells #[.int .i64 xr, .int .i64 pa, .int .i64 pb] 36)))
                   have HRA := hide (HR8.out.fresh ((Keeps.refl NoB w6).alloc (.cells #[.int .i64 xr, .int .i64 pa, .int .i64 pb] 36)))
                   refine wpList_append_any _ rfl (.tmp 52) (.tmp 58) 30 rfl 36 i0 _ 3 24 Try.underlying30 ni0 nz0 nz1 nz2 rfl (by omega) X nl cX (mons V) rfl HSA.out (fun _ => True) true (some ⟨w6.heap.size, 0, none⟩) 1 1 [.int .i64 xr, .int .i64 pa, .int .i64 pb] rfl HRD.out (mons_ones [⟨xr, pa, pb⟩]) (by unfold maxLen; omega) (by omega) ?_
                   intro Z3 c3 w8 hs8 hk8 hm8
                   have HS8 := hide hs8
                   have HK8 := hide (HRA.out.keep.trans' hk8 (fun _ _ => id) (fun j hj hr => by have := HI5.out.new j hr; omega))
                   have HL8 := hide (HRA.out.at'.cells hk8 (fun k hr => ⟨_, row_blk HSA.out hr⟩) (fun e => HSA.out.ne HRA.out.at'.blk (by decide) e))
                   have HN8 := hide (show ∀ k, rowB Z3 k → w2.heap.size ≤ k from fun k hr => (hm8 k hr).elim (HI5.out.new k) (fun e => by rw [World.size_alloc] at e; have := HR8.out.keep.size; omega))
                   clear hs8 hk8 hm8 HRD HSA HRA)
                | fail
              go_meet
              exact ⟨Z3, nl + 1, c3, rfl, N + 4, _, _, V ++ [⟨xr, pa, pb⟩], ⟨⟨HL8.out, HK8.out⟩, by rw [mons_append]; exact HS8.out, HGP2.out, HN8.out⟩, by omega, by have := HGL.out; omega⟩
        case rest =>
          obtain ⟨X', nl', cX', rfl, N', L', M', V', hinv, hN', hM'⟩ := hcut
          have HI := hide hinv
          clear hinv HI5 HX x3
          have hln : M'.length = nl' := by rw [← HI.out.perm.length_eq]; exact HI.out.len
          go_wp2_with
            first
            | (go_at_call 13
               refine (mons_any _ w2.heap.size b m1 m2 N' L' M' HI.out.run.at' (by omega) (by omega)).mono ?_
               rintro e w8 ⟨A4, c4, rfl, _, hk, _⟩
               rw [hln]
               have HI8 := hide (HI.out.fresh hk)
               clear hk hln)
            | fail
          go_roundg (m - (i + 1))
          case measure => omega
          case rel => exact ⟨i + 1, X', nl', cX', by omega, rfl, by go_num, rfl, N', L', M', V', HI8.out, hN', hM'⟩
      · obtain rfl : i = m := by omega
        have hiz : ¬ (i : Int) < i := by omega
        go_wp2_with fail
        go_ret
        exact ⟨rfl, HK1.out.trans' HI.out.run.keep (fun _ _ => id) (fun _ _ => id)⟩
end Go.Proofs.Ytjmljjmnamfljaa
