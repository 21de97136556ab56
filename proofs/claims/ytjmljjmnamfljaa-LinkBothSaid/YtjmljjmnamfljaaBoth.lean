/- pigeonholelaw14: LinkBoth. -/
import Derived.Test.YtjmljjmnamfljaaDos
namespace Go.Proofs.Ytjmljjmnamfljaa
open Go.RowKit Go.Maps

theorem ints_at' {w : World} {B : Nat → Prop} {F : Bool} {g o n k : Nat} {l : List Int} {x : Int} (h : Reads w B F 1 (some ⟨g, o, none⟩) n (l.map (Value.int .i64))) (hx : l[k]? = some x) : w.cell? ⟨g, o + k, none⟩ = some (.int .i64 x) := by
  obtain ⟨g', o', e, h2⟩ := ints_at h hx
  injection e with e; injection e with e1 e2; subst e1 e2; exact h2
def BothAt (w wx : World) (b m1 m2 i : Nat) : Prop := ∃ N L M, Run w wx b m1 m2 N L M ∧ N ≤ 4 * i ∧ M.length ≤ i
theorem BothAt.fresh {w wx wy : World} {b m1 m2 i : Nat} (h : BothAt w wx b m1 m2 i) (k : Keeps NoB wx wy) : BothAt w wy b m1 m2 i := by
  obtain ⟨N, L, M, h1, h2, h3⟩ := h; exact ⟨N, L, M, h1.fresh k, h2, h3⟩
set_option maxRecDepth 100000 in
set_option maxHeartbeats 8000000 in
theorem link_both (A : Option Addr) (n c : Nat) (hnc : n ≤ c) (E : List Dx) (w : World) (h : DosAt w A n E) : Calls Try.prog 3 #[.slice A n c] w fun e w' => e = .returned (.bool true) ∧ Keeps NoB w w' := by
  have H := hide h; clear h
  go_enter Try.func3, Try.ntmps3
  go_upto_if 17 with
    first
    | (go_at_call 8
       refine (awake_any _).mono ?_
       rintro e w2 ⟨rfl, hk⟩
       have HK1 := hide hk
       clear hk)
    | fail
  go_cut [0] (fun s0 wx => w2 = wx ∧ ∃ m : Nat, m ≤ 80 ∧ m ≤ n ∧ s0 = .slice A m c)
  case first =>
    by_cases h80 : n ≤ 80
    · have hz : (n : Int) ≤ 80 := by omega
      go_wp2_with fail
      go_meet
      exact ⟨rfl, n, h80, Nat.le_refl _, rfl⟩
    · have hz : (80 : Int) < n := by omega
      have hzc : (80 : Int) ≤ c := by omega
      go_wp2_with fail
      go_meet
      exact ⟨rfl, 80, Nat.le_refl _, by omega, rfl⟩
  case rest =>
    obtain ⟨rfl, m, hm80, hmn, rfl⟩ := hcut
    have HD := hide ((H.out.pre hmn).keep HK1.out)
    generalize hE : E.take m = D at *
    clear hE H
    go_wp2_with
      first
      | (go_at_call 9
         refine (new_any _).mono ?_
         rintro e w3 ⟨rfl, h1, hk⟩)
      | fail
    have HR := hide (show BothAt w2 w3 (w2.heap.size + 2) w2.heap.size (w2.heap.size + 1) 0 from ⟨0, _, _, ⟨h1, hk⟩, by omega, by simp⟩)
    clear h1 hk
    generalize w2.heap.size + 2 = b at *
    generalize w2.heap.size + 1 = m2 at *
    obtain ⟨m1, hm1⟩ : ∃ m1, w2.heap.size = m1 := ⟨_, rfl⟩
    rw [hm1] at HR
    clear hm1
    go_loopg [4] m (fun g s4 wx => ∃ i : Nat, i ≤ m ∧ g = m - i ∧ s4 = .int .i64 i ∧ BothAt w2 wx b m1 m2 i)
    case atStart => exact ⟨0, Nat.zero_le _, rfl, rfl, HR.out⟩
    case round =>
      clear HR
      obtain ⟨i, him, rfl, rfl, N, L, M, hinv, hNi, hMi⟩ := hrel
      have HI := hide hinv
      clear hinv
      have hi0 : (0 : Int) ≤ (i : Int) := by omega
      by_cases hi : i < m
      · obtain ⟨x, hx⟩ : ∃ x, D[i]? = some x := ⟨_, List.getElem?_eq_getElem (by rw [HD.out.1]; exact hi)⟩
        obtain ⟨hok, ab, ao, rfl, d0, d1, d2, d3⟩ := (HD.out.keep HI.out.keep).2 i x hx
        obtain ⟨op, xa, xb, xr⟩ := x
        simp only at d0 d1 d2 d3 hok
        have hi1 : (i : Int) < (m : Int) := by omega
        have HOK := hide hok
        clear hx hok
        go_wp2_with fail
        clear d0 d1 d2 d3
        have HI4 := hide (HI.out.fresh ((Keeps.refl NoB wr).alloc (.cells #[.int .i64 op, .int .i64 xa, .int .i64 xb, .int .i64 xr] 27)))
        have HX4 := hide (Blk.new wr 27 #[.int .i64 op, .int .i64 xa, .int .i64 xb, .int .i64 xr])
        clear HI
        generalize wr.alloc (.cells #[.int .i64 op, .int .i64 xa, .int .i64 xb, .int .i64 xr] 27) = w4 at *
        generalize wr.heap.size = xk at *
        clear wr
        refine order_begin (fun W => Blk W xk 27 #[.int .i64 op, .int .i64 xa, .int .i64 xb, .int .i64 xr]) (fun _ => true) (by kernel_rfl) 8 rfl ?_
        have HI5 := hide (HI4.out.fresh (Keeps.refl NoB w4).drew)
        have HS := HX4.out.keep (Keeps.refl NoB w4).drew id
        clear HI4 HX4
        generalize w4.drew = w5 at *
        clear w4
        refine order_pure (i := 0) rfl (by kernel_rfl) (fun _ _ _ h => h) (.inl ⟨rfl, fun _ => by go_simp; rfl⟩) ?_
        try simp only [Act.put, List.setIfInBounds_toArray, List.set_cons_succ, List.set_cons_zero]
        refine order_pure (i := 3) rfl (by kernel_rfl) (fun _ _ _ h => h) (.inl ⟨rfl, fun _ => by go_simp; rfl⟩) ?_
        try simp only [Act.put, List.setIfInBounds_toArray, List.set_cons_succ, List.set_cons_zero]
        refine order_held (i := 1) rfl (by kernel_rfl) (fun _ _ _ h => h) (.inl ⟨rfl, fun W hW => by
          have q0 : W.cell? ⟨xk, 1, none⟩ = some (.int .i64 xa) := hW.cell 1
          go_simp; rfl⟩) HS ?_
        try simp only [Act.put, List.setIfInBounds_toArray, List.set_cons_succ, List.set_cons_zero]
        refine order_held (i := 4) rfl (by kernel_rfl) (fun _ _ _ h => h) (.inl ⟨rfl, fun W hW => by
          have q0 : W.cell? ⟨xk, 2, none⟩ = some (.int .i64 xb) := hW.cell 2
          go_simp; rfl⟩) HS ?_
        try simp only [Act.put, List.setIfInBounds_toArray, List.set_cons_succ, List.set_cons_zero]
        refine order_one (i := 2) rfl (by kernel_rfl) (fun K hK => ?_)
        go_simp
        refine (pick_any xa 8 (by omega) (by omega) _).mono ?_
        rintro e w' ⟨rfl, rfl⟩
        refine hK _ _ (fun _ _ => HS) ?_
        clear hK
        try simp only [Act.put, List.setIfInBounds_toArray, List.set_cons_succ, List.set_cons_zero]
        refine order_one (i := 5) rfl (by kernel_rfl) (fun K hK => ?_)
        go_simp
        refine (pick_any xb 8 (by omega) (by omega) _).mono ?_
        rintro e w' ⟨rfl, rfl⟩
        refine hK _ _ (fun _ _ => HS) ?_
        clear hK
        try simp only [Act.put, List.setIfInBounds_toArray, List.set_cons_succ, List.set_cons_zero]
        refine order_pure (i := 6) rfl (by kernel_rfl) (fun _ _ _ h => h) (.inl ⟨rfl, fun _ => by go_simp; rfl⟩) ?_
        try simp only [Act.put, List.setIfInBounds_toArray, List.set_cons_succ, List.set_cons_zero]
        refine order_pure (i := 7) rfl (by kernel_rfl) (fun _ _ _ h => h) (.inl ⟨rfl, fun _ => by go_simp; rfl⟩) ?_
        try simp only [Act.put, List.setIfInBounds_toArray, List.set_cons_succ, List.set_cons_zero]
        refine order_done (by kernel_rfl) ?_
        have ha0 : 0 ≤ xa % 8 := Int.emod_nonneg _ (by omega)
        have ha1 : xa % 8 < 8 := Int.emod_lt_of_pos _ (by omega)
        have hb0 : 0 ≤ xb % 8 := Int.emod_nonneg _ (by omega)
        have hb1 : xb % 8 < 8 := Int.emod_lt_of_pos _ (by omega)
        have HX := hide HS
        clear HS
        generalize xa % 8 = pa at *
        generalize xb % 8 = pb at *
        have HPA := hide (ok_mid (p := pa) (by omega)); have HPB := hide (ok_mid (p := pb) (by omega))
        have x0 : w5.cell? ⟨xk, 0, none⟩ = some (.int .i64 op) := HX.out.cell 0
        have x3 : w5.cell? ⟨xk, 3, none⟩ = some (.int .i64 xr) := HX.out.cell 3
        go_upto_block 2 with
          first
          | (go_at_call 10
             refine (pick_any op 5 (by omega) (by omega) _).mono ?_
             rintro e w' ⟨rfl, rfl⟩)
          | fail
        go_cut [] (fun wx => BothAt w2 wx b m1 m2 (i + 1))
        case first =>
          have hr0 : 0 ≤ op % 5 := Int.emod_nonneg _ (by omega)
          have hr5 : op % 5 < 5 := Int.emod_lt_of_pos _ (by omega)
          generalize op % 5 = r at *
          rcases (by omega : r = 0 ∨ r = 1 ∨ r = 2 ∨ 2 < r) with rfl | rfl | rfl | hr2
          · go_wp2_with
              first
              | (go_at_call 11
                 refine (end_any w5 w2.heap.size b m1 m2 N L M pa HI5.out.at' HPA.out (by omega) (by omega)).mono ?_
                 rintro e w6 ⟨A1, c1, A2, c2, rfl, _, _, h3, h4, _, _⟩
                 have HI6 := hide (HI5.out.turn h4 h3)
                 clear h3 h4 x0 x3)
              | (go_at_call 12
                 refine (of_at w6 w2.heap.size b m1 m2 N (endL pa L) (endM pa M) pa HI6.out.at' HPA.out (by omega)).mono ?_
                 rintro e w7 ⟨A3, c3, rfl, _, hk, _⟩
                 rw [show endL pa L pa = [] from by unfold endL; rw [if_pos rfl]]
                 simp only [List.length_nil]
                 have HI7 := hide (HI6.out.fresh hk)
                 clear hk)
              | (go_at_call 13
                 refine (mons_any w7 w2.heap.size b m1 m2 N (endL pa L) (endM pa M) HI7.out.at' (by omega) (by have := endM_len pa M; omega)).mono ?_
                 rintro e w8 ⟨A4, c4, rfl, h1, hk, _⟩
                 have HI8 := hide (HI7.out.fresh hk)
                 have HS8 := hide h1
                 clear h1 hk)
              | fail
            obtain ⟨q, hq⟩ : ∃ q, (endM pa M).length = q := ⟨_, rfl⟩
            have hq6 : q ≤ 80 := by have := endM_len pa M; omega
            rw [hq] at HS8 ⊢
            have HQ := hide hq
            clear hq
            go_loopg [9] q (fun g s9 wx => ∃ k : Nat, k ≤ q ∧ g = q - k ∧ s9 = .int .i64 k ∧ wx = w8)
            case atStart => exact ⟨0, Nat.zero_le _, rfl, rfl, rfl⟩
            case round =>
              obtain ⟨k, hk, rfl, rfl, rfl⟩ := hrel
              have hk0 : (0 : Int) ≤ k := by omega
              by_cases hkq : k < q
              · have hkz : (k : Int) < q := by omega
                obtain ⟨x, hx⟩ : ∃ x, (endM pa M)[k]? = some x := ⟨_, List.getElem?_eq_getElem (by have := HQ.out; omega)⟩
                obtain ⟨g, o, rfl, p0, p1, p2⟩ := mon_reads HS8.out.reads hx
                have hkp := (List.mem_filter.1 (List.mem_of_getElem? hx)).2
                unfold keepM at hkp
                simp only [decide_eq_true_eq] at hkp
                have hq1 : (x.who == pa) = false := by simpa using hkp.2
                have hq2 : (x.whom == pa) = false := by simpa using hkp.1
                clear hx hkp
                go_wp2_with fail
                go_roundg (q - (k + 1))
                case measure => omega
                case rel => exact ⟨k + 1, by omega, rfl, by go_num, rfl⟩
              · obtain rfl : k = q := by omega
                have hkz : ¬ (k : Int) < k := by omega
                go_wp2_with fail
                go_meet
                exact ⟨N, _, _, HI8.out, by omega, by have := endM_len pa M; omega⟩
          · go_wp2_with fail
            refine (unlink_any w5 w2.heap.size b m1 m2 N L M pa pb HI5.out.at' HPA.out HPB.out).mono ?_
            rintro e w6 ⟨rfl, h1, h2⟩
            have HI6 := hide (HI5.out.turn h2 h1)
            clear h1 h2 x0 x3
            go_wp2_with fail
            go_meet
            exact ⟨N, _, _, HI6.out, by omega, by omega⟩
          · go_wp2_with fail
            refine (watch_any w5 w2.heap.size b m1 m2 N L M ⟨xr, pa, pb⟩ HI5.out.at' ⟨HOK.out.2.2, HPA.out, HPB.out⟩ (by omega)).mono ?_
            rintro e w6 ⟨rfl, h1, h2⟩
            have HI6 := hide (HI5.out.turn h2 h1)
            clear h1 h2 x0 x3
            go_wp2_with fail
            go_meet
            exact ⟨N + 4, _, _, HI6.out, by omega, by have := goW_len ⟨xr, pa, pb⟩ M; omega⟩
          · have hn0 : (r == 0) = false := by simp; omega
            have hn1 : (r == 1) = false := by simp; omega
            have hn2 : (r == 2) = false := by simp; omega
            go_wp2_with fail
            refine (link_any w5 w2.heap.size b m1 m2 N L M pa pb HI5.out.at' HPA.out HPB.out (by omega) HI5.out.keep.size).mono ?_
            rintro e w6 ⟨rfl, h1, h2⟩
            have HI6 := hide (HI5.out.turn h2 h1)
            clear h1 h2 x0 x3
            go_wp2_with fail
            go_meet
            exact ⟨N + 4, _, _, HI6.out, by omega, by omega⟩
        case rest =>
          clear HI5 HX x0 x3
          obtain ⟨N', L', M', hinv, hN', hM'⟩ := hcut
          have HI := hide hinv
          clear hinv
          go_wp2_with fail
          go_loopg [10] 8 (fun g s10 wx => ∃ p : Nat, p ≤ 8 ∧ g = 8 - p ∧ s10 = .int .i64 p ∧ Run w2 wx b m1 m2 N' L' M')
          case atStart => exact ⟨0, by omega, rfl, rfl, HI.out⟩
          case round =>
            clear HI
            obtain ⟨p, hp8, rfl, rfl, hinv⟩ := hrel
            have HI := hide hinv
            clear hinv
            have hp0 : (0 : Int) ≤ p := by omega
            by_cases hp : p < 8
            · have hpz : (p : Int) < 8 := by omega
              have HP := hide (ok_mid (p := (p : Int)) (by omega))
              go_wp2_with
                first
                | (go_at_call 12
                   refine (of_at wr w2.heap.size b m1 m2 N' L' M' p HI.out.at' HP.out (by omega)).mono ?_
                   rintro e w6 ⟨A3, c3, rfl, h1, hk, _⟩
                   have HI6 := hide (HI.out.fresh hk)
                   have HS6 := hide h1
                   clear hk h1 HI)
                | fail
              obtain ⟨l, hl⟩ : ∃ l, L' p = l := ⟨_, rfl⟩
              obtain ⟨q, hq⟩ : ∃ q, l.length = q := ⟨_, rfl⟩
              rw [hl, hq] at HS6
              rw [hl, hq]
              have HL := hide hl; have HQ := hide hq
              have hq6 : q ≤ maxLen := Nat.le_trans HS6.out.2.1 HS6.out.2.2.1
              unfold maxLen at hq6
              clear hl hq
              go_loopg [12] q (fun g s12 wx => ∃ k : Nat, k ≤ q ∧ g = q - k ∧ s12 = .int .i64 k ∧ Keeps NoB w6 wx)
              case atStart => exact ⟨0, Nat.zero_le _, rfl, rfl, Keeps.refl _ _⟩
              case round =>
                obtain ⟨k, hk, rfl, rfl, hkp⟩ := hrel
                have HKP := hide hkp
                clear hkp
                have hk0 : (0 : Int) ≤ k := by omega
                by_cases hkq : k < q
                · have hkz : (k : Int) < q := by omega
                  obtain ⟨y, hy⟩ : ∃ y, l[k]? = some y := ⟨_, List.getElem?_eq_getElem (by have := HQ.out; omega)⟩
                  have hyl : y ∈ L' p := HL.out ▸ List.mem_of_getElem? hy
                  have HYP := hide (HI6.out.at'.good.sym _ _ hyl)
                  have HYO := hide (HI6.out.at'.good.ok _ _ hyl)
                  have hyp : (y == (p : Int)) = false := by
                    have h1 : y ≠ (p : Int) := fun e => HI6.out.at'.good.irr p (e ▸ hyl)
                    simpa using h1
                  have HY := hide hy
                  obtain ⟨g, o, hA, _⟩ := ints_at HS6.out.reads hy
                  subst hA
                  clear hy hyl
                  by_cases hkk : k = 0
                  · skip
                    go_wp2_with fail
                    refine order_begin (fun W => Slab W 3 1 (some ⟨g, o, none⟩) q c3 (l.map (Value.int .i64))) (fun _ => true) (by kernel_rfl) 33 rfl ?_
                    have HS := (HS6.out.fresh HKP.out).fresh (Keeps.refl NoB wr).drew
                    have HC := hide ((HI6.out.fresh HKP.out).fresh (Keeps.refl NoB wr).drew)
                    have HKD := hide HKP.out.drew
                    generalize wr.drew = w7 at *
                    have hgt : ¬ ((0 : Int) < (k : Int)) := by omega
                    have hgt2 : ¬ 0 < k := by omega
                    clear hkk
                    refine order_pure (i := 0) rfl (by kernel_rfl) (fun _ _ _ h => h) (.inl ⟨rfl, fun _ => by go_simp; rfl⟩) ?_
                    try simp only [Act.put, List.setIfInBounds_toArray, List.set_cons_succ, List.set_cons_zero]
                    refine order_pure (i := 1) rfl (by kernel_rfl) (fun _ _ _ h => h) (.inl ⟨rfl, fun _ => by go_simp; rfl⟩) ?_
                    try simp only [Act.put, List.setIfInBounds_toArray, List.set_cons_succ, List.set_cons_zero]
                    refine order_pure (i := 2) rfl (by kernel_rfl) (fun _ _ _ h => h) (.inl ⟨rfl, fun _ => by go_simp; rfl⟩) ?_
                    try simp only [Act.put, List.setIfInBounds_toArray, List.set_cons_succ, List.set_cons_zero]
                    refine order_held (i := 3) rfl (by kernel_rfl) (fun _ _ _ h => h) (.inl ⟨rfl, fun W hW => by
                      have q0 : W.cell? ⟨g, o + k, none⟩ = some (.int .i64 y) := (ints_at' hW.reads HY.out)
                      go_simp; rfl⟩) HS ?_
                    try simp only [Act.put, List.setIfInBounds_toArray, List.set_cons_succ, List.set_cons_zero]
                    refine order_pure (i := 4) rfl (by kernel_rfl) (fun _ _ _ h => h) (.inl ⟨rfl, fun _ => by go_simp; rfl⟩) ?_
                    try simp only [Act.put, List.setIfInBounds_toArray, List.set_cons_succ, List.set_cons_zero]
                    refine order_pure (i := 5) rfl (by kernel_rfl) (fun _ _ _ h => h) (.inl ⟨rfl, fun _ => by go_simp; rfl⟩) ?_
                    try simp only [Act.put, List.setIfInBounds_toArray, List.set_cons_succ, List.set_cons_zero]
                    refine order_pure (i := 6) rfl (by kernel_rfl) (fun _ _ _ h => h) (.inl ⟨rfl, fun _ => by go_simp; rfl⟩) ?_
                    try simp only [Act.put, List.setIfInBounds_toArray, List.set_cons_succ, List.set_cons_zero]
                    refine order_pure (i := 7) rfl (by kernel_rfl) (fun _ _ _ h => h) (.inl ⟨rfl, fun _ => by go_simp; rfl⟩) ?_
                    try simp only [Act.put, List.setIfInBounds_toArray, List.set_cons_succ, List.set_cons_zero]
                    refine order_pure (i := 8) rfl (by kernel_rfl) (fun _ _ _ h => h) (.inl ⟨rfl, fun _ => by go_simp; rfl⟩) ?_
                    try simp only [Act.put, List.setIfInBounds_toArray, List.set_cons_succ, List.set_cons_zero]
                    refine order_pure (i := 9) rfl (by kernel_rfl) (fun _ _ _ h => h) (.inl ⟨rfl, fun _ => by go_simp; rfl⟩) ?_
                    try simp only [Act.put, List.setIfInBounds_toArray, List.set_cons_succ, List.set_cons_zero]
                    refine order_skip (i := 10) rfl (by kernel_rfl) (fun _ _ _ h => h) (by kernel_rfl) ?_
                    try simp only [Act.put, List.setIfInBounds_toArray, List.set_cons_succ, List.set_cons_zero]
                    refine order_skip (i := 11) rfl (by kernel_rfl) (fun _ _ _ h => h) (by kernel_rfl) ?_
                    try simp only [Act.put, List.setIfInBounds_toArray, List.set_cons_succ, List.set_cons_zero]
                    refine order_skip (i := 12) rfl (by kernel_rfl) (fun _ _ _ h => h) (by kernel_rfl) ?_
                    try simp only [Act.put, List.setIfInBounds_toArray, List.set_cons_succ, List.set_cons_zero]
                    refine order_skip (i := 13) rfl (by kernel_rfl) (fun _ _ _ h => h) (by kernel_rfl) ?_
                    try simp only [Act.put, List.setIfInBounds_toArray, List.set_cons_succ, List.set_cons_zero]
                    refine order_skip (i := 14) rfl (by kernel_rfl) (fun _ _ _ h => h) (by kernel_rfl) ?_
                    try simp only [Act.put, List.setIfInBounds_toArray, List.set_cons_succ, List.set_cons_zero]
                    refine order_skip (i := 15) rfl (by kernel_rfl) (fun _ _ _ h => h) (by kernel_rfl) ?_
                    try simp only [Act.put, List.setIfInBounds_toArray, List.set_cons_succ, List.set_cons_zero]
                    refine order_skip (i := 16) rfl (by kernel_rfl) (fun _ _ _ h => h) (by kernel_rfl) ?_
                    try simp only [Act.put, List.setIfInBounds_toArray, List.set_cons_succ, List.set_cons_zero]
                    refine order_skip (i := 17) rfl (by kernel_rfl) (fun _ _ _ h => h) (by kernel_rfl) ?_
                    try simp only [Act.put, List.setIfInBounds_toArray, List.set_cons_succ, List.set_cons_zero]
                    refine order_skip (i := 18) rfl (by kernel_rfl) (fun _ _ _ h => h) (by kernel_rfl) ?_
                    try simp only [Act.put, List.setIfInBounds_toArray, List.set_cons_succ, List.set_cons_zero]
                    refine order_skip (i := 19) rfl (by kernel_rfl) (fun _ _ _ h => h) (by kernel_rfl) ?_
                    try simp only [Act.put, List.setIfInBounds_toArray, List.set_cons_succ, List.set_cons_zero]
                    refine order_pure (i := 20) rfl (by kernel_rfl) (fun _ _ _ h => h) (.inl ⟨rfl, fun _ => by go_simp; rfl⟩) ?_
                    try simp only [Act.put, List.setIfInBounds_toArray, List.set_cons_succ, List.set_cons_zero]
                    refine order_pure (i := 21) rfl (by kernel_rfl) (fun _ _ _ h => h) (.inl ⟨rfl, fun _ => by go_simp; rfl⟩) ?_
                    try simp only [Act.put, List.setIfInBounds_toArray, List.set_cons_succ, List.set_cons_zero]
                    refine order_pure (i := 22) rfl (by kernel_rfl) (fun _ _ _ h => h) (.inl ⟨rfl, fun _ => by go_simp; rfl⟩) ?_
                    try simp only [Act.put, List.setIfInBounds_toArray, List.set_cons_succ, List.set_cons_zero]
                    refine order_pure (i := 23) rfl (by kernel_rfl) (fun _ _ _ h => h) (.inl ⟨rfl, fun _ => by go_simp; rfl⟩) ?_
                    try simp only [Act.put, List.setIfInBounds_toArray, List.set_cons_succ, List.set_cons_zero]
                    refine order_pure (i := 24) rfl (by kernel_rfl) (fun _ _ _ h => h) (.inl ⟨rfl, fun _ => by go_simp; rfl⟩) ?_
                    try simp only [Act.put, List.setIfInBounds_toArray, List.set_cons_succ, List.set_cons_zero]
                    refine order_pure (i := 25) rfl (by kernel_rfl) (fun _ _ _ h => h) (.inl ⟨rfl, fun _ => by go_simp; rfl⟩) ?_
                    try simp only [Act.put, List.setIfInBounds_toArray, List.set_cons_succ, List.set_cons_zero]
                    refine order_pure (i := 26) rfl (by kernel_rfl) (fun _ _ _ h => h) (.inl ⟨rfl, fun _ => by go_simp; rfl⟩) ?_
                    try simp only [Act.put, List.setIfInBounds_toArray, List.set_cons_succ, List.set_cons_zero]
                    refine order_held (i := 27) rfl (by kernel_rfl) (fun _ _ _ h => h) (.inl ⟨rfl, fun W hW => by
                      have q0 : W.cell? ⟨g, o + k, none⟩ = some (.int .i64 y) := (ints_at' hW.reads HY.out)
                      go_simp; rfl⟩) HS ?_
                    try simp only [Act.put, List.setIfInBounds_toArray, List.set_cons_succ, List.set_cons_zero]
                    refine order_pure (i := 29) rfl (by kernel_rfl) (fun _ _ _ h => h) (.inl ⟨rfl, fun _ => by go_simp; rfl⟩) ?_
                    try simp only [Act.put, List.setIfInBounds_toArray, List.set_cons_succ, List.set_cons_zero]
                    refine order_one (i := 28) rfl (by kernel_rfl) (fun K hK => ?_)
                    go_simp
                    refine (of_at w7 w2.heap.size b m1 m2 N' L' M' y HC.out.at' HYO.out (by omega)).mono ?_
                    rintro e w8 ⟨A9, c9, rfl, h9, hk9, _⟩
                    have HS2 := HS.fresh hk9
                    refine hK _ _ (fun _ _ => HS2) ?_
                    have HC8 := hide hk9
                    have HS9 := hide h9
                    clear hK HS hk9 h9
                    try simp only [Act.put, List.setIfInBounds_toArray, List.set_cons_succ, List.set_cons_zero]
                    refine order_one (i := 30) rfl (by kernel_rfl) (fun K hK => ?_)
                    go_simp
                    refine (among_any A9 _ c9 (L' y) p w8 _ _ HS9.out.reads (Nat.le_trans HS9.out.2.1 HS9.out.2.2.1)).mono ?_
                    rintro e w9 ⟨rfl, rfl⟩
                    rw [isIn_iff.2 HYP.out]
                    refine hK _ _ (fun _ _ => HS2) ?_
                    clear hK
                    try simp only [Act.put, List.setIfInBounds_toArray, List.set_cons_succ, List.set_cons_zero]
                    refine order_pure (i := 31) rfl (by kernel_rfl) (fun _ _ _ h => h) (.inl ⟨rfl, fun _ => by go_simp; rfl⟩) ?_
                    try simp only [Act.put, List.setIfInBounds_toArray, List.set_cons_succ, List.set_cons_zero]
                    refine order_pure (i := 32) rfl (by kernel_rfl) (fun _ _ _ h => h) (.inl ⟨rfl, fun _ => by go_simp; rfl⟩) ?_
                    try simp only [Act.put, List.setIfInBounds_toArray, List.set_cons_succ, List.set_cons_zero]
                    refine order_done (by kernel_rfl) ?_
                    have HK8 := hide (HKD.out.trans' HC8.out (fun _ _ => id) (fun _ _ => id))
                    clear HS2 HS9
                    go_wp2_with fail
                    go_roundg (q - (k + 1))
                    case measure => omega
                    case rel => exact ⟨k + 1, by omega, rfl, by go_num, HK8.out⟩
                  · skip
                    obtain ⟨j, hj⟩ : ∃ j, k = j + 1 := ⟨k - 1, by omega⟩
                    obtain ⟨z, hz⟩ : ∃ z, l[j]? = some z := ⟨_, List.getElem?_eq_getElem (by have := HQ.out; omega)⟩
                    have HZ := hide hz
                    have hzy : ¬ y ≤ z := by
                      obtain ⟨h1, e1⟩ := List.getElem?_eq_some_iff.1 hz
                      obtain ⟨h2, e2⟩ := List.getElem?_eq_some_iff.1 HY.out
                      have hr := HI6.out.at'.good.rise p
                      rw [HL.out] at hr
                      have := List.pairwise_iff_getElem.1 hr j k h1 h2 (by omega)
                      rw [e1, e2] at this; omega
                    have hgt : (0 : Int) < (k : Int) := by omega
                    have hgt2 : 0 < k := by omega
                    have HDEC := hide (show decide (y ≤ z) = false from decide_eq_false hzy)
                    have e1 : IntKind.i64.wrap ((k : Int) - 1) = (j : Int) := by rw [show (k : Int) - 1 = j from by omega]; exact IntWalk.i64_in _ (by omega)
                    have hjz : (j : Int) < q := by omega
                    have hj0 : (0 : Int) ≤ j := by omega
                    clear hz hkk hj hzy
                    go_wp2_with fail
                    refine order_begin (fun W => Slab W 3 1 (some ⟨g, o, none⟩) q c3 (l.map (Value.int .i64))) (fun _ => true) (by kernel_rfl) 33 rfl ?_
                    have HS := (HS6.out.fresh HKP.out).fresh (Keeps.refl NoB wr).drew
                    have HC := hide ((HI6.out.fresh HKP.out).fresh (Keeps.refl NoB wr).drew)
                    have HKD := hide HKP.out.drew
                    generalize wr.drew = w7 at *
                    refine order_pure (i := 0) rfl (by kernel_rfl) (fun _ _ _ h => h) (.inl ⟨rfl, fun _ => by go_simp; rfl⟩) ?_
                    try simp only [Act.put, List.setIfInBounds_toArray, List.set_cons_succ, List.set_cons_zero]
                    refine order_pure (i := 1) rfl (by kernel_rfl) (fun _ _ _ h => h) (.inl ⟨rfl, fun _ => by go_simp; rfl⟩) ?_
                    try simp only [Act.put, List.setIfInBounds_toArray, List.set_cons_succ, List.set_cons_zero]
                    refine order_pure (i := 2) rfl (by kernel_rfl) (fun _ _ _ h => h) (.inl ⟨rfl, fun _ => by go_simp; rfl⟩) ?_
                    try simp only [Act.put, List.setIfInBounds_toArray, List.set_cons_succ, List.set_cons_zero]
                    refine order_held (i := 3) rfl (by kernel_rfl) (fun _ _ _ h => h) (.inl ⟨rfl, fun W hW => by
                      have q0 : W.cell? ⟨g, o + k, none⟩ = some (.int .i64 y) := (ints_at' hW.reads HY.out)
                      go_simp; rfl⟩) HS ?_
                    try simp only [Act.put, List.setIfInBounds_toArray, List.set_cons_succ, List.set_cons_zero]
                    refine order_pure (i := 4) rfl (by kernel_rfl) (fun _ _ _ h => h) (.inl ⟨rfl, fun _ => by go_simp; rfl⟩) ?_
                    try simp only [Act.put, List.setIfInBounds_toArray, List.set_cons_succ, List.set_cons_zero]
                    refine order_pure (i := 5) rfl (by kernel_rfl) (fun _ _ _ h => h) (.inl ⟨rfl, fun _ => by go_simp; rfl⟩) ?_
                    try simp only [Act.put, List.setIfInBounds_toArray, List.set_cons_succ, List.set_cons_zero]
                    refine order_pure (i := 6) rfl (by kernel_rfl) (fun _ _ _ h => h) (.inl ⟨rfl, fun _ => by go_simp; rfl⟩) ?_
                    try simp only [Act.put, List.setIfInBounds_toArray, List.set_cons_succ, List.set_cons_zero]
                    refine order_pure (i := 7) rfl (by kernel_rfl) (fun _ _ _ h => h) (.inl ⟨rfl, fun _ => by go_simp; rfl⟩) ?_
                    try simp only [Act.put, List.setIfInBounds_toArray, List.set_cons_succ, List.set_cons_zero]
                    refine order_pure (i := 8) rfl (by kernel_rfl) (fun _ _ _ h => h) (.inl ⟨rfl, fun _ => by go_simp; rfl⟩) ?_
                    try simp only [Act.put, List.setIfInBounds_toArray, List.set_cons_succ, List.set_cons_zero]
                    refine order_pure (i := 9) rfl (by kernel_rfl) (fun _ _ _ h => h) (.inl ⟨rfl, fun _ => by go_simp; rfl⟩) ?_
                    try simp only [Act.put, List.setIfInBounds_toArray, List.set_cons_succ, List.set_cons_zero]
                    refine order_pure (i := 10) rfl (by kernel_rfl) (fun _ _ _ h => h) (.inl ⟨rfl, fun _ => by go_simp; rfl⟩) ?_
                    try simp only [Act.put, List.setIfInBounds_toArray, List.set_cons_succ, List.set_cons_zero]
                    refine order_pure (i := 11) rfl (by kernel_rfl) (fun _ _ _ h => h) (.inl ⟨rfl, fun _ => by go_simp; rfl⟩) ?_
                    try simp only [Act.put, List.setIfInBounds_toArray, List.set_cons_succ, List.set_cons_zero]
                    refine order_pure (i := 12) rfl (by kernel_rfl) (fun _ _ _ h => h) (.inl ⟨rfl, fun _ => by go_simp; rfl⟩) ?_
                    try simp only [Act.put, List.setIfInBounds_toArray, List.set_cons_succ, List.set_cons_zero]
                    refine order_pure (i := 13) rfl (by kernel_rfl) (fun _ _ _ h => h) (.inl ⟨rfl, fun _ => by go_simp; rfl⟩) ?_
                    try simp only [Act.put, List.setIfInBounds_toArray, List.set_cons_succ, List.set_cons_zero]
                    refine order_held (i := 14) rfl (by kernel_rfl) (fun _ _ _ h => h) (.inl ⟨rfl, fun W hW => by
                      have q0 : W.cell? ⟨g, o + j, none⟩ = some (.int .i64 z) := (ints_at' hW.reads HZ.out)
                      go_simp; rfl⟩) HS ?_
                    try simp only [Act.put, List.setIfInBounds_toArray, List.set_cons_succ, List.set_cons_zero]
                    refine order_pure (i := 15) rfl (by kernel_rfl) (fun _ _ _ h => h) (.inl ⟨rfl, fun _ => by go_simp; rfl⟩) ?_
                    try simp only [Act.put, List.setIfInBounds_toArray, List.set_cons_succ, List.set_cons_zero]
                    refine order_pure (i := 16) rfl (by kernel_rfl) (fun _ _ _ h => h) (.inl ⟨rfl, fun _ => by go_simp; rfl⟩) ?_
                    try simp only [Act.put, List.setIfInBounds_toArray, List.set_cons_succ, List.set_cons_zero]
                    refine order_pure (i := 17) rfl (by kernel_rfl) (fun _ _ _ h => h) (.inl ⟨rfl, fun _ => by go_simp; rfl⟩) ?_
                    try simp only [Act.put, List.setIfInBounds_toArray, List.set_cons_succ, List.set_cons_zero]
                    refine order_held (i := 18) rfl (by kernel_rfl) (fun _ _ _ h => h) (.inl ⟨rfl, fun W hW => by
                      have q0 : W.cell? ⟨g, o + k, none⟩ = some (.int .i64 y) := (ints_at' hW.reads HY.out)
                      go_simp; rfl⟩) HS ?_
                    try simp only [Act.put, List.setIfInBounds_toArray, List.set_cons_succ, List.set_cons_zero]
                    have hdec := HDEC.out
                    refine order_pure (i := 19) rfl (by kernel_rfl) (fun _ _ _ h => h) (.inl ⟨rfl, fun _ => by go_simp; rfl⟩) ?_
                    try simp only [Act.put, List.setIfInBounds_toArray, List.set_cons_succ, List.set_cons_zero]
                    clear hdec
                    refine order_pure (i := 20) rfl (by kernel_rfl) (fun _ _ _ h => h) (.inl ⟨rfl, fun _ => by go_simp; rfl⟩) ?_
                    try simp only [Act.put, List.setIfInBounds_toArray, List.set_cons_succ, List.set_cons_zero]
                    refine order_pure (i := 21) rfl (by kernel_rfl) (fun _ _ _ h => h) (.inl ⟨rfl, fun _ => by go_simp; rfl⟩) ?_
                    try simp only [Act.put, List.setIfInBounds_toArray, List.set_cons_succ, List.set_cons_zero]
                    refine order_pure (i := 22) rfl (by kernel_rfl) (fun _ _ _ h => h) (.inl ⟨rfl, fun _ => by go_simp; rfl⟩) ?_
                    try simp only [Act.put, List.setIfInBounds_toArray, List.set_cons_succ, List.set_cons_zero]
                    refine order_pure (i := 23) rfl (by kernel_rfl) (fun _ _ _ h => h) (.inl ⟨rfl, fun _ => by go_simp; rfl⟩) ?_
                    try simp only [Act.put, List.setIfInBounds_toArray, List.set_cons_succ, List.set_cons_zero]
                    refine order_pure (i := 24) rfl (by kernel_rfl) (fun _ _ _ h => h) (.inl ⟨rfl, fun _ => by go_simp; rfl⟩) ?_
                    try simp only [Act.put, List.setIfInBounds_toArray, List.set_cons_succ, List.set_cons_zero]
                    refine order_pure (i := 25) rfl (by kernel_rfl) (fun _ _ _ h => h) (.inl ⟨rfl, fun _ => by go_simp; rfl⟩) ?_
                    try simp only [Act.put, List.setIfInBounds_toArray, List.set_cons_succ, List.set_cons_zero]
                    refine order_pure (i := 26) rfl (by kernel_rfl) (fun _ _ _ h => h) (.inl ⟨rfl, fun _ => by go_simp; rfl⟩) ?_
                    try simp only [Act.put, List.setIfInBounds_toArray, List.set_cons_succ, List.set_cons_zero]
                    refine order_held (i := 27) rfl (by kernel_rfl) (fun _ _ _ h => h) (.inl ⟨rfl, fun W hW => by
                      have q0 : W.cell? ⟨g, o + k, none⟩ = some (.int .i64 y) := (ints_at' hW.reads HY.out)
                      go_simp; rfl⟩) HS ?_
                    try simp only [Act.put, List.setIfInBounds_toArray, List.set_cons_succ, List.set_cons_zero]
                    refine order_pure (i := 29) rfl (by kernel_rfl) (fun _ _ _ h => h) (.inl ⟨rfl, fun _ => by go_simp; rfl⟩) ?_
                    try simp only [Act.put, List.setIfInBounds_toArray, List.set_cons_succ, List.set_cons_zero]
                    refine order_one (i := 28) rfl (by kernel_rfl) (fun K hK => ?_)
                    go_simp
                    refine (of_at w7 w2.heap.size b m1 m2 N' L' M' y HC.out.at' HYO.out (by omega)).mono ?_
                    rintro e w8 ⟨A9, c9, rfl, h9, hk9, _⟩
                    have HS2 := HS.fresh hk9
                    refine hK _ _ (fun _ _ => HS2) ?_
                    have HC8 := hide hk9
                    have HS9 := hide h9
                    clear hK HS hk9 h9
                    try simp only [Act.put, List.setIfInBounds_toArray, List.set_cons_succ, List.set_cons_zero]
                    refine order_one (i := 30) rfl (by kernel_rfl) (fun K hK => ?_)
                    go_simp
                    refine (among_any A9 _ c9 (L' y) p w8 _ _ HS9.out.reads (Nat.le_trans HS9.out.2.1 HS9.out.2.2.1)).mono ?_
                    rintro e w9 ⟨rfl, rfl⟩
                    rw [isIn_iff.2 HYP.out]
                    refine hK _ _ (fun _ _ => HS2) ?_
                    clear hK
                    try simp only [Act.put, List.setIfInBounds_toArray, List.set_cons_succ, List.set_cons_zero]
                    refine order_pure (i := 31) rfl (by kernel_rfl) (fun _ _ _ h => h) (.inl ⟨rfl, fun _ => by go_simp; rfl⟩) ?_
                    try simp only [Act.put, List.setIfInBounds_toArray, List.set_cons_succ, List.set_cons_zero]
                    refine order_pure (i := 32) rfl (by kernel_rfl) (fun _ _ _ h => h) (.inl ⟨rfl, fun _ => by go_simp; rfl⟩) ?_
                    try simp only [Act.put, List.setIfInBounds_toArray, List.set_cons_succ, List.set_cons_zero]
                    refine order_done (by kernel_rfl) ?_
                    have HK8 := hide (HKD.out.trans' HC8.out (fun _ _ => id) (fun _ _ => id))
                    clear HS2 HS9
                    go_wp2_with fail
                    go_roundg (q - (k + 1))
                    case measure => omega
                    case rel => exact ⟨k + 1, by omega, rfl, by go_num, HK8.out⟩
                · obtain rfl : k = q := by omega
                  have hkz : ¬ (k : Int) < k := by omega
                  have HI7 := hide (HI6.out.fresh HKP.out)
                  go_wp2_with fail
                  go_roundg (8 - (p + 1))
                  case measure => omega
                  case rel => exact ⟨p + 1, by omega, rfl, by go_num, HI7.out⟩
            · obtain rfl : p = 8 := by omega
              have hpz : ¬ ((8 : Nat) : Int) < 8 := by omega
              go_wp2_with fail
              go_roundg (m - (i + 1))
              case measure => omega
              case rel => exact ⟨i + 1, by omega, rfl, by go_num, N', L', M', HI.out, hN', hM'⟩
      · obtain rfl : i = m := by omega
        have hiz : ¬ (i : Int) < i := by omega
        go_wp2_with fail
        go_ret
        exact ⟨rfl, HK1.out.trans' HI.out.keep (fun _ _ => id) (fun _ _ => id)⟩
end Go.Proofs.Ytjmljjmnamfljaa
