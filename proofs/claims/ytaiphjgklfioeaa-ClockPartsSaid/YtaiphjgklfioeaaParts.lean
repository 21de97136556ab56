/- pigeonholelaw16: ClockParts. -/
import Derived.Test.YtaiphjgklfioeaaPartsLaw
import Derived.Deep.CutRange
import Derived.Deep.CutBlock
import Derived.Deep.DeepCutAuto
namespace Go.Proofs.Ytaiphjgklfioeaa
open Go.RowKit

def PartsInv (w wx : World) (b d i : Nat) : Prop := ∃ (A : Option Addr) (c : Nat) (D : Option Addr) (f : Nat) (s : St), Two w wx b A c s d D f s ∧ s.now = 0 ∧ s.L.length ≤ i
theorem parts_start {w wc : World} (h : Keeps NoB w wc) : PartsInv w ((wc.alloc (.cells #[.int .i64 0, .bool true, .slice none 0 0] 47)).alloc (.cells #[.int .i64 0, .bool true, .slice none 0 0] 47)) wc.heap.size (wc.heap.size + 1) 0 := by
  have r1 := Run.new w wc h
  have r2 := Run.new w (wc.alloc (.cells #[.int .i64 0, .bool true, .slice none 0 0] 47)) (h.alloc _)
  have e : (wc.alloc (.cells #[.int .i64 0, .bool true, .slice none 0 0] 47)).heap.size = wc.heap.size + 1 := by simp
  rw [e] at r2
  exact ⟨none, 0, none, 0, ⟨0, []⟩, ⟨r1.fresh ((Keeps.refl NoB _).alloc _), r2, by omega, fun k ⟨o, h⟩ => by cases h⟩, rfl, Nat.le_refl _⟩

set_option maxRecDepth 100000 in
set_option maxHeartbeats 4000000 in
theorem clock_parts (A : Option Addr) (n c : Nat) (hnc : n ≤ c) (D : List Do) (a b : Int) (w : World) (h : DosAt w A n D) : Calls Try.prog 3 #[.slice A n c, .int .i64 a, .int .i64 b] w fun e w' => e = .returned (.bool true) ∧ Keeps NoB w w' := by
  obtain ⟨i0, hi0, hz0, hz1, hz2⟩ := info_parts Try.info3
  have H := hide h; clear h
  go_enter Try.func3, Try.ntmps3
  go_upto_if 21 with
    first
    | (go_at_call 8
       refine (awake_any _).mono ?_
       rintro e w2 ⟨rfl, hk⟩
       have HK1 := hide hk
       clear hk)
    | fail
  go_cut [0] (fun s0 wx => wx = w2 ∧ ∃ m : Nat, m ≤ 30 ∧ m ≤ n ∧ s0 = .slice A m c)
  case first =>
    by_cases h80 : n ≤ 30
    · have hz : (n : Int) ≤ 30 := by omega
      go_wp2_with fail
      go_meet
      exact ⟨rfl, n, h80, Nat.le_refl _, rfl⟩
    · have hz : (30 : Int) < n := by omega
      have hzc : (30 : Int) ≤ c := by omega
      go_wp2_with fail
      go_meet
      exact ⟨rfl, 30, Nat.le_refl _, by omega, rfl⟩
  case rest =>
    obtain ⟨rfl, m, hm30, hmn, rfl⟩ := hcut
    go_wp2_with
      first
      | (go_at_call 9
         refine (new_any _).mono ?_
         rintro e w' ⟨rfl, rfl⟩)
      | fail
    have HI := hide (parts_start HK1.out)
    have HD := hide (H.out.upto hmn)
    clear HK1
    generalize (wc.alloc (.cells #[.int .i64 0, .bool true, .slice none 0 0] 47)).alloc (.cells #[.int .i64 0, .bool true, .slice none 0 0] 47) = w3 at *
    generalize wc.heap.size = cb at *
    clear wc
    go_loopg [9, 10] m (fun g s9 _ wx => ∃ i : Nat, i ≤ m ∧ g = m - i ∧ s9 = .int .i64 i ∧ PartsInv w wx cb (cb + 1) i)
    case atStart => exact ⟨0, Nat.zero_le _, rfl, rfl, HI.out⟩
    case round =>
      clear HI
      obtain ⟨i, him, rfl, rfl, C1, n1, C2, n2, s, htwo, hnow, hlen⟩ := hrel
      have HT := hide htwo; have HN := hide hnow
      clear htwo hnow
      by_cases hi : i < m
      · obtain ⟨x, hx⟩ : ∃ x, (D.take m)[i]? = some x := ⟨_, List.getElem?_eq_getElem (by rw [HD.out.1]; exact hi)⟩
        obtain ⟨ab, ao, hA, _, d1, d2⟩ := (HD.out.keep HT.out.one.keep).2 i x hx
        subst hA
        obtain ⟨op, pid, nn⟩ := x
        simp only at d1 d2
        have hi1 : (i : Int) < (m : Int) := by omega
        have hi0 : (0 : Int) ≤ (i : Int) := by omega
        have D1 := hide (show w.cell? ⟨ab, ao + i * 3 + 1, none⟩ = some (.int .i64 pid) from by
          obtain ⟨b2, o2, e2, _, d3, _⟩ := HD.out.2 i _ hx
          injection e2 with e2; injection e2 with e2 e3; subst e2 e3; exact d3)
        clear hx
        go_wp2_with
          first
          | (go_at_call 10
             refine (pick_any nn 200 (by omega) (by omega) _).mono ?_
             rintro e w' ⟨rfl, rfl⟩)
          | fail
        have hr0 : 0 ≤ nn % 200 := Int.emod_nonneg _ (by omega)
        have hr5 : nn % 200 < 200 := Int.emod_lt_of_pos _ (by omega)
        generalize nn % 200 = q at *
        obtain ⟨s', hs'⟩ : ∃ s', s.set pid q = s' := ⟨_, rfl⟩
        obtain ⟨r, hr⟩ : ∃ r, s.setOk pid q = r := ⟨_, rfl⟩
        have HS' := hide hs'; have HR := hide hr
        have hlen' : s'.L.length ≤ i + 1 := by rw [← hs']; have := s.set_len pid q; omega
        have hnow' : s'.now = 0 := by
          rw [← hs', ← HN.out]; unfold St.set; split <;> rfl
        have HN' := hide hnow'
        clear hs' hr hnow' d1 d2
        refine order_begin (fun W => Keeps NoB w W) (fun j => !(j == 15)) (by kernel_rfl) 17 rfl ?_
        have HSd : Keeps NoB w wr.drew := HT.out.one.keep.drew
        refine order_pure (i := 0) rfl (by kernel_rfl) (fun _ _ _ h => h) (.inl ⟨rfl, fun _ => by go_simp; rfl⟩) ?_
        try simp only [Act.put, List.setIfInBounds_toArray, List.set_cons_succ, List.set_cons_zero]
        refine order_pure (i := 1) rfl (by kernel_rfl) (fun _ _ _ h => h) (.inl ⟨rfl, fun _ => by go_simp; rfl⟩) ?_
        try simp only [Act.put, List.setIfInBounds_toArray, List.set_cons_succ, List.set_cons_zero]
        refine order_pure (i := 2) rfl (by kernel_rfl) (fun _ _ _ h => h) (.inl ⟨rfl, fun _ => by go_simp; rfl⟩) ?_
        try simp only [Act.put, List.setIfInBounds_toArray, List.set_cons_succ, List.set_cons_zero]
        refine order_pure (i := 3) rfl (by kernel_rfl) (fun _ _ _ h => h) (.inl ⟨rfl, fun _ => by go_simp; rfl⟩) ?_
        try simp only [Act.put, List.setIfInBounds_toArray, List.set_cons_succ, List.set_cons_zero]
        refine order_pure (i := 4) rfl (by kernel_rfl) (fun _ _ _ h => h) (.inl ⟨rfl, fun _ => by go_simp; rfl⟩) ?_
        try simp only [Act.put, List.setIfInBounds_toArray, List.set_cons_succ, List.set_cons_zero]
        have HS := HSd
        refine order_held (i := 5) rfl (by kernel_rfl) (fun _ _ _ h => h) (.inl ⟨rfl, fun W hW => by
          have q0 : W.cell? ⟨ab, ao + i * 3 + 1, none⟩ = some (.int .i64 pid) := hW.cell id D1.out
          go_simp; rfl⟩) HS ?_
        try simp only [Act.put, List.setIfInBounds_toArray, List.set_cons_succ, List.set_cons_zero]
        refine order_pure (i := 6) rfl (by kernel_rfl) (fun _ _ _ h => h) (.inl ⟨rfl, fun _ => by go_simp; rfl⟩) ?_
        try simp only [Act.put, List.setIfInBounds_toArray, List.set_cons_succ, List.set_cons_zero]
        refine order_pure (i := 8) rfl (by kernel_rfl) (fun _ _ _ h => h) (.inl ⟨rfl, fun _ => by go_simp; rfl⟩) ?_
        try simp only [Act.put, List.setIfInBounds_toArray, List.set_cons_succ, List.set_cons_zero]
        refine order_pure (i := 9) rfl (by kernel_rfl) (fun _ _ _ h => h) (.inl ⟨rfl, fun _ => by go_simp; rfl⟩) ?_
        try simp only [Act.put, List.setIfInBounds_toArray, List.set_cons_succ, List.set_cons_zero]
        refine order_pure (i := 10) rfl (by kernel_rfl) (fun _ _ _ h => h) (.inl ⟨rfl, fun _ => by go_simp; rfl⟩) ?_
        try simp only [Act.put, List.setIfInBounds_toArray, List.set_cons_succ, List.set_cons_zero]
        refine order_pure (i := 11) rfl (by kernel_rfl) (fun _ _ _ h => h) (.inl ⟨rfl, fun _ => by go_simp; rfl⟩) ?_
        try simp only [Act.put, List.setIfInBounds_toArray, List.set_cons_succ, List.set_cons_zero]
        refine order_pure (i := 12) rfl (by kernel_rfl) (fun _ _ _ h => h) (.inl ⟨rfl, fun _ => by go_simp; rfl⟩) ?_
        try simp only [Act.put, List.setIfInBounds_toArray, List.set_cons_succ, List.set_cons_zero]
        refine order_held (i := 13) rfl (by kernel_rfl) (fun _ _ _ h => h) (.inl ⟨rfl, fun W hW => by
          have q0 : W.cell? ⟨ab, ao + i * 3 + 1, none⟩ = some (.int .i64 pid) := hW.cell id D1.out
          go_simp; rfl⟩) HS ?_
        try simp only [Act.put, List.setIfInBounds_toArray, List.set_cons_succ, List.set_cons_zero]
        refine order_pure (i := 14) rfl (by kernel_rfl) (fun _ _ _ h => h) (.inl ⟨rfl, fun _ => by go_simp; rfl⟩) ?_
        try simp only [Act.put, List.setIfInBounds_toArray, List.set_cons_succ, List.set_cons_zero]
        have HT1 := hide (HT.out.fresh ((Keeps.refl NoB wr).drew))
        clear HS HSd
        refine order_one (i := 7) rfl (by kernel_rfl) (fun K hK => ?_)
        go_simp
        refine (set_to cb _ C1 s s' r pid q _ HT1.out.one.at' (by omega) HR.out HS'.out).mono ?_
        rintro e w4 ⟨C1', n1', rfl, h1, h2, h3⟩
        have HT2 := hide (HT1.out.turn h1 h2 h3)
        refine hK _ _ (fun _ _ => HT2.out.one.keep) ?_
        clear hK
        clear h1 h2 h3 HT1
        try simp only [Act.put, List.setIfInBounds_toArray, List.set_cons_succ, List.set_cons_zero]
        refine order_one (i := 15) rfl (by kernel_rfl) (fun K hK => ?_)
        go_simp
        refine (set_to (cb + 1) _ C2 s s' r pid q _ HT2.out.other.at' (by omega) HR.out HS'.out).mono ?_
        rintro e w5 ⟨C2', n2', rfl, h1, h2, h3⟩
        refine hK _ _ (fun h => absurd h (by decide)) ?_
        clear hK
        have HT3 := hide (HT2.out.swap.turn h1 h2 h3).swap
        clear h1 h2 h3 HT2
        try simp only [Act.put, List.setIfInBounds_toArray, List.set_cons_succ, List.set_cons_zero]
        have hrr : (r != r) = false := by simp
        refine order_pure (i := 16) rfl (by kernel_rfl) (fun _ _ _ h => h) (.inl ⟨rfl, fun _ => by go_simp; rfl⟩) ?_
        try simp only [Act.put, List.setIfInBounds_toArray, List.set_cons_succ, List.set_cons_zero]
        refine order_done (by kernel_rfl) ?_
        go_wp2_with fail
        go_roundg (m - (i + 1))
        case measure => omega
        case rel => exact ⟨i + 1, by omega, rfl, by go_num, C1', n1', C2', n2', s', HT3.out, HN'.out, hlen'⟩
      · have hi1 : ¬ (i : Int) < (m : Int) := by omega
        go_wp2_with
          first
          | (go_at_call 10
             refine (pick_any _ 150 (by omega) (by omega) _).mono ?_
             rintro e w' ⟨rfl, rfl⟩)
          | fail
        have ha0 : 0 ≤ a % 150 := Int.emod_nonneg _ (by omega)
        have ha1 : a % 150 < 150 := Int.emod_lt_of_pos _ (by omega)
        have hb0 : 0 ≤ b % 150 := Int.emod_nonneg _ (by omega)
        have hb1 : b % 150 < 150 := Int.emod_lt_of_pos _ (by omega)
        generalize a % 150 = a' at *
        generalize b % 150 = b' at *
        have TP := hide (tick_parts s HN.out a' b' ha0 hb0 (by omega) (by omega))
        have hl1 : (s.tick a').L.length ≤ 30 := by have := s.tick_len a'; omega
        have LX := hide (show (s.told a').length ≤ 30 from by have := s.told_len a'; omega)
        have LY := hide (show ((s.tick a').told b').length ≤ 30 from by have := (s.tick a').told_len b'; omega)
        have HL1 := hide hl1
        clear hl1
        obtain ⟨s1, hs1⟩ : ∃ s1, s.tick a' = s1 := ⟨_, rfl⟩
        obtain ⟨s2, hs2⟩ : ∃ s2, s1.tick b' = s2 := ⟨_, rfl⟩
        obtain ⟨xs, hxs⟩ : ∃ xs, s.told a' = xs := ⟨_, rfl⟩
        obtain ⟨ys, hys⟩ : ∃ ys, s1.told b' = ys := ⟨_, rfl⟩
        obtain ⟨zs, hzs⟩ : ∃ zs, s.told (a' + b') = zs := ⟨_, rfl⟩
        have S1 := hide hs1; have S2 := hide hs2; have XS := hide hxs; have YS := hide hys; have ZS := hide hzs
        have TP := hide (show s.tickOk a' = true ∧ s1.tickOk b' = true ∧ s.tickOk (a' + b') = true ∧ xs ++ ys = zs ∧ s.tick (a' + b') = s2 from by
          have h := TP.out
          rw [hs1, hs2, hxs, hys, hzs] at h
          exact ⟨h.1, h.2.1, h.2.2.1, h.2.2.2.1, h.2.2.2.2.symm⟩)
        have LX := hide (show xs.length ≤ 30 from hxs ▸ LX.out)
        have LY := hide (show ys.length ≤ 30 from by have h := LY.out; rw [hs1, hys] at h; exact h)
        have HL1 := hide (show s1.L.length ≤ 30 from hs1 ▸ HL1.out)
        clear hs1 hs2 hxs hys hzs
        refine (tick_to cb _ C1 s s1 xs xs.length true a' _ HT.out.one.at' (by omega) TP.out.1 S1.out XS.out rfl).mono ?_
        rintro e w4 ⟨C3, n3, X, xc, rfl, h1, h2, h3, hx, hxf⟩
        have HT4 := hide (HT.out.turn h1 h2 h3)
        have HX := hide hx
        have HXF := hide (show ∀ j, rowB X j → w.heap.size ≤ j from fun j hj => Nat.le_trans HT.out.one.keep.size (hxf j hj))
        clear h1 h2 h3 hx hxf
        go_wp2_with fail
        refine (tick_to cb _ C3 s1 s2 ys ys.length true b' _ HT4.out.one.at' (by have := HL1.out; omega) TP.out.2.1 S2.out YS.out rfl).mono ?_
        rintro e w5 ⟨C4, n4, Y, yc, rfl, h1, h2, h3, hy, hyf⟩
        have HT5 := hide (HT4.out.turn h1 h2 h3)
        have HX := hide (HT4.out.one.at'.leaves HX.out h2)
        have HY := hide hy
        clear h1 h2 h3 hy hyf HT4
        go_wp2_with fail
        refine (tick_to (cb + 1) _ C2 s s2 zs zs.length true (a' + b') _ HT5.out.other.at' (by omega) TP.out.2.2.1 TP.out.2.2.2.2 ZS.out rfl).mono ?_
        rintro e w6 ⟨C5, n5, Z, zc, rfl, h1, h2, h3, hz, hzf⟩
        have HXZ := hide (show ∀ j, rowB Z j → ¬ rowB X j from fun j hj hj2 => by have := hzf j hj; have := HX.out.lt hj2; omega)
        have HT6 := hide (HT5.out.swap.turn h1 h2 h3).swap
        have HX := hide (HT5.out.other.at'.leaves HX.out h2)
        have HY := hide (HT5.out.other.at'.leaves HY.out h2)
        have HZ := hide hz
        have HBB := hide (show xs.length + ys.length ≤ maxLen ∧ (xs.length + ys.length) * 8 ≤ 140737488355328 from by have := LX.out; have := LY.out; unfold maxLen; omega)
        clear h1 h2 h3 hz hzf HT5
        generalize hkx : xs.length = kx at *
        generalize hky : ys.length = ky at *
        generalize hkz : zs.length = kz at *
        have KX := hide hkx; have KY := hide hky; have KZ := hide hkz
        clear hkx hky hkz
        obtain ⟨xv, hxv⟩ : ∃ xv, ints xs = xv := ⟨_, rfl⟩
        obtain ⟨yv, hyv⟩ : ∃ yv, ints ys = yv := ⟨_, rfl⟩
        have HX := hide (show Slab w6 3 1 X kx xc xv from hxv ▸ HX.out)
        have HY := hide (show Slab w6 3 1 Y ky yc yv from hyv ▸ HY.out)
        have HYO := hide (show ∀ u ∈ yv, u.oneCell' = true from hyv ▸ ints_ones)
        have HXV := hide hxv; have HYV := hide hyv
        clear hxv hyv
        go_wp2_with (at_builtin; go_loud (refine wpList_append_any _ rfl (.tmp 79) (.tmp 80) 30 rfl 3 i0 _ 1 8 Try.underlying30 hi0 hz0 hz1 hz2 rfl (by omega) X kx xc xv rfl HX.out _ _ Y ky yc yv rfl HY.out.reads HYO.out HBB.out.1 HBB.out.2 ?_))
        intro V vc w7 h1 h2 h3
        have HV := hide (show Slab w7 3 1 V (kx + ky) vc (ints zs) from by
          have h := h1
          rw [← HXV.out, ← HYV.out, ← List.map_append, TP.out.2.2.2.1] at h
          exact h)
        have HT7 := hide (HT6.out.ints HX.out h2 HXF.out)
        have HZ7 := hide (HZ.out.keep h2 (fun j hj => HXZ.out j hj))
        clear h1 h2 h3 HT6 HX HY HZ
        have HRM := hide (show Roomy (kx + ky) 8 from HBB.out.2)
        go_wp2_with fail
        refine (same_yes V Z (kx + ky) vc kz zc zs w7 _ _ _ _ HV.out.reads HZ7.out.reads HRM.out).mono ?_
        rintro e w8 ⟨rfl, hk⟩
        have HT8 := hide (HT7.out.fresh hk)
        clear hk HT7 HV HZ7
        go_wp2_with fail
        refine (waits_any cb n4 C4 s2 w8 HT8.out.one.at' (by have := s1.tick_len b'; rw [S2.out] at this; have := HL1.out; omega)).mono ?_
        rintro e w9 ⟨U, uc, rfl, hk, hu, _⟩
        have HT9 := hide (HT8.out.fresh hk)
        have HU := hide hu
        clear hk hu HT8
        go_wp2_with fail
        refine (waits_any (cb + 1) n5 C5 s2 w9 HT9.out.other.at' (by have := s1.tick_len b'; rw [S2.out] at this; have := HL1.out; omega)).mono ?_
        rintro e w10 ⟨U2, uc2, rfl, hk, hu, _⟩
        have HT10 := hide (HT9.out.fresh hk)
        have HU := hide (HU.out.fresh hk)
        have HU2 := hide hu
        clear hk hu HT9
        go_wp2_with fail
        refine (same_yes U U2 _ uc _ uc2 (pidsOf s2.L) w10 _ _ _ _ (by have h := HU.out.reads; rw [List.length_map] at h; exact h) (by have h := HU2.out.reads; rw [List.length_map] at h; exact h) (Roomy.small (by have := s1.tick_len b'; rw [S2.out] at this; have := HL1.out; omega) (by omega))).mono ?_
        rintro e w11 ⟨rfl, hk⟩
        have HT11 := hide (HT10.out.fresh hk)
        clear hk HT10 HU HU2
        go_wp2_with fail
        go_ret
        exact ⟨rfl, HT11.out.one.keep⟩
end Go.Proofs.Ytaiphjgklfioeaa
