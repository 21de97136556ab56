/- pigeonholelaw16: ClockNumbers. -/
import Derived.Test.YtaiphjgklfioeaaNumLaw
namespace Go.Proofs.Ytaiphjgklfioeaa
open Go.RowKit

set_option maxRecDepth 100000 in
set_option maxHeartbeats 8000000 in
theorem clock_numbers (w : World) : Calls Try.prog 6 #[] w fun e w' => e = .returned (.bool true) ∧ Keeps NoB w w' := by
  go_enter Try.func6, Try.ntmps6
  go_wp2_with fail
  have HE := hide (show Blk (w.alloc (.cells (ints endsL).toArray 3)) w.heap.size 3 (ints endsL).toArray from Blk.new w 3 _)
  have HK := hide ((Keeps.refl NoB w).alloc (.cells (ints endsL).toArray 3))
  simp only [ints, endsL, List.map_cons, List.map_nil] at HE HK
  generalize w.alloc _ = w1 at *
  generalize w.heap.size = eb at *
  go_loopg [2] 9 (fun g s2 wx => ∃ i : Nat, i ≤ 9 ∧ g = 9 - i ∧ s2 = .int .i64 i ∧ Keeps NoB w1 wx)
  case atStart => exact ⟨0, Nat.zero_le _, rfl, rfl, Keeps.refl _ _⟩
  case round =>
    obtain ⟨i, hi9, rfl, rfl, hk⟩ := hrel
    have HKX := hide hk
    clear hk
    by_cases hi : i < 9
    · have hi1 : (i : Int) < 9 := by omega
      have hi0 : (0 : Int) ≤ i := by omega
      obtain ⟨x, hx⟩ : ∃ x, endsL[i]? = some x := ⟨_, List.getElem?_eq_getElem (show i < endsL.length from hi)⟩
      have cx := hide (show w1.cell? ⟨eb, i, none⟩ = some (.int .i64 x) by rw [HE.out.cell i]; show (ints endsL).toArray[i]? = _; rw [List.getElem?_toArray, List.getElem?_map, hx]; rfl)
      clear hx
      go_wp2_with fail
      go_loopg [3] 9 (fun g s3 wx => ∃ k : Nat, k ≤ 9 ∧ g = 9 - k ∧ s3 = .int .i64 k ∧ Keeps NoB w1 wx)
      case atStart => exact ⟨0, Nat.zero_le _, rfl, rfl, HKX.out⟩
      case round =>
        clear HKX
        obtain ⟨k, hk9, rfl, rfl, hk⟩ := hrel
        have HKX := hide hk
        clear hk
        by_cases hk : k < 9
        · have hk1 : (k : Int) < 9 := by omega
          have hk0 : (0 : Int) ≤ k := by omega
          obtain ⟨y, hy⟩ : ∃ y, endsL[k]? = some y := ⟨_, List.getElem?_eq_getElem (show k < endsL.length from hk)⟩
          have cy := hide (show w1.cell? ⟨eb, k, none⟩ = some (.int .i64 y) by rw [HE.out.cell k]; show (ints endsL).toArray[k]? = _; rw [List.getElem?_toArray, List.getElem?_map, hy]; rfl)
          clear hy
          go_wp2_with fail
          refine order_begin (fun W => Keeps NoB w1 W) (fun _ => true) (by kernel_rfl) 35 rfl ?_
          have HS : Keeps NoB w1 wr.drew := HKX.out.drew
          refine order_pure (i := 0) rfl (by kernel_rfl) (fun _ _ _ h => h) (.inl ⟨rfl, fun _ => by go_simp; rfl⟩) ?_
          try simp only [Act.put, List.setIfInBounds_toArray, List.set_cons_succ, List.set_cons_zero]
          refine order_pure (i := 1) rfl (by kernel_rfl) (fun _ _ _ h => h) (.inl ⟨rfl, fun _ => by go_simp; rfl⟩) ?_
          try simp only [Act.put, List.setIfInBounds_toArray, List.set_cons_succ, List.set_cons_zero]
          refine order_pure (i := 2) rfl (by kernel_rfl) (fun _ _ _ h => h) (.inl ⟨rfl, fun _ => by go_simp; rfl⟩) ?_
          try simp only [Act.put, List.setIfInBounds_toArray, List.set_cons_succ, List.set_cons_zero]
          refine order_held (i := 3) rfl (by kernel_rfl) (fun _ _ _ h => h) (.inl ⟨rfl, fun W hW => by
            have q0 : W.cell? ⟨eb, i, none⟩ = some (.int .i64 x) := hW.cell id cx.out
            go_simp; rfl⟩) HS ?_
          try simp only [Act.put, List.setIfInBounds_toArray, List.set_cons_succ, List.set_cons_zero]
          refine order_pure (i := 4) rfl (by kernel_rfl) (fun _ _ _ h => h) (.inl ⟨rfl, fun _ => by go_simp; rfl⟩) ?_
          try simp only [Act.put, List.setIfInBounds_toArray, List.set_cons_succ, List.set_cons_zero]
          refine order_pure (i := 5) rfl (by kernel_rfl) (fun _ _ _ h => h) (.inl ⟨rfl, fun _ => by go_simp; rfl⟩) ?_
          try simp only [Act.put, List.setIfInBounds_toArray, List.set_cons_succ, List.set_cons_zero]
          refine order_pure (i := 6) rfl (by kernel_rfl) (fun _ _ _ h => h) (.inl ⟨rfl, fun _ => by go_simp; rfl⟩) ?_
          try simp only [Act.put, List.setIfInBounds_toArray, List.set_cons_succ, List.set_cons_zero]
          refine order_pure (i := 7) rfl (by kernel_rfl) (fun _ _ _ h => h) (.inl ⟨rfl, fun _ => by go_simp; rfl⟩) ?_
          try simp only [Act.put, List.setIfInBounds_toArray, List.set_cons_succ, List.set_cons_zero]
          refine order_held (i := 8) rfl (by kernel_rfl) (fun _ _ _ h => h) (.inl ⟨rfl, fun W hW => by
            have q0 : W.cell? ⟨eb, k, none⟩ = some (.int .i64 y) := hW.cell id cy.out
            go_simp; rfl⟩) HS ?_
          try simp only [Act.put, List.setIfInBounds_toArray, List.set_cons_succ, List.set_cons_zero]
          refine order_pure (i := 9) rfl (by kernel_rfl) (fun _ _ _ h => h) (.inl ⟨rfl, fun _ => by go_simp; rfl⟩) ?_
          try simp only [Act.put, List.setIfInBounds_toArray, List.set_cons_succ, List.set_cons_zero]
          refine order_pure (i := 10) rfl (by kernel_rfl) (fun _ _ _ h => h) (.inl ⟨rfl, fun _ => by go_simp; rfl⟩) ?_
          try simp only [Act.put, List.setIfInBounds_toArray, List.set_cons_succ, List.set_cons_zero]
          refine order_pure (i := 11) rfl (by kernel_rfl) (fun _ _ _ h => h) (.inl ⟨rfl, fun _ => by go_simp; rfl⟩) ?_
          try simp only [Act.put, List.setIfInBounds_toArray, List.set_cons_succ, List.set_cons_zero]
          refine order_pure (i := 12) rfl (by kernel_rfl) (fun _ _ _ h => h) (.inl ⟨rfl, fun _ => by go_simp; rfl⟩) ?_
          try simp only [Act.put, List.setIfInBounds_toArray, List.set_cons_succ, List.set_cons_zero]
          refine order_held (i := 13) rfl (by kernel_rfl) (fun _ _ _ h => h) (.inl ⟨rfl, fun W hW => by
            have q0 : W.cell? ⟨eb, k, none⟩ = some (.int .i64 y) := hW.cell id cy.out
            go_simp; rfl⟩) HS ?_
          try simp only [Act.put, List.setIfInBounds_toArray, List.set_cons_succ, List.set_cons_zero]
          refine order_pure (i := 14) rfl (by kernel_rfl) (fun _ _ _ h => h) (.inl ⟨rfl, fun _ => by go_simp; rfl⟩) ?_
          try simp only [Act.put, List.setIfInBounds_toArray, List.set_cons_succ, List.set_cons_zero]
          refine order_pure (i := 15) rfl (by kernel_rfl) (fun _ _ _ h => h) (.inl ⟨rfl, fun _ => by go_simp; rfl⟩) ?_
          try simp only [Act.put, List.setIfInBounds_toArray, List.set_cons_succ, List.set_cons_zero]
          refine order_pure (i := 16) rfl (by kernel_rfl) (fun _ _ _ h => h) (.inl ⟨rfl, fun _ => by go_simp; rfl⟩) ?_
          try simp only [Act.put, List.setIfInBounds_toArray, List.set_cons_succ, List.set_cons_zero]
          refine order_held (i := 17) rfl (by kernel_rfl) (fun _ _ _ h => h) (.inl ⟨rfl, fun W hW => by
            have q0 : W.cell? ⟨eb, k, none⟩ = some (.int .i64 y) := hW.cell id cy.out
            go_simp; rfl⟩) HS ?_
          try simp only [Act.put, List.setIfInBounds_toArray, List.set_cons_succ, List.set_cons_zero]
          refine order_pure (i := 18) rfl (by kernel_rfl) (fun _ _ _ h => h) (.inl ⟨rfl, fun _ => by go_simp; rfl⟩) ?_
          try simp only [Act.put, List.setIfInBounds_toArray, List.set_cons_succ, List.set_cons_zero]
          refine order_pure (i := 19) rfl (by kernel_rfl) (fun _ _ _ h => h) (.inl ⟨rfl, fun _ => by go_simp; rfl⟩) ?_
          try simp only [Act.put, List.setIfInBounds_toArray, List.set_cons_succ, List.set_cons_zero]
          refine order_pure (i := 20) rfl (by kernel_rfl) (fun _ _ _ h => h) (.inl ⟨rfl, fun _ => by go_simp; rfl⟩) ?_
          try simp only [Act.put, List.setIfInBounds_toArray, List.set_cons_succ, List.set_cons_zero]
          refine order_pure (i := 21) rfl (by kernel_rfl) (fun _ _ _ h => h) (.inl ⟨rfl, fun _ => by go_simp; rfl⟩) ?_
          try simp only [Act.put, List.setIfInBounds_toArray, List.set_cons_succ, List.set_cons_zero]
          refine order_held (i := 22) rfl (by kernel_rfl) (fun _ _ _ h => h) (.inl ⟨rfl, fun W hW => by
            have q0 : W.cell? ⟨eb, i, none⟩ = some (.int .i64 x) := hW.cell id cx.out
            go_simp; rfl⟩) HS ?_
          try simp only [Act.put, List.setIfInBounds_toArray, List.set_cons_succ, List.set_cons_zero]
          refine order_pure (i := 23) rfl (by kernel_rfl) (fun _ _ _ h => h) (.inl ⟨rfl, fun _ => by go_simp; rfl⟩) ?_
          try simp only [Act.put, List.setIfInBounds_toArray, List.set_cons_succ, List.set_cons_zero]
          refine order_pure (i := 24) rfl (by kernel_rfl) (fun _ _ _ h => h) (.inl ⟨rfl, fun _ => by go_simp; rfl⟩) ?_
          try simp only [Act.put, List.setIfInBounds_toArray, List.set_cons_succ, List.set_cons_zero]
          refine order_pure (i := 25) rfl (by kernel_rfl) (fun _ _ _ h => h) (.inl ⟨rfl, fun _ => by go_simp; rfl⟩) ?_
          try simp only [Act.put, List.setIfInBounds_toArray, List.set_cons_succ, List.set_cons_zero]
          refine order_pure (i := 26) rfl (by kernel_rfl) (fun _ _ _ h => h) (.inl ⟨rfl, fun _ => by go_simp; rfl⟩) ?_
          try simp only [Act.put, List.setIfInBounds_toArray, List.set_cons_succ, List.set_cons_zero]
          refine order_pure (i := 27) rfl (by kernel_rfl) (fun _ _ _ h => h) (.inl ⟨rfl, fun _ => by go_simp; rfl⟩) ?_
          try simp only [Act.put, List.setIfInBounds_toArray, List.set_cons_succ, List.set_cons_zero]
          refine order_pure (i := 28) rfl (by kernel_rfl) (fun _ _ _ h => h) (.inl ⟨rfl, fun _ => by go_simp; rfl⟩) ?_
          try simp only [Act.put, List.setIfInBounds_toArray, List.set_cons_succ, List.set_cons_zero]
          refine order_pure (i := 29) rfl (by kernel_rfl) (fun _ _ _ h => h) (.inl ⟨rfl, fun _ => by go_simp; rfl⟩) ?_
          try simp only [Act.put, List.setIfInBounds_toArray, List.set_cons_succ, List.set_cons_zero]
          refine order_held (i := 30) rfl (by kernel_rfl) (fun _ _ _ h => h) (.inl ⟨rfl, fun W hW => by
            have q0 : W.cell? ⟨eb, k, none⟩ = some (.int .i64 y) := hW.cell id cy.out
            go_simp; rfl⟩) HS ?_
          try simp only [Act.put, List.setIfInBounds_toArray, List.set_cons_succ, List.set_cons_zero]
          refine order_pure (i := 31) rfl (by kernel_rfl) (fun _ _ _ h => h) (.inl ⟨rfl, fun _ => by go_simp; rfl⟩) ?_
          try simp only [Act.put, List.setIfInBounds_toArray, List.set_cons_succ, List.set_cons_zero]
          refine order_one (i := 32) rfl (by kernel_rfl) (fun K hK => ?_)
          go_simp
          have HB := hide ((Blk.new wr 28 #[.int .i64 6, .int .i64 1, .int .i64 x, .int .i64 0, .int .i64 0, .int .i64 y, .int .i64 6, .int .i64 y, .int .i64 y, .int .i64 0, .int .i64 0, .int .i64 x, .int .i64 6, .int .i64 2, .int .i64 0, .int .i64 0, .int .i64 0, .int .i64 0, .int .i64 0, .int .i64 0, .int .i64 1, .int .i64 2, .int .i64 y, .int .i64 0]).keep (Keeps.refl NoB _).drew id)
          have HK2 := hide (HKX.out.alloc (.cells #[.int .i64 6, .int .i64 1, .int .i64 x, .int .i64 0, .int .i64 0, .int .i64 y, .int .i64 6, .int .i64 y, .int .i64 y, .int .i64 0, .int .i64 0, .int .i64 x, .int .i64 6, .int .i64 2, .int .i64 0, .int .i64 0, .int .i64 0, .int .i64 0, .int .i64 0, .int .i64 0, .int .i64 1, .int .i64 2, .int .i64 y, .int .i64 0] 28)).drew
          generalize wr.heap.size = gb at *
          generalize (wr.alloc _).drew = w2 at *
          refine hK _ _ (fun _ _ => HK2.out) ?_
          clear hK HS
          try simp only [Act.put, List.setIfInBounds_toArray, List.set_cons_succ, List.set_cons_zero]
          refine order_one (i := 33) rfl (by kernel_rfl) (fun K hK => ?_)
          go_simp
          refine (clock_lives _ 8 8 (Nat.le_refl _) (eight x y) w2 (dos_eight HB.out)).mono ?_
          rintro e w3 ⟨rfl, hk3⟩
          have HK3 := hide (HK2.out.trans' hk3 (fun _ _ => id) (fun _ _ => id))
          refine hK _ _ (fun _ _ => HK3.out) ?_
          clear hK hk3 HB HK2
          try simp only [Act.put, List.setIfInBounds_toArray, List.set_cons_succ, List.set_cons_zero]
          refine order_pure (i := 34) rfl (by kernel_rfl) (fun _ _ _ h => h) (.inl ⟨rfl, fun _ => by go_simp; rfl⟩) ?_
          try simp only [Act.put, List.setIfInBounds_toArray, List.set_cons_succ, List.set_cons_zero]
          refine order_done (by kernel_rfl) ?_
          go_wp2_with fail
          go_roundg (9 - (k + 1))
          case measure => omega
          case rel => exact ⟨k + 1, by omega, rfl, by go_num, HK3.out⟩
        · have hk1 : ¬ (k : Int) < 9 := by omega
          go_wp2_with fail
          go_roundg (9 - (i + 1))
          case measure => omega
          case rel => exact ⟨i + 1, by omega, rfl, by go_num, HKX.out⟩
    · have hi1 : ¬ (i : Int) < 9 := by omega
      go_wp2_with
        first
        | (go_at_call 9
           refine (new_any _).mono ?_
           rintro e w' ⟨rfl, rfl⟩)
        | fail
      have HR := hide (Run.new w wr (HK.out.trans' HKX.out (fun _ _ => id) (fun _ _ => id)))
      clear HK HKX HE
      generalize wr.alloc (.cells #[.int .i64 0, .bool true, .slice none 0 0] 47) = w3 at *
      generalize wr.heap.size = cb at *
      go_loopg [5] 40 (fun g s5 wx => ∃ (j : Nat) (A : Option Addr) (c : Nat), j ≤ 40 ∧ g = 40 - j ∧ s5 = .int .i64 (40 - (j : Int)) ∧ Run w wx cb A c (numS j))
      case atStart => exact ⟨0, none, 0, Nat.zero_le _, rfl, rfl, HR.out⟩
      case round =>
        clear HR
        obtain ⟨j, A, c, hj40, rfl, rfl, hr⟩ := hrel
        have HR := hide hr
        clear hr
        by_cases hj : j < 40
        · have HO := hide (num_ok j hj)
          have HL1 := hide (num_len1 (j + 1) hj)
          have HL0 := hide (num_len1 j hj40)
          obtain ⟨s1, hs1⟩ : ∃ s, numS j = s := ⟨_, rfl⟩
          obtain ⟨s2, hs2⟩ : ∃ s, numS (j + 1) = s := ⟨_, rfl⟩
          have HS1 := hide (show s1.set (40 - (j : Int)) (10 + (40 - (j : Int)) % 3) = s2 from by rw [← hs1, ← hs2]; rfl)
          rw [hs1, hs2] at HO
          rw [hs2] at HL1
          rw [hs1] at HL0
          rw [hs1] at HR
          have HS2 := hide hs2
          clear hs1 hs2
          have HP := hide (show 40 - (j : Int) - 1 = 40 - ((j + 1 : Nat) : Int) by omega)
          obtain ⟨p, hp⟩ : ∃ p : Int, 40 - (j : Int) = p := ⟨_, rfl⟩
          rw [hp] at HO HS1 HP ⊢
          have hp1 : 0 < p := by omega
          have hp2 : p ≤ 40 := by omega
          clear hp
          go_wp2_with fail
          refine (set_to cb c A s1 s2 true p (10 + p % 3) wr HR.out.at' (by have := HL0.out; omega) HO.out.1 HS1.out).mono ?_
          rintro e w4 ⟨A4, c4, rfl, h1, h2, h3⟩
          have HR4 := hide (HR.out.turn h1 h2 h3)
          clear h1 h2 h3 HR
          go_wp2_with fail
          refine (set_to cb c4 A4 s2 s2 false p 1 w4 HR4.out.at' (by have := HL1.out; omega) HO.out.2.1 (set_no HO.out.2.1)).mono ?_
          rintro e w5 ⟨A5, c5, rfl, h1, h2, h3⟩
          have HR5 := hide (HR4.out.turn h1 h2 h3)
          clear h1 h2 h3 HR4
          go_wp2_with fail
          go_roundg (40 - (j + 1))
          case measure => omega
          case rel => exact ⟨j + 1, A5, c5, by omega, rfl, by rw [HP.out], by rw [HS2.out]; exact HR5.out⟩
        · obtain rfl : j = 40 := by omega
          have hj1 : ¬ (0 : Int) < 40 - ((40 : Nat) : Int) := by omega
          clear hj hj40
          have HN1 := hide num_40
          have HN2 := hide num_b
          have HN3 := hide num_45
          have HN4 := hide num_len
          obtain ⟨m40, hm40⟩ : ∃ s, numS 40 = s := ⟨_, rfl⟩
          rw [hm40] at HR HN1 HN4
          have HM := hide hm40
          clear hm40
          go_wp2_with fail
          refine (drop_to cb c A m40 n41 true 30 wr HR.out.at' (by have := HN4.out; omega) HN1.out.1 (by rw [← HM.out]; rfl)).mono ?_
          rintro e w4 ⟨A4, c4, rfl, h1, h2, h3⟩
          have HR4 := hide (HR.out.turn h1 h2 h3)
          clear h1 h2 h3 HR HM
          go_wp2_with fail
          refine (drop_to cb c4 A4 n41 n41 false 30 w4 HR4.out.at' (by have := HN4.out; omega) HN1.out.2.1 HN1.out.2.2.1).mono ?_
          rintro e w5 ⟨A5, c5, rfl, h1, h2, h3⟩
          have HR5 := hide (HR4.out.turn h1 h2 h3)
          clear h1 h2 h3 HR4
          go_wp2_with fail
          refine (set_to cb c5 A5 n41 n42 true 30 0 w5 HR5.out.at' (by have := HN4.out; omega) HN1.out.2.2.2.1 rfl).mono ?_
          rintro e w6 ⟨A6, c6, rfl, h1, h2, h3⟩
          have HR6 := hide (HR5.out.turn h1 h2 h3)
          clear h1 h2 h3 HR5
          go_wp2_with fail
          refine (tick_to cb c6 A6 n42 n43 [30] 1 true 9 w6 HR6.out.at' (by have := HN4.out; omega) HN1.out.2.2.2.2.1 rfl HN1.out.2.2.2.2.2.1 rfl).mono ?_
          rintro e w7 ⟨A7, c7, X1, d1, rfl, h1, h2, h3, h4⟩
          have HR7 := hide (HR6.out.turn h1 h2 h3)
          have HX := hide h4.1
          clear h1 h2 h3 h4 HR6
          go_wp2_with fail
          refine (tick_to cb c7 A7 n43 n44 b39 39 true 3 w7 HR7.out.at' (by have := HN4.out; omega) HN1.out.2.2.2.2.2.2.1 rfl rfl HN1.out.2.2.2.2.2.2.2).mono ?_
          rintro e w8 ⟨A8, c8, X2, d2, rfl, h1, h2, h3, h4⟩
          have HX := hide (HR7.out.at'.leaves HX.out h2)
          have HR8 := hide (HR7.out.turn h1 h2 h3)
          have HY := hide h4.1
          clear h1 h2 h3 h4 HR7
          go_wp2_with fail
          have hka : Keeps NoB w8 (w8.alloc (.cells #[.int .i64 30] 3)) := (Keeps.refl NoB w8).alloc _
          have HSM := hide (fun c c' => same_yes _ _ 1 c 1 c' [30] _ _ _ _ _ (HX.out.fresh hka).reads (lit_reads (xs := [30]) (Blk.new w8 3 #[.int .i64 30])) (Roomy.small (by omega) (by omega)))
          have HR8a := hide (HR8.out.fresh hka)
          have HY := hide (HY.out.fresh hka)
          clear hka HR8 HX
          generalize w8.alloc (.cells #[.int .i64 30] 3) = w8a at *
          refine (HSM.out _ _).mono ?_
          rintro e w9 ⟨rfl, hk⟩
          have HR9 := hide (HR8a.out.fresh hk)
          have HY := hide (HY.out.fresh hk)
          clear hk HSM HR8a
          obtain ⟨⟨g, o, sp⟩, hA, hs, _, _, hc⟩ := HY.out.reads.2 (by omega)
          simp only at hs
          subst hs hA
          have hb0 : w9.cell? ⟨g, o, none⟩ = some (.int .i64 3) := (hc 0 (.int .i64 3) (by rw [List.getElem?_map, HN2.out.1]; rfl)).1
          have hb1 : w9.cell? ⟨g, o + 12, none⟩ = some (.int .i64 1) := (hc 12 (.int .i64 1) (by rw [List.getElem?_map, HN2.out.2.1]; rfl)).1
          have hb2 : w9.cell? ⟨g, o + 38, none⟩ = some (.int .i64 38) := (hc 38 (.int .i64 38) (by rw [List.getElem?_map, HN2.out.2.2]; rfl)).1
          clear hc
          go_wp2_with fail
          clear hb0 hb1 hb2
          refine (tick_to cb c8 A8 n44 n45 [] 0 true 1099511627764 w9 HR9.out.at' (by have := HN4.out; omega) HN3.out.1 rfl HN3.out.2.1 rfl).mono ?_
          rintro e w10 ⟨A10, c10, X3, d3, rfl, h1, h2, h3, h4⟩
          have HR10 := hide (HR9.out.turn h1 h2 h3)
          clear h1 h2 h3 h4 HR9
          go_wp2_with fail
          refine (tick_to cb c10 A10 n45 n45 [] 0 false 1 w10 HR10.out.at' (by have := HN4.out; omega) HN3.out.2.2.1 HN3.out.2.2.2.1 HN3.out.2.2.2.2.1 rfl).mono ?_
          rintro e w11 ⟨A11, c11, X4, d4, rfl, h1, h2, h3, h4⟩
          have HR11 := hide (HR10.out.turn h1 h2 h3)
          clear h1 h2 h3 h4 HR10
          go_wp2_with fail
          refine (set_to cb c11 A11 n45 n46 true 1 1099511627776 w11 HR11.out.at' (by have := HN4.out; omega) HN3.out.2.2.2.2.2.1 rfl).mono ?_
          rintro e w12 ⟨A12, c12, rfl, h1, h2, h3⟩
          have HR12 := hide (HR11.out.turn h1 h2 h3)
          clear h1 h2 h3 HR11
          go_wp2_with fail
          refine (now_at cb 1099511627776 w12 (HR12.out.at'.blk.cell 1) ((HR12.out.at'.blk.cell 0).trans (by rw [← HN3.out.2.2.2.2.2.2]; rfl))).mono ?_
          rintro e w' ⟨rfl, rfl⟩
          go_wp2_with fail
          refine (awake_any w12).mono ?_
          rintro e w13 ⟨rfl, hk⟩
          have HF := hide (HR12.out.keep.trans' hk (fun _ _ => id) (fun _ _ => id))
          clear hk
          go_wp2_with fail
          go_ret
          exact ⟨rfl, HF.out⟩
end Go.Proofs.Ytaiphjgklfioeaa
