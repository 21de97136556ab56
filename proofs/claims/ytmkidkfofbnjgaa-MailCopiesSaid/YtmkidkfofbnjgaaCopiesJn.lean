/- pigeonholelaw12: MailCopies. -/
import Derived.Test.YtmkidkfofbnjgaaTwoPJn
import Derived.Test.YtmkidkfofbnjgaaApartTJn
import Derived.Test.YtmkidkfofbnjgaaLivesJn
namespace Go.Proofs.Ytmkidkfofbnjgaa
open Go.RowKit

/-- The letters of a box behind i steps. -/
structure Good (E : List (Int × Tm)) (us : List Tm) (i : Nat) : Prop where
  len : us.length ≤ i
  small : ∀ u ∈ us, smallT u
  sum : Tm.size.sizes us ≤ sumT E i
theorem Good.nil (E : List (Int × Tm)) : Good E [] 0 := ⟨Nat.le_refl _, (fun _ h => by cases h), Nat.zero_le _⟩
theorem Good.step {E : List (Int × Tm)} {us us' : List Tm} {i : Nat} {x : Int × Tm} (h : Good E us i) (hx : E[i]? = some x) (hs : smallT x.2) (hl : us'.length ≤ us.length + 1) (hm : LessT us' us x.2) : Good E us' (i + 1) := by
  refine ⟨by have := h.len; omega, fun u hu => ?_, by rw [sumT_succ hx]; have := hm.sum; have := h.sum; omega⟩
  rcases hm.mem u hu with h1 | rfl
  · exact h.small u h1
  · exact hs
theorem Good.all {E : List (Int × Tm)} {us : List Tm} {i : Nat} (h : Good E us i) : smallTs us := smallTs_of (fun j u hu => h.small u (List.mem_of_getElem? hu))
theorem sumT_le {E : List (Int × Tm)} {i m : Nat} (h : i ≤ m) : sumT E i ≤ sumT E m := by
  induction m with
  | zero => obtain rfl : i = 0 := by omega
            exact Nat.le_refl _
  | succ m ih =>
    rcases Nat.lt_or_ge m i with h1 | h1
    · obtain rfl : i = m + 1 := by omega
      exact Nat.le_refl _
    · have h2 := ih h1
      by_cases hm : m < E.length
      · rw [sumT_succ (List.getElem?_eq_getElem hm)]; omega
      · unfold sumT at h2 ⊢
        rw [List.take_of_length_le (i := m + 1) (by omega)]
        rw [List.take_of_length_le (i := m) (by omega)] at h2
        exact h2
theorem Good.sizes {E : List (Int × Tm)} {us : List Tm} {i m : Nat} (h : Good E us i) (hi : i ≤ m) (hm : sumT E m ≤ 6000) : Tm.size.sizes us ≤ 10000 := by
  have := h.sum; have := sumT_le (E := E) hi; omega

set_option maxRecDepth 100000 in
set_option maxHeartbeats 8000000 in
theorem mail_copies (A : Option Addr) (n c : Nat) (hnc : n ≤ c) (at' : Int) (D : List (Int × Tm)) (w : World) (h : StepsAt w A n D) : Calls Try.prog 7 #[.slice A n c, .int .i64 at'] w fun e w' => e = .returned (.bool true) ∧ Keeps NoB w w' := by
  have H := hide h; clear h
  go_enter Try.func7, Try.ntmps7
  go_upto_if 14 with fail
  go_cut [0] (fun s0 wx => wx = w ∧ ∃ m : Nat, m ≤ 80 ∧ m ≤ n ∧ s0 = .slice A m c)
  case first =>
    by_cases h80 : n ≤ 80
    · have hz : (n : Int) ≤ 80 := by omega
      go_wp2_with fail
      go_meet
      exact ⟨rfl, n, h80, Nat.le_refl _, rfl⟩
    · have hz : (80 : Int) < n := by omega
      have hzc : (80 : Int) ≤ c := by omega
      go_wp2_with fail
      go_meet
      exact ⟨rfl, 80, Nat.le_refl _, by omega, rfl⟩
  case rest =>
    obtain ⟨rfl, m, hm80, hmn, rfl⟩ := hcut
    have HD := hide (H.out.pre hmn)
    generalize hE : D.take m = E at *
    clear hE H
    go_wp2_with fail
    refine (great_any A m c E wc HD.out (by omega)).mono ?_
    rintro e w1 ⟨g, rfl, hg, hk1⟩
    have HK1 := hide hk1; have HG := hide hg
    have HD1 := hide (HD.out.keep hk1)
    clear hg hk1 HD
    cases g with
    | true =>
      go_wp2_with fail
      refine (awake_any w1).mono ?_
      rintro e w2 ⟨rfl, hk⟩
      have HK2 := hide (HK1.out.trans' (Keeps.of_below hk NoB) (fun _ _ => id) (fun _ _ => id) : Keeps NoB wc w2)
      clear hk
      go_wp2_with fail
      go_ret
      exact ⟨rfl, HK2.out⟩
    | false =>
      have HSM := hide (HG.out rfl)
      clear HG
      have hmz : (m : Int) ≤ 80 := by omega
      go_wp2_with fail
      refine (pick_any at' ((m : Int) + 1) (by omega) (by omega) _).mono ?_
      rintro e w' ⟨rfl, rfl⟩
      have hr0 : 0 ≤ at' % ((m : Int) + 1) := Int.emod_nonneg _ (by omega)
      have hr1 : at' % ((m : Int) + 1) < (m : Int) + 1 := Int.emod_lt_of_pos _ (by omega)
      generalize at' % ((m : Int) + 1) = z at *
      obtain ⟨a, rfl⟩ : ∃ a : Nat, z = a := ⟨z.toNat, by omega⟩
      have ham : a ≤ m := by omega
      clear hr0 hr1
      go_wp2_with (go_at_call 9; refine (new_any _).mono ?_; rintro e w' ⟨rfl, rfl⟩)
      have HP := hide (pinv_new w1)
      generalize (w1.alloc (.cells #[.slice none 0 0, .int .i64 0, .bool true] 61)).alloc (.cells #[.slice none 0 0, .int .i64 0] 27) = w3 at *
      generalize w1.heap.size + 1 = r at *
      generalize w1.heap.size = b at *
      go_loopg [7] a (fun gg s wx => ∃ (i : Nat) (us : List Tm) (q : Nat), i ≤ a ∧ gg = a - i ∧ s = .int .i64 i ∧ PInv w1 wx b r us us q q NoB ∧ Good E us i)
      case atStart => exact ⟨0, [], 0, Nat.zero_le _, rfl, rfl, HP.out, Good.nil _⟩
      case round =>
        obtain ⟨i, us, q, hi, rfl, rfl, hinv, hgood⟩ := hrel
        have HI := hide hinv; have HGD := hide hgood
        clear hinv HP hgood
        have hi0 : (0 : Int) ≤ i := by omega
        have hul : us.length ≤ 80 := by have := HGD.out.len; omega
        by_cases hia : i < a
        · have hiz : (i : Int) < a := by omega
          have him : i < m := by omega
          have himz : (i : Int) < m := by omega
          obtain ⟨x, hx⟩ : ∃ x, E[i]? = some x := ⟨_, List.getElem?_eq_getElem (by have := HD1.out.1; omega)⟩
          have HSX := hide (HSM.out.1 i x him hx)
          have HX := hide hx
          obtain ⟨ab, ao, kd, ng, la, ln, lc, tx, nm, ia, im, ic, ta, tn, tc, rfl, htt, _, c0, c1, c2, c3, c4, c5, c6, c7⟩ := HD1.out.2 i x hx
          have HTT := hide htt
          have HC := hide HI.out.keep
          replace c0 := HC.out.cell id c0
          replace c1 := HC.out.cell id c1
          replace c2 := HC.out.cell id c2
          replace c3 := HC.out.cell id c3
          replace c4 := HC.out.cell id c4
          replace c5 := HC.out.cell id c5
          replace c6 := HC.out.cell id c6
          replace c7 := HC.out.cell id c7
          obtain ⟨op, t⟩ := x
          simp only at c0
          clear hx htt
          go_wp2_with fail
          refine (step_any w1 wr b r q us NoB HI.out (by omega) op kd nm ng la ia ta ln lc im ic tn tc tx t HTT.out HSX.out).mono ?_
          rintro e w4 ⟨us', q', rfl, hp, hl, hm, _⟩
          have HP4 := hide hp; have HG4 := hide (HGD.out.step HX.out HSX.out hl hm)
          clear hp hl hm c0 c1 c2 c3 c4 c5 c6 c7 HI HC
          go_wp2_with fail
          go_roundg (a - (i + 1))
          case measure => omega
          case rel => exact ⟨i + 1, us', q', by omega, rfl, by go_num, HP4.out, HG4.out⟩
        · obtain rfl : i = a := by omega
          have hiz : ¬ (i : Int) < i := by omega
          go_wp2_with
            first
            | (go_at_call 29
               refine (half_of HI.out (by omega) HGD.out.all).mono ?_
               rintro e wA ⟨cb, rfl, hh⟩
               have HH := hide hh
               clear hh)
            | (go_at_call 30
               refine (two_of HH.out (by omega)).mono ?_
               rintro e wB ⟨sb, rfl, h2⟩
               have HT0 := hide h2
               have MK := hide True.intro
               clear h2)
            | (go_at_call 24
               have hm := MK; clear hm MK
               refine (all_p HT0.out.ex.choose_spec.1 (by omega)).mono ?_
               rintro e wE ⟨A1, c1, css1, m1, rfl, h1, h2, h3, _⟩
               have HA1 := hide h1; have HA2 := hide h2; have HA3 := hide (Keeps.of_below h3 NoB)
               have MK2 := hide True.intro
               clear h1 h2 h3)
            | (go_at_call 24
               have hm := MK2; clear hm MK2
               refine (all_p (HT0.out.fresh HA3.out).swap.ex.choose_spec.1 (by omega)).mono ?_
               rintro e wF ⟨A2, c2, css2, m2, rfl, h1, h2, h3, _⟩
               have HB1 := hide h1; have HB2 := hide h2; have HB3 := hide (Keeps.of_below h3 NoB)
               clear h1 h2 h3)
            | (go_at_call 31
               refine (apart_two _ ⟨A1, us.length, c1, css1, us, wB.heap.size, m1, wE.heap.size⟩ ⟨A2, us.length, c2, css2, us, wE.heap.size, m2, wF.heap.size⟩ _ (Blk.new wF 25 _) ?_ ?_ (Nat.le_refl _) ?_).mono ?_
               · exact Rw.ok.keep (w := wE) (w' := wF.alloc (.cells #[.slice A1 us.length c1, .slice A2 us.length c2] 25)) (fp := NoB) ⟨HA1.out, HA2.out, HGD.out.all.thin, HGD.out.sizes ham HSM.out.2⟩ (HB3.out.alloc _) (fun _ _ _ => id)
               · exact Rw.ok.keep (w := wF) (w' := wF.alloc (.cells #[.slice A1 us.length c1, .slice A2 us.length c2] 25)) (fp := NoB) ⟨HB1.out, HB2.out, HGD.out.all.thin, HGD.out.sizes ham HSM.out.2⟩ ((Keeps.refl NoB wF).alloc _) (fun _ _ _ => id)
               · exact ((Keeps.refl NoB wF).alloc (.cells #[.slice A1 us.length c1, .slice A2 us.length c2] 25)).size
               rintro e wG ⟨rfl, hkg⟩
               have HT1 := hide (HT0.out.fresh (((HA3.out.trans' HB3.out (fun _ _ => id) (fun _ _ => id) : Keeps NoB wB wF).alloc (.cells #[.slice A1 us.length c1, .slice A2 us.length c2] 25)).trans' hkg (fun _ _ => id) (fun k hk h => by have := h.1; exact absurd hk (by show ¬ k < _; exact Nat.not_lt.2 h.1))))
               clear hkg HA1 HA2 HA3 HB1 HB2 HB3 HT0)
            | fail
          clear HI HH
          go_loopg [10] (m - i) (fun gg s wx => ∃ (j : Nat) (vs : List Tm) (p : Nat), i ≤ j ∧ j ≤ m ∧ gg = m - j ∧ s = .int .i64 j ∧ Two w1 wx b r us q cb sb vs p ∧ vs.length ≤ j)
          case atStart => exact ⟨i, us, q, Nat.le_refl _, ham, rfl, rfl, HT1.out, HGD.out.len⟩
          case round =>
            obtain ⟨j, vs, p, hij, hjm, rfl, rfl, htw, hvl⟩ := hrel
            have HW := hide htw
            clear htw
            have hj0 : (0 : Int) ≤ j := by omega
            by_cases hjm' : j < m
            · have hjz : (j : Int) < m := by omega
              obtain ⟨x, hx⟩ : ∃ x, E[j]? = some x := ⟨_, List.getElem?_eq_getElem (by have := HD1.out.1; omega)⟩
              have HSX := hide (HSM.out.1 j x hjm' hx)
              obtain ⟨ab, ao, kd, ng, la, ln, lc, tx, nm, ia, im, ic, ta, tn, tc, rfl, htt, _, c0, c1, c2, c3, c4, c5, c6, c7⟩ := HD1.out.2 j x hx
              have HTT := hide htt
              have HC := hide HW.out.keep
              replace c0 := HC.out.cell id c0
              replace c1 := HC.out.cell id c1
              replace c2 := HC.out.cell id c2
              replace c3 := HC.out.cell id c3
              replace c4 := HC.out.cell id c4
              replace c5 := HC.out.cell id c5
              replace c6 := HC.out.cell id c6
              replace c7 := HC.out.cell id c7
              obtain ⟨op, t⟩ := x
              simp only at c0
              clear hx htt
              go_wp2_with
                first
                | (go_at_call 21
                   refine (two_step HW.out.swap (by omega) op kd nm ng la ia ta ln lc im ic tn tc tx t HTT.out HSX.out).mono ?_
                   rintro e w4 ⟨vs', p', rfl, h2, hl2, _⟩
                   have HT2 := hide h2
                   have hl3 : vs'.length ≤ 80 := by omega
                   have MK := hide True.intro
                   clear h2 c0 c1 c2 c3 c4 c5 c6 c7 HC HW)
                | (go_at_call 18
                   have hm := MK; clear hm MK
                   refine (two_like HT2.out.swap (by omega)).mono ?_
                   rintro e w5 ⟨rfl, h2⟩
                   have HT3 := hide h2
                   have MK2 := hide True.intro
                   clear h2 HT2)
                | (go_at_call 18
                   have hm := MK2; clear hm MK2
                   refine (two_like HT3.out.swap (by omega)).mono ?_
                   rintro e w6 ⟨rfl, h2⟩
                   have HT4 := hide h2
                   clear h2 HT3)
                | fail
              go_roundg (m - (j + 1))
              case measure => omega
              case rel => exact ⟨j + 1, vs', p', by omega, by omega, rfl, by go_num, HT4.out.swap, by omega⟩
            · obtain rfl : j = m := by omega
              have hjz : ¬ (j : Int) < j := by omega
              go_wp2_with fail
              clear HT1
              go_loopg [11] (j - i) (fun gg s wx => ∃ (l : Nat) (ys : List Tm) (o : Nat), i ≤ l ∧ l ≤ j ∧ gg = j - l ∧ s = .int .i64 l ∧ Two w1 wx b r ys o cb sb vs p ∧ ys.length ≤ l)
              case atStart => exact ⟨i, us, q, Nat.le_refl _, ham, rfl, rfl, HW.out, HGD.out.len⟩
              case round =>
                clear HW
                obtain ⟨l, ys, o, hil, hlj, rfl, rfl, htw, hyl⟩ := hrel
                have HW := hide htw
                clear htw
                have hl0 : (0 : Int) ≤ l := by omega
                by_cases hlm : l < j
                · have hlz : (l : Int) < j := by omega
                  obtain ⟨x, hx⟩ : ∃ x, E[l]? = some x := ⟨_, List.getElem?_eq_getElem (by have := HD1.out.1; omega)⟩
                  have HSX := hide (HSM.out.1 l x hlm hx)
                  obtain ⟨ab, ao, kd, ng, la, ln, lc, tx, nm, ia, im, ic, ta, tn, tc, rfl, htt, _, c0, c1, c2, c3, c4, c5, c6, c7⟩ := HD1.out.2 l x hx
                  have HTT := hide htt
                  have HC := hide HW.out.keep
                  replace c0 := HC.out.cell id c0
                  replace c1 := HC.out.cell id c1
                  replace c2 := HC.out.cell id c2
                  replace c3 := HC.out.cell id c3
                  replace c4 := HC.out.cell id c4
                  replace c5 := HC.out.cell id c5
                  replace c6 := HC.out.cell id c6
                  replace c7 := HC.out.cell id c7
                  obtain ⟨op, t⟩ := x
                  simp only at c0
                  clear hx htt
                  go_wp2_with
                    first
                    | (go_at_call 21
                       refine (two_step HW.out (by omega) op kd nm ng la ia ta ln lc im ic tn tc tx t HTT.out HSX.out).mono ?_
                       rintro e w4 ⟨vs', p', rfl, h2, hl2, _⟩
                       have HT2 := hide h2
                       have hl3 : vs'.length ≤ 80 := by omega
                       have MK := hide True.intro
                       clear h2 c0 c1 c2 c3 c4 c5 c6 c7 HC HW)
                    | (go_at_call 18
                       have hm := MK; clear hm MK
                       refine (two_like HT2.out (by omega)).mono ?_
                       rintro e w5 ⟨rfl, h2⟩
                       have HT3 := hide h2
                       have MK2 := hide True.intro
                       clear h2 HT2)
                    | (go_at_call 18
                       have hm := MK2; clear hm MK2
                       refine (two_like HT3.out.swap (by omega)).mono ?_
                       rintro e w6 ⟨rfl, h2⟩
                       have HT4 := hide h2
                       clear h2 HT3)
                    | fail
                  go_roundg (j - (l + 1))
                  case measure => omega
                  case rel => exact ⟨l + 1, vs', p', by omega, by omega, rfl, by go_num, HT4.out.swap, by omega⟩
                · obtain rfl : l = j := by omega
                  have hlz : ¬ (l : Int) < l := by omega
                  go_wp2_with fail
                  refine (awake_any wr).mono ?_
                  rintro e w2 ⟨rfl, hk⟩
                  have HK2 := hide ((HK1.out.trans' HW.out.keep (fun _ _ => id) (fun _ _ => id) : Keeps NoB wc wr).trans' (Keeps.of_below hk NoB) (fun _ _ => id) (fun _ _ => id) : Keeps NoB wc w2)
                  clear hk
                  go_wp2_with fail
                  go_ret
                  exact ⟨rfl, HK2.out⟩
end Go.Proofs.Ytmkidkfofbnjgaa
