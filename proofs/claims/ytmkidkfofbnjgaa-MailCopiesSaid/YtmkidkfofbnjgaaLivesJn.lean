/- pigeonholelaw12: MailLives. -/
import Derived.Test.YtmkidkfofbnjgaaStepJn
namespace Go.Proofs.Ytmkidkfofbnjgaa
open Go.RowKit

def LivesInv (w wx : World) (b r i : Nat) : Prop := ∃ us q, PInv w wx b r us us q q NoB ∧ us.length ≤ i

set_option maxRecDepth 100000 in
set_option maxHeartbeats 4000000 in
theorem mail_lives (A : Option Addr) (n c : Nat) (hnc : n ≤ c) (D : List (Int × Tm)) (w : World) (h : StepsAt w A n D) : Calls Try.prog 4 #[.slice A n c] w fun e w' => e = .returned (.bool true) ∧ Keeps NoB w w' := by
  have H := hide h; clear h
  go_enter Try.func4, Try.ntmps4
  go_upto_if 8 with fail
  go_cut [0] (fun s0 wx => wx = w ∧ ∃ m : Nat, m ≤ 80 ∧ m ≤ n ∧ s0 = .slice A m c)
  case first =>
    by_cases h80 : n ≤ 80
    · have hz : (n : Int) ≤ 80 := by omega
      go_wp2_with fail
      go_meet
      exact ⟨rfl, n, h80, Nat.le_refl _, rfl⟩
    · have hz : (80 : Int) < n := by omega
      have hzc : (80 : Int) ≤ c := by omega
      go_wp2_with fail
      go_meet
      exact ⟨rfl, 80, Nat.le_refl _, by omega, rfl⟩
  case rest =>
    obtain ⟨rfl, m, hm80, hmn, rfl⟩ := hcut
    have HD := hide (H.out.pre hmn)
    generalize hE : D.take m = E at *
    clear hE H
    go_wp2_with fail
    refine (great_any A m c E wc HD.out (by omega)).mono ?_
    rintro e w1 ⟨g, rfl, hg, hk1⟩
    have HK1 := hide hk1; have HG := hide hg
    have HD1 := hide (HD.out.keep hk1)
    clear hg hk1 HD
    cases g with
    | true =>
      go_wp2_with fail
      refine (awake_any w1).mono ?_
      rintro e w2 ⟨rfl, hk⟩
      have HK2 := hide (HK1.out.trans' (Keeps.of_below hk NoB) (fun _ _ => id) (fun _ _ => id) : Keeps NoB wc w2)
      clear hk
      go_wp2_with fail
      go_ret
      exact ⟨rfl, HK2.out⟩
    | false =>
      have HSM := hide (HG.out rfl).1
      clear HG
      go_wp2_with (go_at_call 9; refine (new_any _).mono ?_; rintro e w' ⟨rfl, rfl⟩)
      have HP := hide (pinv_new w1)
      generalize (w1.alloc (.cells #[.slice none 0 0, .int .i64 0, .bool true] 61)).alloc (.cells #[.slice none 0 0, .int .i64 0] 27) = w3 at *
      generalize w1.heap.size + 1 = r at *
      generalize w1.heap.size = b at *
      go_loopg [5] m (fun gg s wx => ∃ i : Nat, i ≤ m ∧ gg = m - i ∧ s = .int .i64 i ∧ LivesInv w1 wx b r i)
      case atStart => exact ⟨0, Nat.zero_le _, rfl, rfl, [], 0, HP.out, Nat.le_refl _⟩
      case round =>
        obtain ⟨i, hi, rfl, rfl, us, q, hinv, hul⟩ := hrel
        have HI := hide hinv
        clear hinv HP
        have hi0 : (0 : Int) ≤ i := by omega
        by_cases him : i < m
        · have hiz : (i : Int) < m := by omega
          obtain ⟨x, hx⟩ : ∃ x, E[i]? = some x := ⟨_, List.getElem?_eq_getElem (by have := HD1.out.1; omega)⟩
          have HSX := hide (HSM.out i x him hx)
          obtain ⟨ab, ao, kd, ng, la, ln, lc, tx, nm, ia, im, ic, ta, tn, tc, rfl, htt, _, c0, c1, c2, c3, c4, c5, c6, c7⟩ := HD1.out.2 i x hx
          have HTT := hide htt
          have HC := hide HI.out.keep
          replace c0 := HC.out.cell id c0
          replace c1 := HC.out.cell id c1
          replace c2 := HC.out.cell id c2
          replace c3 := HC.out.cell id c3
          replace c4 := HC.out.cell id c4
          replace c5 := HC.out.cell id c5
          replace c6 := HC.out.cell id c6
          replace c7 := HC.out.cell id c7
          obtain ⟨op, t⟩ := x
          simp only at c0
          clear hx htt
          go_wp2_with fail
          refine (step_any w1 wr b r q us NoB HI.out (by omega) op kd nm ng la ia ta ln lc im ic tn tc tx t HTT.out HSX.out).mono ?_
          rintro e w4 ⟨us', q', rfl, hp, hl, _, _⟩
          have HP4 := hide hp
          clear hp c0 c1 c2 c3 c4 c5 c6 c7 HI HC
          go_wp2_with fail
          refine (like_p HP4.out (by omega)).mono ?_
          rintro e w5 ⟨rfl, hp, _⟩
          have HP5 := hide hp
          clear hp HP4
          go_wp2_with fail
          go_roundg (m - (i + 1))
          case measure => omega
          case rel => exact ⟨i + 1, by omega, rfl, by go_num, us', q', HP5.out, by omega⟩
        · obtain rfl : i = m := by omega
          have hiz : ¬ (i : Int) < i := by omega
          go_wp2_with fail
          refine (awake_any wr).mono ?_
          rintro e w2 ⟨rfl, hk⟩
          have HK2 := hide ((HK1.out.trans' HI.out.keep (fun _ _ => id) (fun _ _ => id) : Keeps NoB wc wr).trans' (Keeps.of_below hk NoB) (fun _ _ => id) (fun _ _ => id) : Keeps NoB wc w2)
          clear hk
          go_wp2_with fail
          go_ret
          exact ⟨rfl, HK2.out⟩
end Go.Proofs.Ytmkidkfofbnjgaa
