/- cases.may: what a pattern may be. -/
import Derived.Test.YtdmldipnalklgaaLaw
import Derived.Test.YtdmldipnalklgaaTmSize
namespace Go.Proofs.Ytdmldipnalklgaa
open Go.RowKit

def MaySaid (M : Nat) : Prop := ∀ (t : Co), t.size ≤ M → ∀ (w : World) (B : Nat → Prop) (F : Bool) (kd : Int) (tx : ByteArray) (nm tk : Int) (ng : Bool) (la : Option Addr) (ln lc : Nat) (tt : ByteArray) (tn : Int) (ia : Option Addr) (im ic : Nat) (ta : Option Addr) (tm tc : Nat) (ka : Option Addr) (kn kc : Nat) (free : Int), CoreIn w B F [.int .u8 kd, .string tx, .int .i64 nm, .int .u8 tk, .bool ng, .slice la ln lc, .string tt, .int .i64 tn, .slice ia im ic, .slice ta tm tc, .slice ka kn kc] t →
    Calls Try.prog 14 #[.agg #[.int .u8 kd, .string tx, .int .i64 nm, .int .u8 tk, .bool ng, .slice la ln lc, .string tt, .int .i64 tn, .slice ia im ic, .slice ta tm tc, .slice ka kn kc], .int .i64 free] w fun e w' => e = .returned (.bool (mayC free t)) ∧ Keeps NoB w w'

set_option maxRecDepth 100000 in
theorem may1_of (M : Nat) (IH : Hid (MaySaid M)) (t : Co) (hM : t.size ≤ M) (w : World) (B : Nat → Prop) (F : Bool) (kd : Int) (tx : ByteArray) (nm tk : Int) (ng : Bool) (la : Option Addr) (ln lc : Nat) (tt : ByteArray) (tn : Int) (ia : Option Addr) (im ic : Nat) (ta : Option Addr) (tm tc : Nat) (ka : Option Addr) (kn kc : Nat) (free : Int) (fb : Nat) (ht : CoreIn w B F [.int .u8 kd, .string tx, .int .i64 nm, .int .u8 tk, .bool ng, .slice la ln lc, .string tt, .int .i64 tn, .slice ia im ic, .slice ta tm tc, .slice ka kn kc] t) (hf : w.cell? ⟨fb, 0, none⟩ = some (.int .i64 free)) :
    Calls Try.prog 20 #[.agg #[.int .u8 kd, .string tx, .int .i64 nm, .int .u8 tk, .bool ng, .slice la ln lc, .string tt, .int .i64 tn, .slice ia im ic, .slice ta tm tc, .slice ka kn kc], .pointer (some ⟨fb, 0, none⟩)] w fun e w' => e = .returned (.bool (!mayC free t)) ∧ Keeps NoB w w' := by
  have HT := hide (CoreIn.keep ((Keeps.refl NoB w).alloc (.cells #[.int .u8 kd, .string tx, .int .i64 nm, .int .u8 tk, .bool ng, .slice la ln lc, .string tt, .int .i64 tn, .slice ia im ic, .slice ta tm tc, .slice ka kn kc] 30)) (fun _ _ => id) _ _ ht)
  have hf2 : (w.alloc (.cells #[.int .u8 kd, .string tx, .int .i64 nm, .int .u8 tk, .bool ng, .slice la ln lc, .string tt, .int .i64 tn, .slice ia im ic, .slice ta tm tc, .slice ka kn kc] 30)).cell? ⟨fb, 0, none⟩ = some (.int .i64 free) := ((Keeps.refl NoB w).alloc (.cells #[.int .u8 kd, .string tx, .int .i64 nm, .int .u8 tk, .bool ng, .slice la ln lc, .string tt, .int .i64 tn, .slice ia im ic, .slice ta tm tc, .slice ka kn kc] 30)).cell (p := ⟨fb, 0, none⟩) id hf
  have hl := tm_blk_lt hf
  clear ht
  go_enter Try.func20, Try.ntmps20
  go_wp2_with
    first
    | (go_at_call 14
       refine (IH.out t hM _ B F kd tx nm tk ng la ln lc tt tn ia im ic ta tm tc ka kn kc free HT.out).mono ?_
       rintro e w2 ⟨rfl, hk2⟩
       have HK2 := hide (((Keeps.refl NoB w).alloc (.cells #[.int .u8 kd, .string tx, .int .i64 nm, .int .u8 tk, .bool ng, .slice la ln lc, .string tt, .int .i64 tn, .slice ia im ic, .slice ta tm tc, .slice ka kn kc] 30)).trans' hk2 (fun _ _ => id) (fun _ _ => id) : Keeps NoB w w2)
       clear hk2)
    | fail
  go_ret
  exact ⟨rfl, HK2.out⟩

set_option maxRecDepth 100000 in
theorem index_of (M : Nat) (IH : Hid (MaySaid M)) (ts : List Co) (hM : Co.size.sizes ts ≤ M) (css : List (List Value)) (A : Option Addr) (n c : Nat) (w : World) (B : Nat → Prop) (F : Bool) (free : Int) (fb : Nat)
    (hr : Reads w B F 11 A n css.flatten) (ht : CoresIn w B F css ts) (hroom : Roomy n 160) (hf : w.cell? ⟨fb, 0, none⟩ = some (.int .i64 free)) :
    Calls Try.prog 28 #[.slice A n c, .func (.func 20) #[] #[.pointer (some ⟨fb, 0, none⟩)]] w fun e w' => ∃ r : Int, e = .returned (.int .i64 r) ∧ decide (0 ≤ r) = !mays free ts ∧ Keeps NoB w w' := by
  have hln : ts.length = n := by have h1 := hr.1; rw [flat_len ht.lens.2, ht.lens.1] at h1; omega
  have hnm : n ≤ 9223372036854775807 := by have := hroom.len (by omega); unfold maxLen at this; exact this
  have HR := hide hr; have HT := hide ht; have HLN := hide hln; have HM := hide hM; have HF := hide hf
  clear hr ht hln hM hroom hf
  go_enter Try.func28, Try.ntmps28
  go_wp2
  go_loopw [8] (fun i wr => ∃ k : Nat, k ≤ n ∧ i = .int .i64 k ∧ Hid (mays free (ts.take k) = true) ∧ Keeps NoB w wr) (fun i _ => n - (intOf i).toNat)
  case atStart => exact ⟨0, Nat.zero_le _, rfl, hide (by rw [List.take_zero]; unfold mays; rfl), Keeps.refl _ _⟩
  case round =>
    obtain ⟨k, hk, rfl, HMT, hkw⟩ := hrel
    have HKW := hide hkw; clear hkw
    by_cases hlt : k < n
    · obtain ⟨b, o, kd, tx, nm, tk, ng, la, ln, lc, tt, tn, ia, im, ic, ta, tm, tc, ka, kn, kc, t, hA, h1, h2, hu, f0, f1, f2, f3, f4, f5, f6, f7, f8, f9, f10⟩ := core_at (HR.out.keep HKW.out (fun _ _ => id)) (CoresIn.keep HKW.out (fun _ _ => id) _ _ HT.out) k hlt
      subst hA
      have HAT := hide h1; have HZ := hide h2; have HU := hide hu
      clear h1 h2 hu
      have hk1 : (k : Int) < (n : Int) := by omega
      have hk0 : (0 : Int) ≤ (k : Int) := by omega
      cases hq : mayC free t with
      | true =>
        have HQ := hide hq; clear hq
        go_wp2_with
          first
          | (go_at_call 20
             refine (may1_of M IH t (by have := HM.out; have := HZ.out; omega) _ B F kd tx nm tk ng la ln lc tt tn ia im ic ta tm tc ka kn kc free fb HU.out (HKW.out.cell id HF.out)).mono ?_
             rintro e w2 ⟨rfl, hk2⟩
             rw [HQ.out]
             have HK2 := hide (HKW.out.trans' hk2 (fun _ _ => id) (fun _ _ => id) : Keeps NoB w w2)
             clear hk2)
          | fail
        go_roundw
        case rel => exact ⟨k + 1, by omega, by go_num, hide (by rw [mays_take HAT.out, HMT.out, HQ.out]; rfl), HK2.out⟩
        case measure => simp [intOf]; omega
      | false =>
        have HQ := hide hq; clear hq
        go_wp2_with
          first
          | (go_at_call 20
             refine (may1_of M IH t (by have := HM.out; have := HZ.out; omega) _ B F kd tx nm tk ng la ln lc tt tn ia im ic ta tm tc ka kn kc free fb HU.out (HKW.out.cell id HF.out)).mono ?_
             rintro e w2 ⟨rfl, hk2⟩
             rw [HQ.out]
             have HK2 := hide (HKW.out.trans' hk2 (fun _ _ => id) (fun _ _ => id) : Keeps NoB w w2)
             clear hk2)
          | fail
        go_ret
        exact ⟨k, rfl, by rw [mays_no HAT.out HQ.out]; simp, HK2.out⟩
    · go_wp2
      go_ret
      refine ⟨-1, rfl, ?_, HKW.out⟩
      have h := HMT.out
      rw [List.take_of_length_le (by have := HLN.out; omega)] at h
      rw [h]; rfl

set_option maxRecDepth 100000 in
theorem contains_of (M : Nat) (IH : Hid (MaySaid M)) (ts : List Co) (hM : Co.size.sizes ts ≤ M) (css : List (List Value)) (A : Option Addr) (n c : Nat) (w : World) (B : Nat → Prop) (F : Bool) (free : Int) (fb : Nat)
    (hr : Reads w B F 11 A n css.flatten) (ht : CoresIn w B F css ts) (hroom : Roomy n 160) (hf : w.cell? ⟨fb, 0, none⟩ = some (.int .i64 free)) :
    Calls Try.prog 19 #[.slice A n c, .func (.func 20) #[] #[.pointer (some ⟨fb, 0, none⟩)]] w fun e w' => e = .returned (.bool (!mays free ts)) ∧ Keeps NoB w w' := by
  have H := hide (index_of M IH ts hM css A n c w B F free fb hr ht hroom hf)
  clear hr ht hroom hf
  go_enter Try.func19, Try.ntmps19
  go_wp2_with
    first
    | (go_at_call 28
       refine H.out.mono ?_
       rintro e w2 ⟨r, rfl, hd, hk2⟩
       have HD := hide hd
       have HK2 := hide hk2
       clear hk2 hd)
    | fail
  go_ret
  exact ⟨by rw [← HD.out]; rfl, HK2.out⟩

set_option maxRecDepth 100000 in
set_option maxHeartbeats 1000000 in
theorem may_any (M : Nat) : MaySaid M := by
  induction M using Nat.strongRecOn with
  | ind M IH =>
  intro t hM w B F kd tx nm tk ng la ln lc tt tn ia im ic ta tm tc ka kn kc free ht
  obtain ⟨tr, kids, css, rfl, htr, hroom, hrk, hck, hkl⟩ : ∃ tr kids css, t = .mk kd tx nm tr kids ∧ TermIn w B F [.int .u8 tk, .bool ng, .slice la ln lc, .string tt, .int .i64 tn, .slice ia im ic, .slice ta tm tc] tr ∧ Roomy kn 160 ∧ Reads w B F 11 ka kn (List.flatten css) ∧ CoresIn w B F css kids ∧ List.length kids = kn := by
    obtain ⟨_, _, _, _, _, _, _, _, _, _, _, _, _, _, _, _, _, _, _, tr, kids, css, e1, e2, h1, h2, h3, h4, h5⟩ := ht.opened
    simp only [List.cons.injEq, Value.int.injEq, Value.bool.injEq, Value.slice.injEq, Value.string.injEq, true_and, and_true] at e2
    obtain ⟨rfl, rfl, rfl, rfl, rfl, ⟨rfl, rfl, rfl⟩, rfl, rfl, ⟨rfl, rfl, rfl⟩, ⟨rfl, rfl, rfl⟩, rfl, rfl, rfl⟩ := e2
    exact ⟨tr, kids, css, e1, h1, h2, h3, h4, h5⟩
  have HSZ : Hid (Co.size.sizes kids < M) := hide (by have := hM; simp only [Co.size] at this; omega)
  have HTR := hide htr; have HRK := hide hrk; have HCK := hide hck; have HKL := hide hkl; have HIH := hide IH; have HRO := hide hroom
  clear ht htr hrk hck hkl IH hM hroom
  have HBX : Hid (Blk ((w.alloc (.cells #[.int .u8 kd, .string tx, .int .i64 nm, .int .u8 tk, .bool ng, .slice la ln lc, .string tt, .int .i64 tn, .slice ia im ic, .slice ta tm tc, .slice ka kn kc] 30)).alloc (.cells #[.int .i64 free] 3)) w.heap.size 30 #[.int .u8 kd, .string tx, .int .i64 nm, .int .u8 tk, .bool ng, .slice la ln lc, .string tt, .int .i64 tn, .slice ia im ic, .slice ta tm tc, .slice ka kn kc]) := hide ((Blk.new w 30 #[.int .u8 kd, .string tx, .int .i64 nm, .int .u8 tk, .bool ng, .slice la ln lc, .string tt, .int .i64 tn, .slice ia im ic, .slice ta tm tc, .slice ka kn kc]).alloc _)
  have HBF : Hid (Blk ((w.alloc (.cells #[.int .u8 kd, .string tx, .int .i64 nm, .int .u8 tk, .bool ng, .slice la ln lc, .string tt, .int .i64 tn, .slice ia im ic, .slice ta tm tc, .slice ka kn kc] 30)).alloc (.cells #[.int .i64 free] 3)) (w.heap.size + 1) 3 #[.int .i64 free]) := hide (Blk.new2 w _ _ _)
  have HK1 : Hid (Keeps NoB w ((w.alloc (.cells #[.int .u8 kd, .string tx, .int .i64 nm, .int .u8 tk, .bool ng, .slice la ln lc, .string tt, .int .i64 tn, .slice ia im ic, .slice ta tm tc, .slice ka kn kc] 30)).alloc (.cells #[.int .i64 free] 3))) := hide (((Keeps.refl NoB w).alloc _).alloc _)
  generalize hr : mayC free (.mk kd tx nm tr kids) = r
  have HR := hide hr
  by_cases k20 : kd = 20
  · subst k20
    obtain rfl : r = true := by rw [← hr]; unfold mayC; simp
    clear hr HR
    go_enter Try.func14, Try.ntmps14
    go_wp2
    go_ret
    exact ⟨rfl, HK1.out⟩
  · by_cases k212 : kd = 21 ∨ kd = 22
    · obtain rfl : r = (decide (0 ≤ nm) && decide (nm < free)) := by rw [← hr]; unfold mayC; rw [if_neg k20, if_pos k212]
      clear hr HR
      by_cases c1 : 0 ≤ nm
      · by_cases c2 : nm < free
        · have d1 : decide (0 ≤ nm) = true := decide_eq_true c1
          have d2 : decide (nm < free) = true := decide_eq_true c2
          rw [d1, d2]
          clear c1 c2 k20
          rcases k212 with rfl | rfl
          · go_enter Try.func14, Try.ntmps14
            go_wp2
            go_ret
            exact ⟨rfl, HK1.out⟩
          · go_enter Try.func14, Try.ntmps14
            go_wp2
            go_ret
            exact ⟨rfl, HK1.out⟩
        · have d1 : decide (0 ≤ nm) = true := decide_eq_true c1
          have d2 : decide (nm < free) = false := decide_eq_false c2
          rw [d1, d2]
          clear c1 c2 k20
          rcases k212 with rfl | rfl
          · go_enter Try.func14, Try.ntmps14
            go_wp2
            go_ret
            exact ⟨rfl, HK1.out⟩
          · go_enter Try.func14, Try.ntmps14
            go_wp2
            go_ret
            exact ⟨rfl, HK1.out⟩
      · have d1 : decide (0 ≤ nm) = false := decide_eq_false c1
        rw [d1, Bool.false_and]
        clear c1 k20
        rcases k212 with rfl | rfl
        · go_enter Try.func14, Try.ntmps14
          go_wp2
          go_ret
          exact ⟨rfl, HK1.out⟩
        · go_enter Try.func14, Try.ntmps14
          go_wp2
          go_ret
          exact ⟨rfl, HK1.out⟩
    · by_cases k23 : kd = 23
      · subst k23
        have HE : Hid (r = rightT tr) := hide (by rw [← hr]; unfold mayC; simp)
        clear hr HR k20 k212
        go_enter Try.func14, Try.ntmps14
        go_wp2_with
          first
          | (go_at_call 18
             refine (tm_right tr _ B F tk ng la ln lc tt tn ia im ic ta tm tc (TermIn.keep HK1.out (fun _ _ => id) _ _ HTR.out)).mono ?_
             rintro e w2 ⟨rfl, hk2⟩
             have HK2 := hide (HK1.out.trans' hk2 (fun _ _ => id) (fun _ _ => id) : Keeps NoB w w2)
             clear hk2)
          | fail
        go_ret
        exact ⟨by rw [HE.out]; rfl, HK2.out⟩
      · by_cases k24 : kd = 24
        · subst k24
          by_cases c1 : kn ≤ 4096
          · have HE : Hid (r = mays free kids) := hide (by rw [← hr]; unfold mayC; rw [HKL.out]; simp [c1])
            have d1 : (kn : Int) ≤ 4096 := by omega
            clear hr HR c1 k20 k212 k23
            go_enter Try.func14, Try.ntmps14
            go_wp2_with
              first
              | (go_at_call 19
                 refine (contains_of (Co.size.sizes kids) (hide (HIH.out _ HSZ.out)) kids (Nat.le_refl _) css ka kn kc _ B F free (w.heap.size + 1) (HRK.out.keep HK1.out (fun _ _ => id)) (CoresIn.keep HK1.out (fun _ _ => id) _ _ HCK.out) HRO.out (HBF.out.cell 0)).mono ?_
                 rintro e w2 ⟨rfl, hk2⟩
                 have HK2 := hide (HK1.out.trans' hk2 (fun _ _ => id) (fun _ _ => id) : Keeps NoB w w2)
                 clear hk2)
              | fail
            go_ret
            exact ⟨by rw [HE.out]; rfl, HK2.out⟩
          · obtain rfl : r = false := by rw [← hr]; unfold mayC; rw [HKL.out]; simp [c1]
            have d1 : (4096 : Int) < kn := by omega
            clear c1 k20 k212 k23
            clear hr HR
            go_enter Try.func14, Try.ntmps14
            go_wp2
            go_ret
            exact ⟨rfl, HK1.out⟩
        · by_cases k256 : kd = 25 ∨ kd = 26
          · by_cases c1 : kn = 2
            · have HE : Hid (r = mays free kids) := hide (by rw [← hr]; unfold mayC; rw [HKL.out, if_neg k20, if_neg k212, if_neg k23, if_neg k24, if_pos k256, decide_eq_true c1]; rfl)
              have d1 : ((kn : Int) != 2) = false := by simp; omega
              clear hr HR c1 k20 k212 k23 k24
              rcases k256 with rfl | rfl
              · skip
                go_enter Try.func14, Try.ntmps14
                go_wp2_with
                  first
                  | (go_at_call 19
                     refine (contains_of (Co.size.sizes kids) (hide (HIH.out _ HSZ.out)) kids (Nat.le_refl _) css ka kn kc _ B F free (w.heap.size + 1) (HRK.out.keep HK1.out (fun _ _ => id)) (CoresIn.keep HK1.out (fun _ _ => id) _ _ HCK.out) HRO.out (HBF.out.cell 0)).mono ?_
                     rintro e w2 ⟨rfl, hk2⟩
                     have HK2 := hide (HK1.out.trans' hk2 (fun _ _ => id) (fun _ _ => id) : Keeps NoB w w2)
                     clear hk2)
                  | fail
                go_ret
                exact ⟨by rw [HE.out]; rfl, HK2.out⟩
              · skip
                go_enter Try.func14, Try.ntmps14
                go_wp2_with
                  first
                  | (go_at_call 19
                     refine (contains_of (Co.size.sizes kids) (hide (HIH.out _ HSZ.out)) kids (Nat.le_refl _) css ka kn kc _ B F free (w.heap.size + 1) (HRK.out.keep HK1.out (fun _ _ => id)) (CoresIn.keep HK1.out (fun _ _ => id) _ _ HCK.out) HRO.out (HBF.out.cell 0)).mono ?_
                     rintro e w2 ⟨rfl, hk2⟩
                     have HK2 := hide (HK1.out.trans' hk2 (fun _ _ => id) (fun _ _ => id) : Keeps NoB w w2)
                     clear hk2)
                  | fail
                go_ret
                exact ⟨by rw [HE.out]; rfl, HK2.out⟩
            · obtain rfl : r = false := by rw [← hr]; unfold mayC; rw [HKL.out, if_neg k20, if_neg k212, if_neg k23, if_neg k24, if_pos k256, decide_eq_false c1]; rfl
              have d1 : ((kn : Int) != 2) = true := by simp; omega
              clear c1 k20 k212 k23 k24
              rcases k256 with rfl | rfl
              · skip
                clear hr HR
                go_enter Try.func14, Try.ntmps14
                go_wp2
                go_ret
                exact ⟨rfl, HK1.out⟩
              · skip
                clear hr HR
                go_enter Try.func14, Try.ntmps14
                go_wp2
                go_ret
                exact ⟨rfl, HK1.out⟩
          · obtain rfl : r = false := by rw [← hr]; unfold mayC; rw [if_neg k20, if_neg k212, if_neg k23, if_neg k24, if_neg k256]
            have b0 : (kd == 20) = false := by simp [k20]
            have b1 : (kd == 21) = false := by simp; omega
            have b2 : (kd == 22) = false := by simp; omega
            have b3 : (kd == 23) = false := by simp [k23]
            have b4 : (kd == 24) = false := by simp [k24]
            have b5 : (kd == 25) = false := by simp; omega
            have b6 : (kd == 26) = false := by simp; omega
            clear k20 k212 k23 k24 k256
            clear hr HR
            go_enter Try.func14, Try.ntmps14
            go_wp2
            go_ret
            exact ⟨rfl, HK1.out⟩
end Go.Proofs.Ytdmldipnalklgaa
