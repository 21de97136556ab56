/- lint.Kind. -/
import Derived.Test.YtincajfanhanjaaDoorKindT
import Derived.Test.YtincajfanhanjaaDoorRows
import Derived.Test.YtincajfanhanjaaDoorShelf
import Derived.WalkLawsBesides
import Derived.WalkSpells
namespace Go.Proofs.YtincajfanhanjaaDoor
open Go.RowKit

set_option maxRecDepth 100000 in
set_option maxHeartbeats 2000000 in
theorem kind_any (s : ByteArray) (a : Int) (w : World) (hL : LaidK w) (hs : s.size ≤ 140737488355328) :
    Calls Tryd.prog 8 #[.string s, .int .i64 a] w fun e w' => e = .returned (.int .i64 (kindN s.data.toList a)) ∧ w = w' := by
  have HL := hide hL
  clear hL
  by_cases h0 : s.data.toList = []
  · have HE : Hid (kindN s.data.toList a = 0) := hide (by unfold kindN; rw [if_pos (.inl h0)])
    have b0 : s.toList = [] := (Lib.toList_data s).trans h0
    have b0' : s.toList.isEmpty = true := by rw [b0]; rfl
    clear h0
    go_enter Tryd.func8, Tryd.ntmps8
    go_wp2
    go_ret
    exact ⟨by rw [HE.out]; rfl, rfl⟩
  have b0 : s.toList.isEmpty = false := by rw [Lib.toList_data]; cases h : s.data.toList with
    | nil => exact absurd h h0
    | cons => rfl
  by_cases h1 : a < 0
  · have HE : Hid (kindN s.data.toList a = 0) := hide (by unfold kindN; rw [if_pos (.inr (.inl h1))])
    have b1 : decide (a < 0) = true := by simpa using h1
    clear h0
    go_enter Tryd.func8, Tryd.ntmps8
    go_wp2
    go_ret
    exact ⟨by rw [HE.out]; rfl, rfl⟩
  by_cases h2 : 3 < a
  · have HE : Hid (kindN s.data.toList a = 0) := hide (by unfold kindN; rw [if_pos (.inr (.inr (.inl h2)))])
    have b1 : decide (a < 0) = false := by simpa using h1
    have b2 : decide (3 < a) = true := by simpa using h2
    clear h0 h1
    go_enter Tryd.func8, Tryd.ntmps8
    go_wp2
    go_ret
    exact ⟨by rw [HE.out]; rfl, rfl⟩
  have b1 : decide (a < 0) = false := by simpa using h1
  have b2 : decide (3 < a) = false := by simpa using h2
  cases h3 : s.data.toList.contains 32 with
  | true =>
    have HE : Hid (kindN s.data.toList a = 0) := hide (by unfold kindN; rw [if_pos (.inr (.inr (.inr h3)))])
    have H3 := hide h3
    clear h0 h1 h2 h3
    go_enter Tryd.func8, Tryd.ntmps8
    go_wp2_with
      first
      | (go_at_call 19
         refine (Tryd.strings_Contains_one s 32 w).mono ?_
         rintro e w' ⟨rfl, rfl⟩
         rw [index_byte, H3.out])
      | fail
    go_ret
    exact ⟨by rw [HE.out]; rfl, rfl⟩
  | false =>
    obtain ⟨an, rfl⟩ := Int.eq_ofNat_of_zero_le (by omega : 0 ≤ a)
    have ha3 : an < 4 := by omega
    have H3 := hide h3; have H0 := hide h0
    have HE : Hid (kindN s.data.toList (an : Int) = if s.data.toList ∈ wordsK 1 an then 1 else if s.data.toList ∈ wordsK 2 an then 2 else if s.data.toList ∈ wordsK 3 an then 3 else 0) := hide (by
      unfold kindN
      rw [if_neg (by simp only [not_or]; exact ⟨h0, by omega, by omega, by rw [h3]; simp⟩)]
      rfl)
    clear h0 h1 h2 h3
    go_enter Tryd.func8, Tryd.ntmps8
    go_wp2_with
      first
      | (go_at_call 19
         refine (Tryd.strings_Contains_one s 32 w).mono ?_
         rintro e w' ⟨rfl, rfl⟩
         rw [index_byte, H3.out])
      | fail
    go_loop [20] (fun i => ∃ k : Nat, k ≤ 4 ∧ i = .int .i64 k ∧ ∀ j, j < k → s.data.toList ∉ wordsK j an) (fun i => 4 - (intOf i).toNat)
    case atStart => exact ⟨0, by omega, rfl, fun j hj => absurd hj (by omega)⟩
    case round =>
      obtain ⟨k, hk, rfl, hno⟩ := hrel
      have HNO := hide hno
      clear hno
      by_cases hlt : k < 4
      · have f0 := HL.out.1 k an hlt ha3
        obtain ⟨m, hm⟩ := HL.out.2
        have hk1 : (k : Int) < 4 := by omega
        have hk0 : (0 : Int) ≤ (k : Int) := by omega
        have ha1 : (an : Int) < 4 := by omega
        obtain ⟨hsp, hts, hwo⟩ := text_spaced k an hlt ha3
        obtain ⟨t, ht⟩ : ∃ t, textK k an = t := ⟨_, rfl⟩
        rw [ht] at f0 hsp hts
        have hc : Lib.contains ((⟨#[32]⟩ : ByteArray) ++ t ++ ⟨#[32]⟩).data.toList ((⟨#[32]⟩ : ByteArray) ++ s ++ ⟨#[32]⟩).data.toList = decide (s.data.toList ∈ wordsK k an) := by
          have e1 : ((⟨#[32]⟩ : ByteArray) ++ t ++ ⟨#[32]⟩).data.toList = spaced (wordsK k an) := by rw [← hsp]; simp
          have e2 : ((⟨#[32]⟩ : ByteArray) ++ s ++ ⟨#[32]⟩).data.toList = 32 :: (s.data.toList ++ [32]) := by simp
          rw [e1, e2]
          exact spaced_has H3.out H0.out hwo
        have HC := hide hc
        have hm1 : (⟨#[32]⟩ : ByteArray).size = 1 := rfl
        have z1 : ((⟨#[32]⟩ : ByteArray) ++ t).size = t.size + 1 := by rw [ByteArray.size_append, hm1]; omega
        have z2 : ((⟨#[32]⟩ : ByteArray) ++ s).size = s.size + 1 := by rw [ByteArray.size_append, hm1]; omega
        have z3 : ((⟨#[32]⟩ : ByteArray) ++ t ++ ⟨#[32]⟩).size < 4294967281 := by rw [ByteArray.size_append, z1, hm1]; omega
        have Z3 := hide z3
        clear ht hsp hwo hc z3 hm1
        cases hin : decide (s.data.toList ∈ wordsK k an) with
        | true =>
          have HIN := hide hin
          clear hin
          go_wp2_with
            first
            | (go_at_call 19
               refine (Tryd.strings_Contains _ _ m _ Z3.out hm).mono ?_
               rintro e w2 ⟨rfl, rfl⟩
               rw [HC.out, HIN.out])
            | fail
          go_ret
          have hv : kindN s.data.toList (an : Int) = (k : Int) := by
            have hi : s.data.toList ∈ wordsK k an := by simpa using HIN.out
            rw [HE.out]
            have hk' : k = 0 ∨ k = 1 ∨ k = 2 ∨ k = 3 := by omega
            rcases hk' with rfl | rfl | rfl | rfl
            · exact absurd hi (words_zero an H0.out)
            · rw [if_pos hi]; rfl
            · rw [if_neg (HNO.out 1 (by omega)), if_pos hi]; rfl
            · rw [if_neg (HNO.out 1 (by omega)), if_neg (HNO.out 2 (by omega)), if_pos hi]; rfl
          exact ⟨by rw [hv]; rfl, rfl⟩
        | false =>
          have HIN := hide hin
          clear hin
          go_wp2_with
            first
            | (go_at_call 19
               refine (Tryd.strings_Contains _ _ m _ Z3.out hm).mono ?_
               rintro e w2 ⟨rfl, rfl⟩
               rw [HC.out, HIN.out])
            | fail
          go_round
          case rel => exact ⟨k + 1, by omega, by go_num, fun j hj => by
            rcases Nat.lt_succ_iff_lt_or_eq.1 hj with h | rfl
            · exact HNO.out j h
            · simpa using HIN.out⟩
          case measure => simp [intOf]; omega
      · obtain rfl : k = 4 := by omega
        go_wp2
        go_ret
        have hv : kindN s.data.toList (an : Int) = 0 := by
          rw [HE.out, if_neg (HNO.out 1 (by omega)), if_neg (HNO.out 2 (by omega)), if_neg (HNO.out 3 (by omega))]
        exact ⟨by rw [hv]; rfl, rfl⟩
end Go.Proofs.YtincajfanhanjaaDoor
