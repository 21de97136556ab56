/- node.worded, of a variable. -/
import Derived.Test.YtincajfanhanjaaDoorWorded
namespace Go.Proofs.YtincajfanhanjaaDoor
open Go.RowKit

set_option maxRecDepth 100000 in
set_option maxHeartbeats 1000000 in
theorem worded_118 (w : World) (kd : Int) (tx : ByteArray) (nm pl : Int) (ka : Option Addr) (kn kc : Nat) (n : Nat) : Calls Tryd.prog 43 #[.agg #[.int .u8 kd, .string tx, .int .i64 nm, .int .i64 pl, .slice ka kn kc], .int .u8 118] w (WordP 118 tx n w) := by
  have HK := hide ((Keeps.refl NoB w).alloc (.cells #[.int .u8 kd, .string tx, .int .i64 nm, .int .i64 pl, .slice ka kn kc] 29))
  have HE : Hid (wordedN 118 tx.data.toList n = (!tx.data.toList.isEmpty && decide ((tx.size : Int) ≤ 40) && (match tx.data.toList with | [] => false | c :: _ => (65 ≤ c && c ≤ 90) || c == 95) && tx.data.toList.tail.all lettered)) := hide (by
    unfold wordedN
    rw [if_neg (by decide), if_neg (by decide), if_neg (by decide), if_pos rfl, tx_len]
    congr 3
    rw [decide_eq_decide]; omega)
  cases h : tx.data.toList.isEmpty with
  | true =>
    rw [h] at HE
    have b2 : tx.toList.isEmpty = true := by rw [Lib.toList_data]; exact h
    clear h
    go_enter Tryd.func43, Tryd.ntmps43
    go_wp2
    go_ret
    exact ⟨by rw [HE.out]; rfl, HK.out⟩
  | false =>
    have b2 : tx.toList.isEmpty = false := by rw [Lib.toList_data]; exact h
    cases h4 : decide ((tx.size : Int) ≤ 40) with
    | false =>
      rw [h, h4] at HE
      clear h
      go_enter Tryd.func43, Tryd.ntmps43
      go_wp2
      go_ret
      exact ⟨by rw [HE.out]; rfl, HK.out⟩
    | true =>
      have hsz : tx.size ≤ 40 := by simp at h4; omega
      have hs0 : 0 < tx.size := by
        rw [← tx_len]
        cases hh : tx.data.toList with
        | nil => rw [hh] at h; cases h
        | cons => simp
      obtain ⟨l, hl⟩ : ∃ l, tx.data.toList = tx[0] :: l := by
        cases hh : tx.data.toList with
        | nil => rw [hh] at h; cases h
        | cons a l =>
          refine ⟨l, ?_⟩
          congr 1
          have : tx.data.toList[0]? = some a := by rw [hh]; rfl
          have h2 : tx.data.toList[0]? = some tx[0] := by
            rw [List.getElem?_eq_getElem (by rw [tx_len]; exact hs0)]; rfl
          rw [this] at h2; injection h2
      have hex : lettersB (tx.extract 1 tx.size) = l.all lettered := by
        unfold lettersB
        have : (tx.extract 1 tx.size).data.toList = l := by
          rw [Lib.extract_data, hl]
          have : tx.size = l.length + 1 := by rw [← tx_len, hl]; rfl
          rw [this]
          simp
        rw [this]
      rw [h, h4, hl] at HE
      have HE2 : Hid (wordedN 118 (tx[0] :: l) n = ((decide (65 ≤ (tx[0].toNat : Int)) && decide ((tx[0].toNat : Int) ≤ 90) || decide ((tx[0].toNat : Int) = 95)) && lettersB (tx.extract 1 tx.size))) := hide (by
        rw [HE.out, hex]
        have e1 : decide ((65 : UInt8) ≤ tx[0]) = decide (65 ≤ (tx[0].toNat : Int)) := by
          rw [decide_eq_decide, UInt8.le_iff_toNat_le, show (65 : UInt8).toNat = 65 from rfl]; omega
        have e2 : decide (tx[0] ≤ (90 : UInt8)) = decide ((tx[0].toNat : Int) ≤ 90) := by
          rw [decide_eq_decide, UInt8.le_iff_toNat_le, show (90 : UInt8).toNat = 90 from rfl]; omega
        have e3 : (tx[0] == (95 : UInt8)) = decide ((tx[0].toNat : Int) = 95) := by
          rw [Bool.eq_iff_iff, beq_iff_eq, decide_eq_true_iff, ← UInt8.toNat_inj, show (95 : UInt8).toNat = 95 from rfl]; omega
        simp only [List.tail_cons]
        rw [e1, e2, e3]
        rfl)
      have HTX := hide hl
      have HSZ : Hid ((tx.extract 1 tx.size).size ≤ 1000000) := hide (by rw [ByteArray.size_extract]; omega)
      clear h hl hex HE
      have hs1 : (1 : Int) ≤ (tx.size : Int) := by omega
      have hs2 : (0 : Int) < (tx.size : Int) := by omega
      by_cases a1 : 65 ≤ (tx[0].toNat : Int)
      · by_cases a2 : (tx[0].toNat : Int) ≤ 90
        · have HH : Hid ((decide (65 ≤ (tx[0].toNat : Int)) && decide ((tx[0].toNat : Int) ≤ 90) || decide ((tx[0].toNat : Int) = 95)) = true) := hide (by rw [decide_eq_true a1, decide_eq_true a2]; rfl)
          cases hv : lettersB (tx.extract 1 tx.size) with
          | true =>
            have HV := hide hv
            clear hv
            go_enter Tryd.func43, Tryd.ntmps43
            go_wp2_with
              first
              | (go_at_call 56
                 refine (letters_any _ _ HSZ.out).mono ?_
                 rintro e w2 ⟨rfl, hk⟩
                 rw [HV.out]
                 have HK2 := hide (HK.out.trans' hk (fun _ _ => id) (fun _ _ => id) : Keeps NoB w w2)
                 clear hk)
              | fail
            go_ret
            exact ⟨by rw [HTX.out, HE2.out, HH.out, HV.out]; rfl, HK2.out⟩
          | false =>
            have HV := hide hv
            clear hv
            go_enter Tryd.func43, Tryd.ntmps43
            go_wp2_with
              first
              | (go_at_call 56
                 refine (letters_any _ _ HSZ.out).mono ?_
                 rintro e w2 ⟨rfl, hk⟩
                 rw [HV.out]
                 have HK2 := hide (HK.out.trans' hk (fun _ _ => id) (fun _ _ => id) : Keeps NoB w w2)
                 clear hk)
              | fail
            go_ret
            exact ⟨by rw [HTX.out, HE2.out, HH.out, HV.out]; rfl, HK2.out⟩
        · by_cases a3 : (tx[0].toNat : Int) = 95
          · have HH : Hid ((decide (65 ≤ (tx[0].toNat : Int)) && decide ((tx[0].toNat : Int) ≤ 90) || decide ((tx[0].toNat : Int) = 95)) = true) := hide (by simp [a3])
            have t3 : ((tx[0].toNat : Int) == 95) = true := by simpa using a3
            have a2' : 90 < (tx[0].toNat : Int) := by omega
            clear a3 a2
            cases hv : lettersB (tx.extract 1 tx.size) with
            | true =>
              have HV := hide hv
              clear hv
              go_enter Tryd.func43, Tryd.ntmps43
              go_wp2_with
                first
                | (go_at_call 56
                   refine (letters_any _ _ HSZ.out).mono ?_
                   rintro e w2 ⟨rfl, hk⟩
                   rw [HV.out]
                   have HK2 := hide (HK.out.trans' hk (fun _ _ => id) (fun _ _ => id) : Keeps NoB w w2)
                   clear hk)
                | fail
              go_ret
              exact ⟨by rw [HTX.out, HE2.out, HH.out, HV.out]; rfl, HK2.out⟩
            | false =>
              have HV := hide hv
              clear hv
              go_enter Tryd.func43, Tryd.ntmps43
              go_wp2_with
                first
                | (go_at_call 56
                   refine (letters_any _ _ HSZ.out).mono ?_
                   rintro e w2 ⟨rfl, hk⟩
                   rw [HV.out]
                   have HK2 := hide (HK.out.trans' hk (fun _ _ => id) (fun _ _ => id) : Keeps NoB w w2)
                   clear hk)
                | fail
              go_ret
              exact ⟨by rw [HTX.out, HE2.out, HH.out, HV.out]; rfl, HK2.out⟩
          · have HH : Hid ((decide (65 ≤ (tx[0].toNat : Int)) && decide ((tx[0].toNat : Int) ≤ 90) || decide ((tx[0].toNat : Int) = 95)) = false) := hide (by simp [a2, a3])
            have t3 : ((tx[0].toNat : Int) == 95) = false := by simpa using a3
            have a2' : 90 < (tx[0].toNat : Int) := by omega
            clear a2
            go_enter Tryd.func43, Tryd.ntmps43
            go_wp2
            go_ret
            exact ⟨by rw [HTX.out, HE2.out, HH.out]; rfl, HK.out⟩
      · have a3 : ¬ (tx[0].toNat : Int) = 95 := by omega
        have HH : Hid ((decide (65 ≤ (tx[0].toNat : Int)) && decide ((tx[0].toNat : Int) ≤ 90) || decide ((tx[0].toNat : Int) = 95)) = false) := hide (by rw [decide_eq_false a1, decide_eq_false a3]; rfl)
        have t3 : ((tx[0].toNat : Int) == 95) = false := by simpa using a3
        have a1' : (tx[0].toNat : Int) < 65 := by omega
        clear a1
        go_enter Tryd.func43, Tryd.ntmps43
        go_wp2
        go_ret
        exact ⟨by rw [HTX.out, HE2.out, HH.out]; rfl, HK.out⟩
end Go.Proofs.YtincajfanhanjaaDoor
