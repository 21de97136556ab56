/- node.worded. -/
import Derived.Test.YtincajfanhanjaaDoorNdWord
namespace Go.Proofs.YtincajfanhanjaaDoor
open Go.RowKit

def WordP (k : Int) (tx : ByteArray) (n : Nat) (w : World) (e : Ending) (w' : World) : Prop := e = .returned (.bool (wordedN k tx.data.toList n)) ∧ Keeps NoB w w'
theorem tx_len (tx : ByteArray) : tx.data.toList.length = tx.size := Array.length_toList
theorem drop_nil {p : UInt8 → Bool} : ∀ {l : List UInt8}, l.dropWhile p = [] ↔ ∀ x ∈ l, p x = true
  | [] => by simp
  | a :: l => by
    rw [List.dropWhile_cons]
    by_cases h : p a = true
    · rw [if_pos h, drop_nil]; simp [h]
    · rw [if_neg h]; simp [h]
theorem drop_head {p : UInt8 → Bool} {a : UInt8} {r : List UInt8} : ∀ {l : List UInt8}, l.dropWhile p = a :: r → p a = false
  | [], h => by simp at h
  | b :: l, h => by
    rw [List.dropWhile_cons] at h
    by_cases hb : p b = true
    · rw [if_pos hb] at h; exact drop_head h
    · rw [if_neg hb] at h
      injection h with h1 h2
      subst h1
      simpa using hb
theorem trim_nil (l cs : List UInt8) : (Lib.trimS l cs).isEmpty = l.all (fun c => cs.contains c) := by
  have h1 : Lib.trimS l cs = [] ↔ ∀ c ∈ l, cs.contains c = true := by
    unfold Lib.trimS Lib.trimLeftS Lib.trimRightS
    rw [drop_nil]
    constructor
    · intro h c hc
      cases hd : l.reverse.dropWhile (fun x => cs.contains x) with
      | nil => exact drop_nil.1 hd c (List.mem_reverse.2 hc)
      | cons a r =>
        have h2 := drop_head hd
        have h3 := h a (by rw [hd]; simp)
        rw [h2] at h3; cases h3
    · intro h c hc
      rw [List.mem_reverse] at hc
      exact h c (List.mem_reverse.1 ((List.dropWhile_sublist _).subset hc))
  rw [Bool.eq_iff_iff, List.isEmpty_iff, h1, List.all_eq_true]
theorem digit_in (c : UInt8) : ([48, 49, 50, 51, 52, 53, 54, 55, 56, 57] : List UInt8).contains c = (48 ≤ c && c ≤ 57) := by
  rw [Bool.eq_iff_iff]
  simp only [List.contains_eq_mem, List.mem_cons, List.not_mem_nil, or_false, Bool.and_eq_true, decide_eq_true_eq, UInt8.le_iff_toNat_le, ← UInt8.toNat_inj]
  simp only [show (48 : UInt8).toNat = 48 from rfl, show (49 : UInt8).toNat = 49 from rfl, show (50 : UInt8).toNat = 50 from rfl, show (51 : UInt8).toNat = 51 from rfl, show (52 : UInt8).toNat = 52 from rfl, show (53 : UInt8).toNat = 53 from rfl, show (54 : UInt8).toNat = 54 from rfl, show (55 : UInt8).toNat = 55 from rfl, show (56 : UInt8).toNat = 56 from rfl, show (57 : UInt8).toNat = 57 from rfl]
  omega

set_option maxRecDepth 100000 in
theorem worded_110 (w : World) (kd : Int) (tx : ByteArray) (nm pl : Int) (ka : Option Addr) (kn kc : Nat) (n : Nat) : Calls Tryd.prog 43 #[.agg #[.int .u8 kd, .string tx, .int .i64 nm, .int .i64 pl, .slice ka kn kc], .int .u8 110] w (WordP 110 tx n w) := by
  have HK := hide ((Keeps.refl NoB w).alloc (.cells #[.int .u8 kd, .string tx, .int .i64 nm, .int .i64 pl, .slice ka kn kc] 29))
  have HE : Hid (wordedN 110 tx.data.toList n = decide ((tx.size : Int) ≤ 40)) := hide (by
    unfold wordedN
    rw [if_pos rfl, tx_len, decide_eq_decide]; omega)
  cases h : decide ((tx.size : Int) ≤ 40) with
  | true =>
    rw [h] at HE
    go_enter Tryd.func43, Tryd.ntmps43
    go_wp2
    go_ret
    exact ⟨by rw [HE.out]; rfl, HK.out⟩
  | false =>
    rw [h] at HE
    go_enter Tryd.func43, Tryd.ntmps43
    go_wp2
    go_ret
    exact ⟨by rw [HE.out]; rfl, HK.out⟩
set_option maxRecDepth 100000 in
theorem worded_115 (w : World) (kd : Int) (tx : ByteArray) (nm pl : Int) (ka : Option Addr) (kn kc : Nat) (n : Nat) : Calls Tryd.prog 43 #[.agg #[.int .u8 kd, .string tx, .int .i64 nm, .int .i64 pl, .slice ka kn kc], .int .u8 115] w (WordP 115 tx n w) := by
  have HK := hide ((Keeps.refl NoB w).alloc (.cells #[.int .u8 kd, .string tx, .int .i64 nm, .int .i64 pl, .slice ka kn kc] 29))
  have HE : Hid (wordedN 115 tx.data.toList n = decide ((tx.size : Int) ≤ 400)) := hide (by
    unfold wordedN
    rw [if_neg (by decide), if_pos rfl, tx_len, decide_eq_decide]; omega)
  cases h : decide ((tx.size : Int) ≤ 400) with
  | true =>
    rw [h] at HE
    go_enter Tryd.func43, Tryd.ntmps43
    go_wp2
    go_ret
    exact ⟨by rw [HE.out]; rfl, HK.out⟩
  | false =>
    rw [h] at HE
    go_enter Tryd.func43, Tryd.ntmps43
    go_wp2
    go_ret
    exact ⟨by rw [HE.out]; rfl, HK.out⟩

set_option maxRecDepth 100000 in
theorem worded_0 (w : World) (kd : Int) (tx : ByteArray) (nm pl : Int) (ka : Option Addr) (kn kc : Nat) (n : Nat) : Calls Tryd.prog 43 #[.agg #[.int .u8 kd, .string tx, .int .i64 nm, .int .i64 pl, .slice ka kn kc], .int .u8 0] w (WordP 0 tx n w) := by
  have HK := hide ((Keeps.refl NoB w).alloc (.cells #[.int .u8 kd, .string tx, .int .i64 nm, .int .i64 pl, .slice ka kn kc] 29))
  have HE : Hid (wordedN 0 tx.data.toList n = tx.data.toList.isEmpty) := hide (by
    unfold wordedN
    rw [if_neg (by decide), if_neg (by decide), if_neg (by decide), if_neg (by decide), if_neg (by decide)])
  cases h : tx.data.toList.isEmpty with
  | true =>
    rw [h] at HE
    have b2 : tx.toList.isEmpty = true := by rw [Lib.toList_data]; exact h
    clear h
    go_enter Tryd.func43, Tryd.ntmps43
    go_wp2
    go_ret
    exact ⟨by rw [HE.out]; rfl, HK.out⟩
  | false =>
    rw [h] at HE
    have b2 : tx.toList.isEmpty = false := by rw [Lib.toList_data]; exact h
    clear h
    go_enter Tryd.func43, Tryd.ntmps43
    go_wp2
    go_ret
    exact ⟨by rw [HE.out]; rfl, HK.out⟩

set_option maxRecDepth 100000 in
theorem worded_100 (w : World) (kd : Int) (tx : ByteArray) (nm pl : Int) (ka : Option Addr) (kn kc : Nat) (n : Nat) : Calls Tryd.prog 43 #[.agg #[.int .u8 kd, .string tx, .int .i64 nm, .int .i64 pl, .slice ka kn kc], .int .u8 100] w (WordP 100 tx n w) := by
  have HK := hide ((Keeps.refl NoB w).alloc (.cells #[.int .u8 kd, .string tx, .int .i64 nm, .int .i64 pl, .slice ka kn kc] 29))
  have HE : Hid (wordedN 100 tx.data.toList n = (!tx.data.toList.isEmpty && decide ((tx.size : Int) ≤ 400) && (Lib.trimS tx.data.toList [48, 49, 50, 51, 52, 53, 54, 55, 56, 57]).isEmpty)) := hide (by
    unfold wordedN
    rw [if_neg (by decide), if_neg (by decide), if_pos rfl, tx_len, trim_nil]
    congr 1
    · congr 1
      rw [decide_eq_decide]; omega
    · congr 1
      funext c
      exact (digit_in c).symm)
  cases h : tx.data.toList.isEmpty with
  | true =>
    rw [h] at HE
    have b2 : tx.toList.isEmpty = true := by rw [Lib.toList_data]; exact h
    clear h
    go_enter Tryd.func43, Tryd.ntmps43
    go_wp2
    go_ret
    exact ⟨by rw [HE.out]; rfl, HK.out⟩
  | false =>
    have b2 : tx.toList.isEmpty = false := by rw [Lib.toList_data]; exact h
    cases h4 : decide ((tx.size : Int) ≤ 400) with
    | false =>
      rw [h, h4] at HE
      clear h
      go_enter Tryd.func43, Tryd.ntmps43
      go_wp2
      go_ret
      exact ⟨by rw [HE.out]; rfl, HK.out⟩
    | true =>
      have hsz : tx.size ≤ 400 := by simp at h4; omega
      rw [h, h4] at HE
      clear h
      cases h5 : (Lib.trimS tx.data.toList [48, 49, 50, 51, 52, 53, 54, 55, 56, 57]).isEmpty with
      | true =>
        rw [h5] at HE
        have H5 := hide h5
        clear h5
        go_enter Tryd.func43, Tryd.ntmps43
        go_wp2_with
          first
          | (go_at_call 55
             refine (Tryd.strings_Trim tx ⟨#[48, 49, 50, 51, 52, 53, 54, 55, 56, 57]⟩ _ (by omega) (by decide) (ascii_of_all (by decide))).mono ?_
             rintro e w2 ⟨rfl, hbel⟩
             have HK2 := hide (HK.out.trans' (Keeps.of_below hbel NoB) (fun _ _ => id) (fun _ _ => id) : Keeps NoB w w2)
             have h6 : Lib.trimS tx.data.toList [48, 49, 50, 51, 52, 53, 54, 55, 56, 57] = [] := by simpa using H5.out
             rw [h6]
             clear hbel h6)
          | fail
        go_ret
        exact ⟨by rw [HE.out]; rfl, HK2.out⟩
      | false =>
        rw [h5] at HE
        have H5 := hide h5
        clear h5
        go_enter Tryd.func43, Tryd.ntmps43
        go_wp2_with
          first
          | (go_at_call 55
             refine (Tryd.strings_Trim tx ⟨#[48, 49, 50, 51, 52, 53, 54, 55, 56, 57]⟩ _ (by omega) (by decide) (ascii_of_all (by decide))).mono ?_
             rintro e w2 ⟨rfl, hbel⟩
             have HK2 := hide (HK.out.trans' (Keeps.of_below hbel NoB) (fun _ _ => id) (fun _ _ => id) : Keeps NoB w w2)
             obtain ⟨r, hr⟩ : ∃ r, Lib.trimS tx.data.toList [48, 49, 50, 51, 52, 53, 54, 55, 56, 57] = r := ⟨_, rfl⟩
             have h6 : r.isEmpty = false := by rw [← hr]; exact H5.out
             have h7 : ({ data := r.toArray } : ByteArray).toList.isEmpty = false := by rw [Lib.toList_data]; simpa using h6
             rw [show (Lib.trimS tx.data.toList (⟨#[48, 49, 50, 51, 52, 53, 54, 55, 56, 57]⟩ : ByteArray).data.toList) = r from hr]
             clear hbel hr)
          | fail
        go_ret
        exact ⟨by rw [HE.out]; rfl, HK2.out⟩

def opsB (two : Bool) : ByteArray := if two then ⟨#[32, 33, 32, 111, 114, 101, 108, 115, 101, 32, 97, 110, 100, 97, 108, 115, 111, 32, 61, 61, 32, 47, 61, 32, 61, 58, 61, 32, 61, 47, 61, 32, 60, 32, 61, 60, 32, 62, 32, 62, 61, 32, 43, 43, 32, 45, 45, 32, 43, 32, 45, 32, 111, 114, 32, 120, 111, 114, 32, 42, 32, 100, 105, 118, 32, 114, 101, 109, 32, 97, 110, 100, 32]⟩ else ⟨#[32, 45, 32, 43, 32, 110, 111, 116, 32]⟩
def opsW (two : Bool) : List (List UInt8) := if two then binaryW else unaryW
theorem ops_spaced (two : Bool) : (opsB two).data.toList = spaced (opsW two) ∧ (opsB two).size < 1000 ∧ ∀ w ∈ opsW two, w.contains 32 = false := by
  cases two <;> exact ⟨by decide +kernel, by decide +kernel, by decide +kernel⟩
set_option maxRecDepth 100000 in
set_option maxHeartbeats 1000000 in
theorem worded_111 (w : World) (kd : Int) (tx : ByteArray) (nm pl : Int) (ka : Option Addr) (kn kc : Nat) (hL : LaidN w) (ht : tx.size ≤ 140737488355328) (hkn : kn ≤ 9223372036854775807) : Calls Tryd.prog 43 #[.agg #[.int .u8 kd, .string tx, .int .i64 nm, .int .i64 pl, .slice ka kn kc], .int .u8 111] w (WordP 111 tx kn w) := by
  have HK := hide ((Keeps.refl NoB w).alloc (.cells #[.int .u8 kd, .string tx, .int .i64 nm, .int .i64 pl, .slice ka kn kc] 29))
  have HE : Hid (wordedN 111 tx.data.toList kn = (!tx.data.toList.isEmpty && !tx.data.toList.contains 32 && decide (tx.data.toList ∈ opsW (decide (kn = 2))))) := hide (by
    unfold wordedN
    rw [if_neg (by decide), if_neg (by decide), if_neg (by decide), if_neg (by decide), if_pos rfl]
    congr 1
    unfold opsW
    by_cases h : kn = 2
    · rw [if_pos h, if_pos (by simpa using h)]
    · rw [if_neg h, if_neg (by simpa using h)])
  have HL := hide hL
  clear hL
  by_cases hk2 : kn = 2
  · rw [decide_eq_true hk2] at HE
    subst hk2
    cases h : tx.data.toList.isEmpty with
    | true =>
      rw [h] at HE
      have b2 : tx.toList.isEmpty = true := by rw [Lib.toList_data]; exact h
      clear h
      go_enter Tryd.func43, Tryd.ntmps43
      go_wp2
      go_ret
      exact ⟨by rw [HE.out]; rfl, HK.out⟩
    | false =>
      have b2 : tx.toList.isEmpty = false := by rw [Lib.toList_data]; exact h
      have H0 : Hid (tx.data.toList ≠ []) := hide (by rintro e; rw [e] at h; cases h)
      cases h3 : tx.data.toList.contains 32 with
      | true =>
        rw [h, h3] at HE
        have H3 := hide h3
        clear h h3
        go_enter Tryd.func43, Tryd.ntmps43
        go_wp2_with
          first
          | (go_at_call 19
             refine (Tryd.strings_Contains_one tx 32 _).mono ?_
             rintro e w2 ⟨rfl, rfl⟩
             rw [index_byte, H3.out])
          | fail
        go_ret
        exact ⟨by rw [HE.out]; rfl, HK.out⟩
      | false =>
        obtain ⟨hsp, hts, hwo⟩ := ops_spaced true
        have hops : opsB true = (⟨#[32, 33, 32, 111, 114, 101, 108, 115, 101, 32, 97, 110, 100, 97, 108, 115, 111, 32, 61, 61, 32, 47, 61, 32, 61, 58, 61, 32, 61, 47, 61, 32, 60, 32, 61, 60, 32, 62, 32, 62, 61, 32, 43, 43, 32, 45, 45, 32, 43, 32, 45, 32, 111, 114, 32, 120, 111, 114, 32, 42, 32, 100, 105, 118, 32, 114, 101, 109, 32, 97, 110, 100, 32]⟩ : ByteArray) := rfl
        rw [hops] at hsp hts
        obtain ⟨m, hm⟩ := (HL.out.kind.keep HK.out).2
        have hc : Lib.contains ((⟨#[32, 33, 32, 111, 114, 101, 108, 115, 101, 32, 97, 110, 100, 97, 108, 115, 111, 32, 61, 61, 32, 47, 61, 32, 61, 58, 61, 32, 61, 47, 61, 32, 60, 32, 61, 60, 32, 62, 32, 62, 61, 32, 43, 43, 32, 45, 45, 32, 43, 32, 45, 32, 111, 114, 32, 120, 111, 114, 32, 42, 32, 100, 105, 118, 32, 114, 101, 109, 32, 97, 110, 100, 32]⟩ : ByteArray)).data.toList ((⟨#[32]⟩ : ByteArray) ++ tx ++ ⟨#[32]⟩).data.toList = decide (tx.data.toList ∈ opsW true) := by
          have e2 : ((⟨#[32]⟩ : ByteArray) ++ tx ++ ⟨#[32]⟩).data.toList = 32 :: (tx.data.toList ++ [32]) := by simp
          rw [hsp, e2]
          exact spaced_has h3 H0.out hwo
        have HC := hide hc
        have hm1 : (⟨#[32]⟩ : ByteArray).size = 1 := rfl
        have z2 : ((⟨#[32]⟩ : ByteArray) ++ tx).size = tx.size + 1 := by rw [ByteArray.size_append, hm1]; omega
        have H3 := hide h3; have HM := hide hm; have HTS : Hid (((⟨#[32, 33, 32, 111, 114, 101, 108, 115, 101, 32, 97, 110, 100, 97, 108, 115, 111, 32, 61, 61, 32, 47, 61, 32, 61, 58, 61, 32, 61, 47, 61, 32, 60, 32, 61, 60, 32, 62, 32, 62, 61, 32, 43, 43, 32, 45, 45, 32, 43, 32, 45, 32, 111, 114, 32, 120, 111, 114, 32, 42, 32, 100, 105, 118, 32, 114, 101, 109, 32, 97, 110, 100, 32]⟩ : ByteArray)).size < 4294967281) := hide (by omega)
        have HCALL := hide (Tryd.strings_Contains (⟨#[32, 33, 32, 111, 114, 101, 108, 115, 101, 32, 97, 110, 100, 97, 108, 115, 111, 32, 61, 61, 32, 47, 61, 32, 61, 58, 61, 32, 61, 47, 61, 32, 60, 32, 61, 60, 32, 62, 32, 62, 61, 32, 43, 43, 32, 45, 45, 32, 43, 32, 45, 32, 111, 114, 32, 120, 111, 114, 32, 42, 32, 100, 105, 118, 32, 114, 101, 109, 32, 97, 110, 100, 32]⟩ : ByteArray) ((⟨#[32]⟩ : ByteArray) ++ tx ++ ⟨#[32]⟩) m _ HTS.out HM.out)
        clear hsp hts hwo hc hm1 hm hops
        cases hin : decide (tx.data.toList ∈ opsW true) with
        | true =>
          rw [h, h3, hin] at HE
          have HIN := hide hin
          clear h h3 hin
          have tok : True := trivial
          go_enter Tryd.func43, Tryd.ntmps43
          go_wp2_with
            first
            | (go_at_call 19
               have _t := tok
               refine (Tryd.strings_Contains_one tx 32 _).mono ?_
               rintro e w2 ⟨rfl, rfl⟩
               rw [index_byte, H3.out]
               clear tok)
            | (go_at_call 19
               refine HCALL.out.mono ?_
               rintro e w3 ⟨rfl, rfl⟩
               rw [HC.out, HIN.out])
            | fail
          go_ret
          exact ⟨by rw [HE.out]; rfl, HK.out⟩
        | false =>
          rw [h, h3, hin] at HE
          have HIN := hide hin
          clear h h3 hin
          have tok : True := trivial
          go_enter Tryd.func43, Tryd.ntmps43
          go_wp2_with
            first
            | (go_at_call 19
               have _t := tok
               refine (Tryd.strings_Contains_one tx 32 _).mono ?_
               rintro e w2 ⟨rfl, rfl⟩
               rw [index_byte, H3.out]
               clear tok)
            | (go_at_call 19
               refine HCALL.out.mono ?_
               rintro e w3 ⟨rfl, rfl⟩
               rw [HC.out, HIN.out])
            | fail
          go_ret
          exact ⟨by rw [HE.out]; rfl, HK.out⟩
  · rw [decide_eq_false hk2] at HE
    have bk : ((kn : Int) == 2) = false := by simp; omega
    cases h : tx.data.toList.isEmpty with
    | true =>
      rw [h] at HE
      have b2 : tx.toList.isEmpty = true := by rw [Lib.toList_data]; exact h
      clear h
      go_enter Tryd.func43, Tryd.ntmps43
      go_wp2
      go_ret
      exact ⟨by rw [HE.out]; rfl, HK.out⟩
    | false =>
      have b2 : tx.toList.isEmpty = false := by rw [Lib.toList_data]; exact h
      have H0 : Hid (tx.data.toList ≠ []) := hide (by rintro e; rw [e] at h; cases h)
      cases h3 : tx.data.toList.contains 32 with
      | true =>
        rw [h, h3] at HE
        have H3 := hide h3
        clear h h3
        go_enter Tryd.func43, Tryd.ntmps43
        go_wp2_with
          first
          | (go_at_call 19
             refine (Tryd.strings_Contains_one tx 32 _).mono ?_
             rintro e w2 ⟨rfl, rfl⟩
             rw [index_byte, H3.out])
          | fail
        go_ret
        exact ⟨by rw [HE.out]; rfl, HK.out⟩
      | false =>
        obtain ⟨hsp, hts, hwo⟩ := ops_spaced false
        have hops : opsB false = (⟨#[32, 45, 32, 43, 32, 110, 111, 116, 32]⟩ : ByteArray) := rfl
        rw [hops] at hsp hts
        obtain ⟨m, hm⟩ := (HL.out.kind.keep HK.out).2
        have hc : Lib.contains ((⟨#[32, 45, 32, 43, 32, 110, 111, 116, 32]⟩ : ByteArray)).data.toList ((⟨#[32]⟩ : ByteArray) ++ tx ++ ⟨#[32]⟩).data.toList = decide (tx.data.toList ∈ opsW false) := by
          have e2 : ((⟨#[32]⟩ : ByteArray) ++ tx ++ ⟨#[32]⟩).data.toList = 32 :: (tx.data.toList ++ [32]) := by simp
          rw [hsp, e2]
          exact spaced_has h3 H0.out hwo
        have HC := hide hc
        have hm1 : (⟨#[32]⟩ : ByteArray).size = 1 := rfl
        have z2 : ((⟨#[32]⟩ : ByteArray) ++ tx).size = tx.size + 1 := by rw [ByteArray.size_append, hm1]; omega
        have H3 := hide h3; have HM := hide hm; have HTS : Hid (((⟨#[32, 45, 32, 43, 32, 110, 111, 116, 32]⟩ : ByteArray)).size < 4294967281) := hide (by omega)
        have HCALL := hide (Tryd.strings_Contains (⟨#[32, 45, 32, 43, 32, 110, 111, 116, 32]⟩ : ByteArray) ((⟨#[32]⟩ : ByteArray) ++ tx ++ ⟨#[32]⟩) m _ HTS.out HM.out)
        clear hsp hts hwo hc hm1 hm hops
        cases hin : decide (tx.data.toList ∈ opsW false) with
        | true =>
          rw [h, h3, hin] at HE
          have HIN := hide hin
          clear h h3 hin
          have tok : True := trivial
          go_enter Tryd.func43, Tryd.ntmps43
          go_wp2_with
            first
            | (go_at_call 19
               have _t := tok
               refine (Tryd.strings_Contains_one tx 32 _).mono ?_
               rintro e w2 ⟨rfl, rfl⟩
               rw [index_byte, H3.out]
               clear tok)
            | (go_at_call 19
               refine HCALL.out.mono ?_
               rintro e w3 ⟨rfl, rfl⟩
               rw [HC.out, HIN.out])
            | fail
          go_ret
          exact ⟨by rw [HE.out]; rfl, HK.out⟩
        | false =>
          rw [h, h3, hin] at HE
          have HIN := hide hin
          clear h h3 hin
          have tok : True := trivial
          go_enter Tryd.func43, Tryd.ntmps43
          go_wp2_with
            first
            | (go_at_call 19
               have _t := tok
               refine (Tryd.strings_Contains_one tx 32 _).mono ?_
               rintro e w2 ⟨rfl, rfl⟩
               rw [index_byte, H3.out]
               clear tok)
            | (go_at_call 19
               refine HCALL.out.mono ?_
               rintro e w3 ⟨rfl, rfl⟩
               rw [HC.out, HIN.out])
            | fail
          go_ret
          exact ⟨by rw [HE.out]; rfl, HK.out⟩
end Go.Proofs.YtincajfanhanjaaDoor
