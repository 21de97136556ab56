/- node.among: whether all bytes are letters, digits, _ and @. -/
import Derived.Test.YtincajfanhanjaaDoorNdAll
import Derived.Lib.ConvBytes
namespace Go.Proofs.YtincajfanhanjaaDoor
open Go.RowKit

theorem bytes_keeps (w : World) (e : TypeId) (s : ByteArray) : Keeps NoB w (Lib.bytesWorld w e s) :=
  ⟨rfl, rfl, rfl, by rw [Lib.bytesWorld_size]; omega, fun k hk _ => Lib.bytesWorld_at_old w e s k hk⟩
theorem lettered_int (b : UInt8) : lettered b = (decide (97 ≤ (b.toNat : Int)) && decide ((b.toNat : Int) ≤ 122) || decide (65 ≤ (b.toNat : Int)) && decide ((b.toNat : Int) ≤ 90) || decide (48 ≤ (b.toNat : Int)) && decide ((b.toNat : Int) ≤ 57) || decide ((b.toNat : Int) = 95) || decide ((b.toNat : Int) = 64)) := by
  unfold lettered
  have h1 : ∀ n : Nat, n < 256 → (decide ((UInt8.ofNat n) ≤ b) = decide ((n : Int) ≤ (b.toNat : Int))) := fun n hn => by
    rw [decide_eq_decide, UInt8.le_iff_toNat_le, UInt8.toNat_ofNat']; omega
  have h2 : ∀ n : Nat, n < 256 → (decide (b ≤ (UInt8.ofNat n)) = decide ((b.toNat : Int) ≤ (n : Int))) := fun n hn => by
    rw [decide_eq_decide, UInt8.le_iff_toNat_le, UInt8.toNat_ofNat']; omega
  have h3 : ∀ n : Nat, n < 256 → ((b == UInt8.ofNat n) = decide ((b.toNat : Int) = (n : Int))) := fun n hn => by
    rw [Bool.eq_iff_iff, beq_iff_eq, decide_eq_true_iff, ← UInt8.toNat_inj, UInt8.toNat_ofNat']; omega
  have e1 := h1 97 (by omega); have e2 := h2 122 (by omega); have e3 := h1 65 (by omega); have e4 := h2 90 (by omega); have e5 := h1 48 (by omega); have e6 := h2 57 (by omega); have e7 := h3 95 (by omega); have e8 := h3 64 (by omega)
  show (decide (UInt8.ofNat 97 ≤ b) && decide (b ≤ UInt8.ofNat 122) || decide (UInt8.ofNat 65 ≤ b) && decide (b ≤ UInt8.ofNat 90) || decide (UInt8.ofNat 48 ≤ b) && decide (b ≤ UInt8.ofNat 57) || (b == UInt8.ofNat 95) || (b == UInt8.ofNat 64)) = _
  rw [e1, e2, e3, e4, e5, e6, e7, e8]
  rfl
theorem all_take_u {f : UInt8 → Bool} {l : List UInt8} {k : Nat} {b : UInt8} (h : l[k]? = some b) : (l.take (k + 1)).all f = ((l.take k).all f && f b) := by
  rw [List.take_add_one, h, List.all_append]; simp

def lettersB (s : ByteArray) : Bool := s.data.toList.all lettered
set_option maxRecDepth 100000 in
set_option maxHeartbeats 2000000 in
theorem letters_any (s : ByteArray) (w : World) (hs : s.size ≤ 1000000) :
    Calls Tryd.prog 56 #[.string s] w fun e w' => e = .returned (.bool (lettersB s)) ∧ Keeps NoB w w' := by
  have hconv : (convert 9 88 (.string s)).run Tryd.prog w = .ok (.slice (some ⟨w.heap.size, 0, none⟩) s.size (grownCap w s.size 0 5)) (Lib.bytesWorld w 5 s) := Lib.run_convert_string_bytes w 9 88 5 s Tryd.underlying9 Tryd.underlying88 Tryd.underlying5
  have HC := hide (fun j hj => Lib.bytesWorld_cell w 5 s j hj)
  have HK := hide (bytes_keeps w 5 s)
  generalize grownCap w s.size 0 5 = cap at *
  generalize Lib.bytesWorld w 5 s = w1 at *
  generalize w.heap.size = g at *
  go_enter Tryd.func56, Tryd.ntmps56
  go_wp2
  clear hconv
  have HSZ : Hid (s.data.toList.length = s.size) := hide Array.length_toList
  go_loop [8] (fun i => ∃ k : Nat, k ≤ s.size ∧ i = .int .i64 k ∧ Hid ((s.data.toList.take k).all lettered = true)) (fun i => s.size - (intOf i).toNat)
  case atStart => exact ⟨0, Nat.zero_le _, rfl, hide (by rw [List.take_zero]; rfl)⟩
  case round =>
    obtain ⟨k, hk, rfl, HMT⟩ := hrel
    by_cases hlt : k < s.size
    · obtain ⟨b, hb⟩ : ∃ b, s.data.toList[k]? = some b := ⟨_, List.getElem?_eq_getElem (by rw [HSZ.out]; exact hlt)⟩
      have f0 : w1.cell? ⟨g, k, none⟩ = some (.int .u8 (b.toNat : Int)) := by
        have h := HC.out k hlt
        rw [h]
        congr 3
        rw [List.getD_eq_getElem?_getD, hb]; rfl
      have hc0 : (0 : Int) ≤ (b.toNat : Int) := by omega
      have hc1 : (b.toNat : Int) < 256 := by have := b.toNat_lt; omega
      have hlet := lettered_int b
      have HB := hide hb
      obtain ⟨c, hc⟩ : ∃ c : Int, (b.toNat : Int) = c := ⟨_, rfl⟩
      rw [hc] at f0 hc0 hc1 hlet
      have HLT := hide hlet
      have hk1 : (k : Int) < (s.size : Int) := by omega
      have hk0 : (0 : Int) ≤ (k : Int) := by omega
      clear hb hc hlet
      have hr : c < 48 ∨ (48 ≤ c ∧ c ≤ 57) ∨ (58 ≤ c ∧ c ≤ 63) ∨ c = 64 ∨ (65 ≤ c ∧ c ≤ 90) ∨ (91 ≤ c ∧ c ≤ 94) ∨ c = 95 ∨ c = 96 ∨ (97 ≤ c ∧ c ≤ 122) ∨ 123 ≤ c := by omega
      rcases hr with hr | hr | hr | hr | hr | hr | hr | hr | hr | hr
      ·
        have t1 : decide ((97 : Int) ≤ c) = false := by simp; omega
        have t2 : decide (c ≤ (122 : Int)) = true := by simp; omega
        have t3 : decide ((65 : Int) ≤ c) = false := by simp; omega
        have t4 : decide (c ≤ (90 : Int)) = true := by simp; omega
        have t5 : decide ((48 : Int) ≤ c) = false := by simp; omega
        have t6 : decide (c ≤ (57 : Int)) = true := by simp; omega
        have t7 : (c == (95 : Int)) = false := by simp; omega
        have t8 : (c == (64 : Int)) = false := by simp; omega
        have u7 : decide (c = (95 : Int)) = false := by simp; omega
        have u8 : decide (c = (64 : Int)) = false := by simp; omega
        have HV : Hid (lettered b = false) := hide (by rw [HLT.out, t1, t2, t3, t4, t5, t6, u7, u8]; rfl)
        clear u7 u8 hr
        go_wp2
        go_ret
        have hno : s.data.toList.all lettered = false := by
          cases hh : s.data.toList.all lettered with
          | false => rfl
          | true => have := List.all_eq_true.1 hh b (List.mem_of_getElem? HB.out); rw [HV.out] at this; cases this
        exact ⟨by unfold lettersB; rw [hno]; rfl, HK.out⟩
      ·
        have t1 : decide ((97 : Int) ≤ c) = false := by simp; omega
        have t2 : decide (c ≤ (122 : Int)) = true := by simp; omega
        have t3 : decide ((65 : Int) ≤ c) = false := by simp; omega
        have t4 : decide (c ≤ (90 : Int)) = true := by simp; omega
        have t5 : decide ((48 : Int) ≤ c) = true := by simp; omega
        have t6 : decide (c ≤ (57 : Int)) = true := by simp; omega
        have t7 : (c == (95 : Int)) = false := by simp; omega
        have t8 : (c == (64 : Int)) = false := by simp; omega
        have u7 : decide (c = (95 : Int)) = false := by simp; omega
        have u8 : decide (c = (64 : Int)) = false := by simp; omega
        have HV : Hid (lettered b = true) := hide (by rw [HLT.out, t1, t2, t3, t4, t5, t6, u7, u8]; rfl)
        clear u7 u8 hr
        go_wp2
        go_round
        case rel => exact ⟨k + 1, by omega, by go_num, hide (by rw [all_take_u HB.out, HMT.out, HV.out]; rfl)⟩
        case measure => simp [intOf]; omega
      ·
        have t1 : decide ((97 : Int) ≤ c) = false := by simp; omega
        have t2 : decide (c ≤ (122 : Int)) = true := by simp; omega
        have t3 : decide ((65 : Int) ≤ c) = false := by simp; omega
        have t4 : decide (c ≤ (90 : Int)) = true := by simp; omega
        have t5 : decide ((48 : Int) ≤ c) = true := by simp; omega
        have t6 : decide (c ≤ (57 : Int)) = false := by simp; omega
        have t7 : (c == (95 : Int)) = false := by simp; omega
        have t8 : (c == (64 : Int)) = false := by simp; omega
        have u7 : decide (c = (95 : Int)) = false := by simp; omega
        have u8 : decide (c = (64 : Int)) = false := by simp; omega
        have HV : Hid (lettered b = false) := hide (by rw [HLT.out, t1, t2, t3, t4, t5, t6, u7, u8]; rfl)
        clear u7 u8 hr
        go_wp2
        go_ret
        have hno : s.data.toList.all lettered = false := by
          cases hh : s.data.toList.all lettered with
          | false => rfl
          | true => have := List.all_eq_true.1 hh b (List.mem_of_getElem? HB.out); rw [HV.out] at this; cases this
        exact ⟨by unfold lettersB; rw [hno]; rfl, HK.out⟩
      ·
        have t1 : decide ((97 : Int) ≤ c) = false := by simp; omega
        have t2 : decide (c ≤ (122 : Int)) = true := by simp; omega
        have t3 : decide ((65 : Int) ≤ c) = false := by simp; omega
        have t4 : decide (c ≤ (90 : Int)) = true := by simp; omega
        have t5 : decide ((48 : Int) ≤ c) = true := by simp; omega
        have t6 : decide (c ≤ (57 : Int)) = false := by simp; omega
        have t7 : (c == (95 : Int)) = false := by simp; omega
        have t8 : (c == (64 : Int)) = true := by simp; omega
        have u7 : decide (c = (95 : Int)) = false := by simp; omega
        have u8 : decide (c = (64 : Int)) = true := by simp; omega
        have HV : Hid (lettered b = true) := hide (by rw [HLT.out, t1, t2, t3, t4, t5, t6, u7, u8]; rfl)
        clear u7 u8 hr
        go_wp2
        go_round
        case rel => exact ⟨k + 1, by omega, by go_num, hide (by rw [all_take_u HB.out, HMT.out, HV.out]; rfl)⟩
        case measure => simp [intOf]; omega
      ·
        have t1 : decide ((97 : Int) ≤ c) = false := by simp; omega
        have t2 : decide (c ≤ (122 : Int)) = true := by simp; omega
        have t3 : decide ((65 : Int) ≤ c) = true := by simp; omega
        have t4 : decide (c ≤ (90 : Int)) = true := by simp; omega
        have t5 : decide ((48 : Int) ≤ c) = true := by simp; omega
        have t6 : decide (c ≤ (57 : Int)) = false := by simp; omega
        have t7 : (c == (95 : Int)) = false := by simp; omega
        have t8 : (c == (64 : Int)) = false := by simp; omega
        have u7 : decide (c = (95 : Int)) = false := by simp; omega
        have u8 : decide (c = (64 : Int)) = false := by simp; omega
        have HV : Hid (lettered b = true) := hide (by rw [HLT.out, t1, t2, t3, t4, t5, t6, u7, u8]; rfl)
        clear u7 u8 hr
        go_wp2
        go_round
        case rel => exact ⟨k + 1, by omega, by go_num, hide (by rw [all_take_u HB.out, HMT.out, HV.out]; rfl)⟩
        case measure => simp [intOf]; omega
      ·
        have t1 : decide ((97 : Int) ≤ c) = false := by simp; omega
        have t2 : decide (c ≤ (122 : Int)) = true := by simp; omega
        have t3 : decide ((65 : Int) ≤ c) = true := by simp; omega
        have t4 : decide (c ≤ (90 : Int)) = false := by simp; omega
        have t5 : decide ((48 : Int) ≤ c) = true := by simp; omega
        have t6 : decide (c ≤ (57 : Int)) = false := by simp; omega
        have t7 : (c == (95 : Int)) = false := by simp; omega
        have t8 : (c == (64 : Int)) = false := by simp; omega
        have u7 : decide (c = (95 : Int)) = false := by simp; omega
        have u8 : decide (c = (64 : Int)) = false := by simp; omega
        have HV : Hid (lettered b = false) := hide (by rw [HLT.out, t1, t2, t3, t4, t5, t6, u7, u8]; rfl)
        clear u7 u8 hr
        go_wp2
        go_ret
        have hno : s.data.toList.all lettered = false := by
          cases hh : s.data.toList.all lettered with
          | false => rfl
          | true => have := List.all_eq_true.1 hh b (List.mem_of_getElem? HB.out); rw [HV.out] at this; cases this
        exact ⟨by unfold lettersB; rw [hno]; rfl, HK.out⟩
      ·
        have t1 : decide ((97 : Int) ≤ c) = false := by simp; omega
        have t2 : decide (c ≤ (122 : Int)) = true := by simp; omega
        have t3 : decide ((65 : Int) ≤ c) = true := by simp; omega
        have t4 : decide (c ≤ (90 : Int)) = false := by simp; omega
        have t5 : decide ((48 : Int) ≤ c) = true := by simp; omega
        have t6 : decide (c ≤ (57 : Int)) = false := by simp; omega
        have t7 : (c == (95 : Int)) = true := by simp; omega
        have t8 : (c == (64 : Int)) = false := by simp; omega
        have u7 : decide (c = (95 : Int)) = true := by simp; omega
        have u8 : decide (c = (64 : Int)) = false := by simp; omega
        have HV : Hid (lettered b = true) := hide (by rw [HLT.out, t1, t2, t3, t4, t5, t6, u7, u8]; rfl)
        clear u7 u8 hr
        go_wp2
        go_round
        case rel => exact ⟨k + 1, by omega, by go_num, hide (by rw [all_take_u HB.out, HMT.out, HV.out]; rfl)⟩
        case measure => simp [intOf]; omega
      ·
        have t1 : decide ((97 : Int) ≤ c) = false := by simp; omega
        have t2 : decide (c ≤ (122 : Int)) = true := by simp; omega
        have t3 : decide ((65 : Int) ≤ c) = true := by simp; omega
        have t4 : decide (c ≤ (90 : Int)) = false := by simp; omega
        have t5 : decide ((48 : Int) ≤ c) = true := by simp; omega
        have t6 : decide (c ≤ (57 : Int)) = false := by simp; omega
        have t7 : (c == (95 : Int)) = false := by simp; omega
        have t8 : (c == (64 : Int)) = false := by simp; omega
        have u7 : decide (c = (95 : Int)) = false := by simp; omega
        have u8 : decide (c = (64 : Int)) = false := by simp; omega
        have HV : Hid (lettered b = false) := hide (by rw [HLT.out, t1, t2, t3, t4, t5, t6, u7, u8]; rfl)
        clear u7 u8 hr
        go_wp2
        go_ret
        have hno : s.data.toList.all lettered = false := by
          cases hh : s.data.toList.all lettered with
          | false => rfl
          | true => have := List.all_eq_true.1 hh b (List.mem_of_getElem? HB.out); rw [HV.out] at this; cases this
        exact ⟨by unfold lettersB; rw [hno]; rfl, HK.out⟩
      ·
        have t1 : decide ((97 : Int) ≤ c) = true := by simp; omega
        have t2 : decide (c ≤ (122 : Int)) = true := by simp; omega
        have t3 : decide ((65 : Int) ≤ c) = true := by simp; omega
        have t4 : decide (c ≤ (90 : Int)) = false := by simp; omega
        have t5 : decide ((48 : Int) ≤ c) = true := by simp; omega
        have t6 : decide (c ≤ (57 : Int)) = false := by simp; omega
        have t7 : (c == (95 : Int)) = false := by simp; omega
        have t8 : (c == (64 : Int)) = false := by simp; omega
        have u7 : decide (c = (95 : Int)) = false := by simp; omega
        have u8 : decide (c = (64 : Int)) = false := by simp; omega
        have HV : Hid (lettered b = true) := hide (by rw [HLT.out, t1, t2, t3, t4, t5, t6, u7, u8]; rfl)
        clear u7 u8 hr
        go_wp2
        go_round
        case rel => exact ⟨k + 1, by omega, by go_num, hide (by rw [all_take_u HB.out, HMT.out, HV.out]; rfl)⟩
        case measure => simp [intOf]; omega
      ·
        have t1 : decide ((97 : Int) ≤ c) = true := by simp; omega
        have t2 : decide (c ≤ (122 : Int)) = false := by simp; omega
        have t3 : decide ((65 : Int) ≤ c) = true := by simp; omega
        have t4 : decide (c ≤ (90 : Int)) = false := by simp; omega
        have t5 : decide ((48 : Int) ≤ c) = true := by simp; omega
        have t6 : decide (c ≤ (57 : Int)) = false := by simp; omega
        have t7 : (c == (95 : Int)) = false := by simp; omega
        have t8 : (c == (64 : Int)) = false := by simp; omega
        have u7 : decide (c = (95 : Int)) = false := by simp; omega
        have u8 : decide (c = (64 : Int)) = false := by simp; omega
        have HV : Hid (lettered b = false) := hide (by rw [HLT.out, t1, t2, t3, t4, t5, t6, u7, u8]; rfl)
        clear u7 u8 hr
        go_wp2
        go_ret
        have hno : s.data.toList.all lettered = false := by
          cases hh : s.data.toList.all lettered with
          | false => rfl
          | true => have := List.all_eq_true.1 hh b (List.mem_of_getElem? HB.out); rw [HV.out] at this; cases this
        exact ⟨by unfold lettersB; rw [hno]; rfl, HK.out⟩
    · obtain rfl : k = s.size := by omega
      go_wp2
      go_ret
      have h := HMT.out
      rw [List.take_of_length_le (by rw [HSZ.out]; exact Nat.le_refl _)] at h
      exact ⟨by unfold lettersB; rw [h]; rfl, HK.out⟩
end Go.Proofs.YtincajfanhanjaaDoor
