/- The small functions: Right, Clone, made, Of. -/
import Derived.Test.YtjdbjjjbgibpaaaGreatDoorRows
import Derived.Test.YtjdbjjjbgibpaaaGreatDoorLawJn
import Derived.Lib.SliceRun
import Derived.Lib.Strings
import Derived.Deep.QuietTactic
import Derived.BigQuiet
import Derived.Deep.LoopGhost
namespace Go.Proofs.YtjdbjjjbgibpaaaGreatDoor
set_option maxRecDepth 100000
set_option maxRecDepth 100000
open Go.RowKit
theorem key_inj {s t : ByteArray} (h : s.toList = t.toList) : s = t := by
  rw [Lib.toList_data, Lib.toList_data] at h
  cases s; cases t
  simp only [ByteArray.mk.injEq] at *
  exact Array.toList_inj.1 h
theorem strs_ne {s t : ByteArray} (h : s ≠ t) : (s.toList == t.toList) = false := by
  have h2 : ¬ s.toList = t.toList := fun e => h (key_inj e)
  simp [h2]

set_option maxRecDepth 100000 in
theorem right_any (kd nm : Int) (ng : Bool) (la ia ta : Option Addr) (ln lc im ic tm tc : Nat) (tx : ByteArray) (l : List Nat) (w : World) (B : Nat → Prop) (hl : LimbsIn w B la ln lc l) (hi : im ≤ 140737488355328) (ht : tm ≤ 140737488355328) :
    Calls Tryz.prog 37 #[.agg #[.int .u8 kd, .bool ng, .slice la ln lc, .string tx, .int .i64 nm, .slice ia im ic, .slice ta tm tc]] w fun e w' => e = .returned (.bool (rightB kd ng l tx nm im tm)) ∧ Keeps NoB w w' := by
  have hlen := hl.len
  have hn : ln ≤ maxLen := Nat.le_trans hl.cap hl.max
  have R := hide (show rightB kd ng l tx nm im tm = rightB kd ng l tx nm im tm from rfl)
  unfold maxLen at hn
  have HL := hide hl; clear hl
  generalize hr : rightB kd ng l tx nm im tm = r
  have HR := hide hr
  by_cases h1 : kd = 1
  · subst h1
    by_cases h2 : tx = ByteArray.empty
    · subst h2
      by_cases h3 : nm = 0
      · subst h3
        by_cases h4 : im + tm = 0
        · obtain ⟨rfl, rfl⟩ : im = 0 ∧ tm = 0 := by omega
          clear h4
          by_cases h5 : ln ≤ 32
          · by_cases h6 : ln = 0
            · obtain rfl : r = !ng := by rw [← hr]; unfold rightB; simp [hlen, h6]
              subst h6
              clear hr R
              cases ng
              · go_enter Tryz.func37, Tryz.ntmps37
                go_wp2
                go_ret
                exact ⟨rfl, (Keeps.refl _ _).alloc _⟩
              · go_enter Tryz.func37, Tryz.ntmps37
                go_wp2
                go_ret
                exact ⟨rfl, (Keeps.refl _ _).alloc _⟩
            · obtain ⟨b, o, rfl, hb, hc⟩ := HL.out.at (by omega)
              obtain ⟨k, hkk⟩ : ∃ k, ln = k + 1 := ⟨ln - 1, by omega⟩
              have hk := hc k (by omega)
              have hk1 : (ln : Int) - 1 = (k : Int) := by omega
              have hk2 : (k : Int) < (ln : Int) := by omega
              have hk0 : (0 : Int) ≤ (k : Int) := by omega
              have hk3 : k < ln := by omega
              obtain rfl : r = decide (l.getD k 0 ≠ 0) := by rw [← hr]; unfold rightB; rw [hlen, hkk]; simp; omega
              generalize l.getD k 0 = x at *
              have b5 : decide ((ln : Int) ≤ 32) = true := by simp; omega
              have b6 : ((ln : Int) == 0) = false := by simp; omega
              have b7 : decide (0 < (ln : Int)) = true := by simp; omega
              clear hr R hc hkk h5
              by_cases hx : x = 0
              · subst hx
                go_enter Tryz.func37, Tryz.ntmps37
                go_wp2
                go_ret
                exact ⟨rfl, (Keeps.refl _ _).alloc _⟩
              · have b8 : ((x : Int) == 0) = false := by simp; omega
                have b9 : ((x : Int) != 0) = true := by simp; omega
                rw [show decide (x ≠ 0) = true from decide_eq_true hx]
                clear hx
                go_enter Tryz.func37, Tryz.ntmps37
                go_wp2
                go_ret
                exact ⟨rfl, (Keeps.refl _ _).alloc _⟩
          · obtain rfl : r = false := by rw [← hr]; unfold rightB; simp [hlen, h5]
            have b5 : decide ((ln : Int) ≤ 32) = false := by simp; omega
            clear hr R h5
            go_enter Tryz.func37, Tryz.ntmps37
            go_wp2
            go_ret
            exact ⟨rfl, (Keeps.refl _ _).alloc _⟩
        · obtain rfl : r = false := by rw [← hr]; unfold rightB; simp only [h4, decide_false, Bool.false_and, Bool.and_false]
          have b4 : (((im : Int) + tm) == 0) = false := beq_eq_false_iff_ne.2 (by omega)
          have b5 : wrap64 ((im : Int) + tm) = (im : Int) + tm := by unfold wrap64; omega
          clear hr R
          go_enter Tryz.func37, Tryz.ntmps37
          go_wp2
          go_ret
          exact ⟨rfl, (Keeps.refl _ _).alloc _⟩
      · obtain rfl : r = false := by rw [← hr]; unfold rightB; simp [h3]
        have b3 : (nm == 0) = false := by simp [h3]
        clear hr R
        go_enter Tryz.func37, Tryz.ntmps37
        go_wp2
        go_ret
        exact ⟨rfl, (Keeps.refl _ _).alloc _⟩
    · obtain rfl : r = false := by rw [← hr]; unfold rightB; simp [h2]
      have b2 : (tx.toList == []) = false := by have := strs_ne h2; rw [Lib.toList_data ByteArray.empty] at this; exact this
      clear hr R
      go_enter Tryz.func37, Tryz.ntmps37
      go_wp2
      go_ret
      exact ⟨rfl, (Keeps.refl _ _).alloc _⟩
  · obtain rfl : r = false := by rw [← hr]; unfold rightB; simp [h1]
    have b1 : (kd == 1) = false := by simp [h1]
    clear hr R
    go_enter Tryz.func37, Tryz.ntmps37
    go_wp2
    go_ret
    exact ⟨rfl, (Keeps.refl _ _).alloc _⟩

end Go.Proofs.YtjdbjjjbgibpaaaGreatDoor
