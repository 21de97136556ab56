/- printed by wip/mkbare.py: term.bare, and whole.Right. -/
import Derived.Test.YtjdbjjjbgibpaaaGreatDoorTmSamesJn
import Derived.Test.YtjdbjjjbgibpaaaGreatDoorTermLawJn
import Derived.Lib.Strings
namespace Go.Proofs.YtjdbjjjbgibpaaaGreatDoor
open Go.RowKit

theorem tkey_inj {s t : ByteArray} (h : s.toList = t.toList) : s = t := by
  rw [Lib.toList_data, Lib.toList_data] at h
  cases s; cases t
  simp only [ByteArray.mk.injEq] at *
  exact Array.toList_inj.1 h
theorem tstr_ne {s : ByteArray} (h : ¬ s = ByteArray.empty) : (s.toList == []) = false := by
  have h2 : ¬ s.toList = ByteArray.empty.toList := fun e => h (tkey_inj e)
  rw [Lib.toList_data ByteArray.empty] at h2
  simp only [beq_eq_false_iff_ne]
  exact h2

def bareB (ng : Bool) (ln : Nat) (tx : ByteArray) (nm : Int) (im tn : Nat) (a b c d : Bool) : Bool :=
  !ng && (decide (ln = 0) && ((a || decide (tx = ByteArray.empty)) && ((b || decide (nm = 0)) && ((c || decide (im = 0)) && (d || decide (tn = 0))))))

set_option maxRecDepth 100000 in
theorem bare_tfff (kd nm : Int) (ng : Bool) (la ia ta : Option Addr) (ln lc im ic tn tc : Nat) (tx : ByteArray) (w : World) :
    Calls Tryz.prog 38 #[.agg #[.int .u8 kd, .bool ng, .slice la ln lc, .string tx, .int .i64 nm, .slice ia im ic, .slice ta tn tc], .bool true, .bool false, .bool false, .bool false] w fun e w' => e = .returned (.bool (bareB ng ln tx nm im tn true false false false)) ∧ Keeps NoB w w' := by
  generalize hr : bareB ng ln tx nm im tn true false false false = r
  rcases ng with _ | _
  · by_cases h : ln = 0
    · subst h
      by_cases h : nm = 0
      · subst h
        by_cases h : im = 0
        · subst h
          by_cases h : tn = 0
          · subst h
            obtain rfl : r = true := by rw [← hr]; unfold bareB; simp
            clear hr
            go_enter Tryz.func38, Tryz.ntmps38
            go_wp2
            go_ret
            exact ⟨rfl, (Keeps.refl _ _).alloc _⟩
          · obtain rfl : r = false := by rw [← hr]; unfold bareB; simp [h]
            have b5 : ((tn : Int) == 0) = false := by simp; omega
            clear hr h
            go_enter Tryz.func38, Tryz.ntmps38
            go_wp2
            go_ret
            exact ⟨rfl, (Keeps.refl _ _).alloc _⟩
        · obtain rfl : r = false := by rw [← hr]; unfold bareB; simp [h]
          have b4 : ((im : Int) == 0) = false := by simp; omega
          clear hr h
          go_enter Tryz.func38, Tryz.ntmps38
          go_wp2
          go_ret
          exact ⟨rfl, (Keeps.refl _ _).alloc _⟩
      · obtain rfl : r = false := by rw [← hr]; unfold bareB; simp [h]
        have b3 : (nm == 0) = false := by simp [h]
        clear hr h
        go_enter Tryz.func38, Tryz.ntmps38
        go_wp2
        go_ret
        exact ⟨rfl, (Keeps.refl _ _).alloc _⟩
    · obtain rfl : r = false := by rw [← hr]; unfold bareB; simp [h]
      have b1 : ((ln : Int) == 0) = false := by simp; omega
      clear hr h
      go_enter Tryz.func38, Tryz.ntmps38
      go_wp2
      go_ret
      exact ⟨rfl, (Keeps.refl _ _).alloc _⟩
  · obtain rfl : r = false := by rw [← hr]; unfold bareB; simp
    clear hr
    go_enter Tryz.func38, Tryz.ntmps38
    go_wp2
    go_ret
    exact ⟨rfl, (Keeps.refl _ _).alloc _⟩

set_option maxRecDepth 100000 in
theorem bare_ftff (kd nm : Int) (ng : Bool) (la ia ta : Option Addr) (ln lc im ic tn tc : Nat) (tx : ByteArray) (w : World) :
    Calls Tryz.prog 38 #[.agg #[.int .u8 kd, .bool ng, .slice la ln lc, .string tx, .int .i64 nm, .slice ia im ic, .slice ta tn tc], .bool false, .bool true, .bool false, .bool false] w fun e w' => e = .returned (.bool (bareB ng ln tx nm im tn false true false false)) ∧ Keeps NoB w w' := by
  generalize hr : bareB ng ln tx nm im tn false true false false = r
  rcases ng with _ | _
  · by_cases h : ln = 0
    · subst h
      by_cases h : tx = ByteArray.empty
      · subst h
        by_cases h : im = 0
        · subst h
          by_cases h : tn = 0
          · subst h
            obtain rfl : r = true := by rw [← hr]; unfold bareB; simp
            clear hr
            go_enter Tryz.func38, Tryz.ntmps38
            go_wp2
            go_ret
            exact ⟨rfl, (Keeps.refl _ _).alloc _⟩
          · obtain rfl : r = false := by rw [← hr]; unfold bareB; simp [h]
            have b5 : ((tn : Int) == 0) = false := by simp; omega
            clear hr h
            go_enter Tryz.func38, Tryz.ntmps38
            go_wp2
            go_ret
            exact ⟨rfl, (Keeps.refl _ _).alloc _⟩
        · obtain rfl : r = false := by rw [← hr]; unfold bareB; simp [h]
          have b4 : ((im : Int) == 0) = false := by simp; omega
          clear hr h
          go_enter Tryz.func38, Tryz.ntmps38
          go_wp2
          go_ret
          exact ⟨rfl, (Keeps.refl _ _).alloc _⟩
      · obtain rfl : r = false := by rw [← hr]; unfold bareB; simp [h]
        have b2 : (tx.toList == []) = false := tstr_ne h
        clear hr h
        go_enter Tryz.func38, Tryz.ntmps38
        go_wp2
        go_ret
        exact ⟨rfl, (Keeps.refl _ _).alloc _⟩
    · obtain rfl : r = false := by rw [← hr]; unfold bareB; simp [h]
      have b1 : ((ln : Int) == 0) = false := by simp; omega
      clear hr h
      go_enter Tryz.func38, Tryz.ntmps38
      go_wp2
      go_ret
      exact ⟨rfl, (Keeps.refl _ _).alloc _⟩
  · obtain rfl : r = false := by rw [← hr]; unfold bareB; simp
    clear hr
    go_enter Tryz.func38, Tryz.ntmps38
    go_wp2
    go_ret
    exact ⟨rfl, (Keeps.refl _ _).alloc _⟩

set_option maxRecDepth 100000 in
theorem bare_fttf (kd nm : Int) (ng : Bool) (la ia ta : Option Addr) (ln lc im ic tn tc : Nat) (tx : ByteArray) (w : World) :
    Calls Tryz.prog 38 #[.agg #[.int .u8 kd, .bool ng, .slice la ln lc, .string tx, .int .i64 nm, .slice ia im ic, .slice ta tn tc], .bool false, .bool true, .bool true, .bool false] w fun e w' => e = .returned (.bool (bareB ng ln tx nm im tn false true true false)) ∧ Keeps NoB w w' := by
  generalize hr : bareB ng ln tx nm im tn false true true false = r
  rcases ng with _ | _
  · by_cases h : ln = 0
    · subst h
      by_cases h : tx = ByteArray.empty
      · subst h
        by_cases h : tn = 0
        · subst h
          obtain rfl : r = true := by rw [← hr]; unfold bareB; simp
          clear hr
          go_enter Tryz.func38, Tryz.ntmps38
          go_wp2
          go_ret
          exact ⟨rfl, (Keeps.refl _ _).alloc _⟩
        · obtain rfl : r = false := by rw [← hr]; unfold bareB; simp [h]
          have b5 : ((tn : Int) == 0) = false := by simp; omega
          clear hr h
          go_enter Tryz.func38, Tryz.ntmps38
          go_wp2
          go_ret
          exact ⟨rfl, (Keeps.refl _ _).alloc _⟩
      · obtain rfl : r = false := by rw [← hr]; unfold bareB; simp [h]
        have b2 : (tx.toList == []) = false := tstr_ne h
        clear hr h
        go_enter Tryz.func38, Tryz.ntmps38
        go_wp2
        go_ret
        exact ⟨rfl, (Keeps.refl _ _).alloc _⟩
    · obtain rfl : r = false := by rw [← hr]; unfold bareB; simp [h]
      have b1 : ((ln : Int) == 0) = false := by simp; omega
      clear hr h
      go_enter Tryz.func38, Tryz.ntmps38
      go_wp2
      go_ret
      exact ⟨rfl, (Keeps.refl _ _).alloc _⟩
  · obtain rfl : r = false := by rw [← hr]; unfold bareB; simp
    clear hr
    go_enter Tryz.func38, Tryz.ntmps38
    go_wp2
    go_ret
    exact ⟨rfl, (Keeps.refl _ _).alloc _⟩

set_option maxRecDepth 100000 in
theorem bare_fftf (kd nm : Int) (ng : Bool) (la ia ta : Option Addr) (ln lc im ic tn tc : Nat) (tx : ByteArray) (w : World) :
    Calls Tryz.prog 38 #[.agg #[.int .u8 kd, .bool ng, .slice la ln lc, .string tx, .int .i64 nm, .slice ia im ic, .slice ta tn tc], .bool false, .bool false, .bool true, .bool false] w fun e w' => e = .returned (.bool (bareB ng ln tx nm im tn false false true false)) ∧ Keeps NoB w w' := by
  generalize hr : bareB ng ln tx nm im tn false false true false = r
  rcases ng with _ | _
  · by_cases h : ln = 0
    · subst h
      by_cases h : tx = ByteArray.empty
      · subst h
        by_cases h : nm = 0
        · subst h
          by_cases h : tn = 0
          · subst h
            obtain rfl : r = true := by rw [← hr]; unfold bareB; simp
            clear hr
            go_enter Tryz.func38, Tryz.ntmps38
            go_wp2
            go_ret
            exact ⟨rfl, (Keeps.refl _ _).alloc _⟩
          · obtain rfl : r = false := by rw [← hr]; unfold bareB; simp [h]
            have b5 : ((tn : Int) == 0) = false := by simp; omega
            clear hr h
            go_enter Tryz.func38, Tryz.ntmps38
            go_wp2
            go_ret
            exact ⟨rfl, (Keeps.refl _ _).alloc _⟩
        · obtain rfl : r = false := by rw [← hr]; unfold bareB; simp [h]
          have b3 : (nm == 0) = false := by simp [h]
          clear hr h
          go_enter Tryz.func38, Tryz.ntmps38
          go_wp2
          go_ret
          exact ⟨rfl, (Keeps.refl _ _).alloc _⟩
      · obtain rfl : r = false := by rw [← hr]; unfold bareB; simp [h]
        have b2 : (tx.toList == []) = false := tstr_ne h
        clear hr h
        go_enter Tryz.func38, Tryz.ntmps38
        go_wp2
        go_ret
        exact ⟨rfl, (Keeps.refl _ _).alloc _⟩
    · obtain rfl : r = false := by rw [← hr]; unfold bareB; simp [h]
      have b1 : ((ln : Int) == 0) = false := by simp; omega
      clear hr h
      go_enter Tryz.func38, Tryz.ntmps38
      go_wp2
      go_ret
      exact ⟨rfl, (Keeps.refl _ _).alloc _⟩
  · obtain rfl : r = false := by rw [← hr]; unfold bareB; simp
    clear hr
    go_enter Tryz.func38, Tryz.ntmps38
    go_wp2
    go_ret
    exact ⟨rfl, (Keeps.refl _ _).alloc _⟩

set_option maxRecDepth 100000 in
theorem bare_fftt (kd nm : Int) (ng : Bool) (la ia ta : Option Addr) (ln lc im ic tn tc : Nat) (tx : ByteArray) (w : World) :
    Calls Tryz.prog 38 #[.agg #[.int .u8 kd, .bool ng, .slice la ln lc, .string tx, .int .i64 nm, .slice ia im ic, .slice ta tn tc], .bool false, .bool false, .bool true, .bool true] w fun e w' => e = .returned (.bool (bareB ng ln tx nm im tn false false true true)) ∧ Keeps NoB w w' := by
  generalize hr : bareB ng ln tx nm im tn false false true true = r
  rcases ng with _ | _
  · by_cases h : ln = 0
    · subst h
      by_cases h : tx = ByteArray.empty
      · subst h
        by_cases h : nm = 0
        · subst h
          obtain rfl : r = true := by rw [← hr]; unfold bareB; simp
          clear hr
          go_enter Tryz.func38, Tryz.ntmps38
          go_wp2
          go_ret
          exact ⟨rfl, (Keeps.refl _ _).alloc _⟩
        · obtain rfl : r = false := by rw [← hr]; unfold bareB; simp [h]
          have b3 : (nm == 0) = false := by simp [h]
          clear hr h
          go_enter Tryz.func38, Tryz.ntmps38
          go_wp2
          go_ret
          exact ⟨rfl, (Keeps.refl _ _).alloc _⟩
      · obtain rfl : r = false := by rw [← hr]; unfold bareB; simp [h]
        have b2 : (tx.toList == []) = false := tstr_ne h
        clear hr h
        go_enter Tryz.func38, Tryz.ntmps38
        go_wp2
        go_ret
        exact ⟨rfl, (Keeps.refl _ _).alloc _⟩
    · obtain rfl : r = false := by rw [← hr]; unfold bareB; simp [h]
      have b1 : ((ln : Int) == 0) = false := by simp; omega
      clear hr h
      go_enter Tryz.func38, Tryz.ntmps38
      go_wp2
      go_ret
      exact ⟨rfl, (Keeps.refl _ _).alloc _⟩
  · obtain rfl : r = false := by rw [← hr]; unfold bareB; simp
    clear hr
    go_enter Tryz.func38, Tryz.ntmps38
    go_wp2
    go_ret
    exact ⟨rfl, (Keeps.refl _ _).alloc _⟩

set_option maxRecDepth 100000 in
theorem wright_any (kd nm : Int) (ng : Bool) (la ia ta : Option Addr) (ln lc im ic tn tc : Nat) (tx : ByteArray) (l : List Int) (w : World) (B : Nat → Prop) (F : Bool) (hl : Reads w B F 1 la ln (l.map (Value.int .u32))) (hr0 : Roomy ln 4 ∧ Roomy im 104 ∧ Roomy tn 104) :
    Calls Tryz.prog 37 #[.agg #[.int .u8 kd, .bool ng, .slice la ln lc, .string tx, .int .i64 nm, .slice ia im ic, .slice ta tn tc]] w fun e w' => e = .returned (.bool (intT kd ng l tx nm im tn)) ∧ Keeps NoB w w' := by
  have hlen : l.length = ln := by have := hl.1; simpa using this
  have hmax : ln ≤ 9223372036854775807 ∧ im ≤ 4611686018427387903 ∧ tn ≤ 4611686018427387903 := by
    unfold Roomy at hr0; omega
  have HL := hide hl; clear hl hr0
  generalize hr : intT kd ng l tx nm im tn = r
  have HR := hide hr
  by_cases h1 : kd = 1
  · subst h1
    by_cases h2 : tx = ByteArray.empty
    · subst h2
      by_cases h3 : nm = 0
      · subst h3
        by_cases h4 : im + tn = 0
        · obtain ⟨rfl, rfl⟩ : im = 0 ∧ tn = 0 := by omega
          clear h4
          by_cases h5 : ln ≤ 32
          · by_cases h6 : ln = 0
            · obtain rfl : r = !ng := by rw [← hr]; unfold intT; simp [hlen, h6]
              subst h6
              clear hr HR hmax
              cases ng
              · (go_enter Tryz.func37, Tryz.ntmps37; go_wp2; go_ret; exact ⟨rfl, (Keeps.refl _ _).alloc _⟩)
              · (go_enter Tryz.func37, Tryz.ntmps37; go_wp2; go_ret; exact ⟨rfl, (Keeps.refl _ _).alloc _⟩)
            · obtain ⟨⟨b, o, sp⟩, hA, hs, _, _, hc⟩ := HL.out.2 (by omega)
              simp only at hs
              subst hs hA
              obtain ⟨k, hkk⟩ : ∃ k, ln = k + 1 := ⟨ln - 1, by omega⟩
              obtain ⟨x, hX⟩ : ∃ x, l[k]? = some x := ⟨_, List.getElem?_eq_getElem (by omega)⟩
              have hk : w.cell? ⟨b, o + k, none⟩ = some (.int .u32 x) := (hc k _ (by simp [hX])).1
              have hk1 : (ln : Int) - 1 = (k : Int) := by omega
              have hk2 : (k : Int) < (ln : Int) := by omega
              have hk0 : (0 : Int) ≤ (k : Int) := by omega
              have hk3 : k < ln := by omega
              obtain rfl : r = decide (x ≠ 0) := by rw [← hr]; unfold intT; rw [hlen, hkk]; simp [List.getD, hX]; omega
              have b5 : decide ((ln : Int) ≤ 32) = true := by simp; omega
              have b6 : ((ln : Int) == 0) = false := by simp; omega
              have b7 : decide (0 < (ln : Int)) = true := by simp; omega
              have hn := hmax.1
              clear hr HR hc hkk h5 hX hmax hlen
              by_cases hx : x = 0
              · subst hx
                (go_enter Tryz.func37, Tryz.ntmps37; go_wp2; go_ret; exact ⟨rfl, (Keeps.refl _ _).alloc _⟩)
              · have b8 : (x == 0) = false := by simp; omega
                have b9 : (x != 0) = true := by simp; omega
                rw [show decide (x ≠ 0) = true from decide_eq_true hx]
                clear hx
                (go_enter Tryz.func37, Tryz.ntmps37; go_wp2; go_ret; exact ⟨rfl, (Keeps.refl _ _).alloc _⟩)
          · obtain rfl : r = false := by rw [← hr]; unfold intT; simp [hlen, h5]
            have b5 : decide ((ln : Int) ≤ 32) = false := by simp; omega
            clear hr HR h5 hlen
            (go_enter Tryz.func37, Tryz.ntmps37; go_wp2; go_ret; exact ⟨rfl, (Keeps.refl _ _).alloc _⟩)
        · obtain rfl : r = false := by rw [← hr]; unfold intT; simp only [h4, decide_false, Bool.false_and, Bool.and_false]
          have b4 : (((im : Int) + tn) == 0) = false := beq_eq_false_iff_ne.2 (by omega)
          have b5 : wrap64 ((im : Int) + tn) = (im : Int) + tn := by unfold wrap64; omega
          clear hr HR hlen
          (go_enter Tryz.func37, Tryz.ntmps37; go_wp2; go_ret; exact ⟨rfl, (Keeps.refl _ _).alloc _⟩)
      · obtain rfl : r = false := by rw [← hr]; unfold intT; simp [h3]
        have b3 : (nm == 0) = false := by simp [h3]
        clear hr HR hlen
        (go_enter Tryz.func37, Tryz.ntmps37; go_wp2; go_ret; exact ⟨rfl, (Keeps.refl _ _).alloc _⟩)
    · obtain rfl : r = false := by rw [← hr]; unfold intT; simp [h2]
      have b2 : (tx.toList == []) = false := tstr_ne h2
      clear hr HR hlen
      (go_enter Tryz.func37, Tryz.ntmps37; go_wp2; go_ret; exact ⟨rfl, (Keeps.refl _ _).alloc _⟩)
  · obtain rfl : r = false := by rw [← hr]; unfold intT; simp [h1]
    have b1 : (kd == 1) = false := by simp [h1]
    clear hr HR hlen
    (go_enter Tryz.func37, Tryz.ntmps37; go_wp2; go_ret; exact ⟨rfl, (Keeps.refl _ _).alloc _⟩)
end Go.Proofs.YtjdbjjjbgibpaaaGreatDoor
