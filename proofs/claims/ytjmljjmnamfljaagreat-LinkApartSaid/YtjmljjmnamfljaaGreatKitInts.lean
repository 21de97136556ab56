/- pigeonholekit: SameInts, Pick. -/
import Derived.Test.YtjmljjmnamfljaaGreatRows
import Derived.Test.YtjmljjmnamfljaaGreatSlab
import Derived.WalkLawsBesides
import Derived.Deep.QuietTactic
import Derived.BigQuiet
import Derived.Deep.LoopGhost
namespace Go.Proofs.YtjmljjmnamfljaaGreat
set_option maxRecDepth 100000
open Go.RowKit

theorem take_eq_succ {α : Type} {xs ys : List α} {k : Nat} {x : α} (h : xs.take k = ys.take k) (h1 : xs[k]? = some x) (h2 : ys[k]? = some x) : xs.take (k + 1) = ys.take (k + 1) := by
  rw [List.take_add_one, List.take_add_one, h, h1, h2]

def SameInv (w : World) (xs ys : List Int) (k : Nat) (wr : World) : Prop := Keeps NoB w wr ∧ xs.take k = ys.take k

def eqL (xs ys : List Int) : Bool := decide (xs = ys)

set_option maxRecDepth 100000 in
theorem same_ints (A A' : Option Addr) (n c n' c' : Nat) (xs ys : List Int) (w : World) (B B' : Nat → Prop) (F F' : Bool) (hx : Reads w B F 1 A n (xs.map (Value.int .i64))) (hy : Reads w B' F' 1 A' n' (ys.map (Value.int .i64))) (hr : Roomy n 8) :
    Calls Tryz.prog 7 #[.slice A n c, .slice A' n' c'] w fun e w' => e = .returned (.bool (eqL xs ys)) ∧ Keeps NoB w w' := by
  have hln : xs.length = n := by have := hx.1; simpa using this
  have hln' : ys.length = n' := by have := hy.1; simpa using this
  have hnm : n ≤ 9223372036854775807 := by have := hr.len (by omega); unfold maxLen at this; exact this
  by_cases hne : n = n'
  · have HN := hide hne
    have hb : ((n : Int) != (n' : Int)) = false := by simp [hne]
    have HX := hide hx; have HY := hide hy; have HLN := hide hln; have HLN' := hide hln'
    clear hx hy hln hln' hne
    go_enter Tryz.func7, Tryz.ntmps7
    go_wp2
    go_loopw [5] (fun i wr => ∃ k : Nat, k ≤ n ∧ i = .int .i64 k ∧ SameInv w xs ys k wr) (fun i _ => n - (intOf i).toNat)
    case atStart => exact ⟨0, Nat.zero_le _, rfl, Keeps.refl _ _, rfl⟩
    case round =>
      obtain ⟨k, hk, rfl, hinv⟩ := hrel
      have HI := hide hinv; clear hinv
      by_cases hlt : k < n
      · have hkx : k < xs.length := by have := HLN.out; omega
        have hky : k < ys.length := by have := HLN'.out; have := HN.out; omega
        have hlt' : k < n' := by have := HN.out; omega
        obtain ⟨⟨b, o, sp⟩, hA, hs, _, _, hc⟩ := (HX.out.keep HI.out.1 (fun _ _ => id)).2 (by omega)
        obtain ⟨⟨b', o', sp'⟩, hA', hs', _, _, hc'⟩ := (HY.out.keep HI.out.1 (fun _ _ => id)).2 (by omega)
        simp only at hs hs'
        subst hs hs' hA hA'
        obtain ⟨X, hX⟩ : ∃ X, xs[k]? = some X := ⟨_, List.getElem?_eq_getElem hkx⟩
        obtain ⟨Y, hY⟩ : ∃ Y, ys[k]? = some Y := ⟨_, List.getElem?_eq_getElem hky⟩
        have hcx : wr.cell? ⟨b, o + k, none⟩ = some (.int .i64 X) := (hc k _ (by simp [hX])).1
        have hcy : wr.cell? ⟨b', o' + k, none⟩ = some (.int .i64 Y) := (hc' k _ (by simp [hY])).1
        have HEX := hide hX; have HEY := hide hY
        clear hc hc' hX hY
        have hk1 : (k : Int) < (n : Int) := by omega
        have hk2 : (k : Int) < (n' : Int) := by omega
        have hk0 : (0 : Int) ≤ (k : Int) := by omega
        clear hkx hky
        by_cases hxy : X = Y
        · have HXY := hide hxy
          have hbb : (X != Y) = false := by simp [hxy]
          clear hxy
          go_wp2_with (go_quiet (fail))
          go_roundw
          case rel => exact ⟨k + 1, by omega, by go_num, HI.out.1.drewN _, take_eq_succ HI.out.2 HEX.out (HXY.out ▸ HEY.out)⟩
          case measure => simp [intOf]; omega
        · have HXY := hide hxy
          have hbb : (X != Y) = true := by simp [hxy]
          clear hxy
          go_wp2_with (go_quiet (fail))
          go_ret
          refine ⟨?_, HI.out.1.drewN _⟩
          have he : eqL xs ys = false := by
            unfold eqL; simp only [decide_eq_false_iff_not]; intro e; subst e
            exact HXY.out (Option.some.inj (HEX.out.symm.trans HEY.out))
          rw [he]; rfl
      · go_wp2
        go_ret
        refine ⟨?_, HI.out.1⟩
        have he : eqL xs ys = true := by
          have h2 := HI.out.2
          have h3 := HLN.out; have h4 := HLN'.out; have h5 := HN.out
          rw [List.take_of_length_le (by omega), List.take_of_length_le (by omega)] at h2
          unfold eqL; simp [h2]
        rw [he]; rfl
  · have hb : ((n : Int) != (n' : Int)) = true := by simp; omega
    have he : eqL xs ys = false := by
      unfold eqL; simp only [decide_eq_false_iff_not]; rintro rfl; omega
    have HE := hide he; clear he
    clear hx hy hln hln' hne
    go_enter Tryz.func7, Tryz.ntmps7
    go_wp2
    go_ret
    exact ⟨by rw [HE.out]; rfl, Keeps.refl _ _⟩
theorem tmod_facts (a n : Int) (hn : 1 ≤ n) : a % n = (a.tmod n) % n ∧ a.tmod n < n ∧ -n < a.tmod n := by
  refine ⟨?_, Int.tmod_lt_of_pos a (by omega), ?_⟩
  · conv => lhs; rw [← Int.tmod_add_mul_tdiv a n]
    rw [Int.add_mul_emod_self_left]
  · have := Int.tmod_lt_of_pos (-a) (b := n) (by omega)
    rw [Int.neg_tmod] at this
    omega

set_option maxRecDepth 100000 in
theorem pick_any (a n : Int) (hn : 1 ≤ n) (hn2 : n ≤ 9223372036854775807) (w : World) : Calls Tryz.prog 21 #[.int .i64 a, .int .i64 n] w fun e w' => e = .returned (.int .i64 (a % n)) ∧ w = w' := by
  have hf := hide (tmod_facts a n hn)
  by_cases h : a.tmod n < 0
  · have hb : wrap64 (a.tmod n + n) = a.tmod n + n := by have := hf.out; unfold wrap64; omega
    have e : a % n = a.tmod n + n := by
      rw [hf.out.1, ← Int.add_emod_right, Int.emod_eq_of_lt (by have := hf.out; omega) (by omega)]
    have HE := hide e; clear e
    go_enter Tryz.func21, Tryz.ntmps21
    go_wp2
    go_ret
    exact ⟨by rw [HE.out, hb]; rfl, rfl⟩
  · have h0 : 0 ≤ a.tmod n := by omega
    have e : a % n = a.tmod n := by
      rw [hf.out.1, Int.emod_eq_of_lt h0 hf.out.2.1]
    have HE := hide e; clear e
    clear h
    go_enter Tryz.func21, Tryz.ntmps21
    go_wp2
    go_ret
    exact ⟨by rw [HE.out]; rfl, rfl⟩
end Go.Proofs.YtjmljjmnamfljaaGreat
