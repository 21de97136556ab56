/- The steps of a life; great. -/
import Derived.Test.YtmkidkfofbnjgaaTermsOf2Jn
import Derived.Test.YtmkidkfofbnjgaaLooksJn
namespace Go.Proofs.Ytmkidkfofbnjgaa
open Go.RowKit

/-- Steps in a row: each its number, and its letter. -/
def StepAt (w : World) (A : Option Addr) (i : Nat) (op : Int) (t : Tm) : Prop :=
  ∃ b o kd ng la ln lc tx nm ia im ic ta tn tc, A = some ⟨b, o, none⟩ ∧ TermIn w (fun k => k < w.heap.size) false [.int .u8 kd, .bool ng, .slice la ln lc, .string tx, .int .i64 nm, .slice ia im ic, .slice ta tn tc] t ∧ fitsT t ∧
    w.cell? ⟨b, o + i * 8, none⟩ = some (.int .i64 op) ∧ w.cell? ⟨b, o + i * 8 + 1, none⟩ = some (.int .u8 kd) ∧ w.cell? ⟨b, o + i * 8 + 2, none⟩ = some (.bool ng) ∧ w.cell? ⟨b, o + i * 8 + 3, none⟩ = some (.slice la ln lc) ∧ w.cell? ⟨b, o + i * 8 + 4, none⟩ = some (.string tx) ∧
    w.cell? ⟨b, o + i * 8 + 5, none⟩ = some (.int .i64 nm) ∧ w.cell? ⟨b, o + i * 8 + 6, none⟩ = some (.slice ia im ic) ∧ w.cell? ⟨b, o + i * 8 + 7, none⟩ = some (.slice ta tn tc)
def StepsAt (w : World) (A : Option Addr) (n : Nat) (D : List (Int × Tm)) : Prop := D.length = n ∧ ∀ i x, D[i]? = some x → StepAt w A i x.1 x.2

theorem StepAt.keep {w w' : World} {A : Option Addr} {i : Nat} {op : Int} {t : Tm} (h : StepAt w A i op t) (hk : Keeps NoB w w') : StepAt w' A i op t := by
  obtain ⟨b, o, kd, ng, la, ln, lc, tx, nm, ia, im, ic, ta, tn, tc, h1, h2, h3, c0, c1, c2, c3, c4, c5, c6, c7⟩ := h
  exact ⟨b, o, kd, ng, la, ln, lc, tx, nm, ia, im, ic, ta, tn, tc, h1, TermIn.more (fun k _ h => Nat.lt_of_lt_of_le h hk.size) _ _ (TermIn.keep hk (fun _ _ => id) _ _ h2), h3, hk.cell id c0, hk.cell id c1, hk.cell id c2, hk.cell id c3, hk.cell id c4, hk.cell id c5, hk.cell id c6, hk.cell id c7⟩
theorem StepsAt.keep {w w' : World} {A : Option Addr} {n : Nat} {D : List (Int × Tm)} (h : StepsAt w A n D) (hk : Keeps NoB w w') : StepsAt w' A n D := ⟨h.1, fun i x hx => (h.2 i x hx).keep hk⟩
theorem StepsAt.pre {w : World} {A : Option Addr} {n m : Nat} {D : List (Int × Tm)} (h : StepsAt w A n D) (hm : m ≤ n) : StepsAt w A m (D.take m) :=
  ⟨by rw [List.length_take, h.1]; omega, fun i x hx => h.2 i x (by rw [List.getElem?_take] at hx; split at hx; exact hx; cases hx)⟩
def AllSmall (D : List (Int × Tm)) (i : Nat) : Prop := ∀ (j : Nat) (x : Int × Tm), j < i → D[j]? = some x → smallT x.2

/-- How much the first i letters are. -/
def sumT (D : List (Int × Tm)) (i : Nat) : Nat := Tm.size.sizes ((D.take i).map (·.2))
theorem sumT_zero (D : List (Int × Tm)) : sumT D 0 = 0 := rfl
theorem sumT_succ {D : List (Int × Tm)} {i : Nat} {x : Int × Tm} (h : D[i]? = some x) : sumT D (i + 1) = sumT D i + x.2.size + 1 := by
  unfold sumT
  rw [List.take_add_one, h, List.map_append, sizes_app]
  simp only [Option.toList_some, List.map_cons, List.map_nil, Tm.size.sizes]; omega

def GreatPost (w : World) (D : List (Int × Tm)) (n : Nat) (e : Ending) (w' : World) : Prop := ∃ r : Bool, e = .returned (.bool r) ∧ (r = false → AllSmall D n ∧ sumT D n ≤ 6000) ∧ Keeps NoB w w'

set_option maxRecDepth 100000 in
theorem great_any (A : Option Addr) (n c : Nat) (D : List (Int × Tm)) (w : World) (h : StepsAt w A n D) (hn : n ≤ 1048576) :
    Calls Try.prog 20 #[.slice A n c] w (GreatPost w D n) := by
  have H := hide h
  clear h
  go_enter Try.func20, Try.ntmps20
  go_wp2_with fail
  go_loopg [3, 4] n (fun g s3 s4 wr => ∃ (i : Nat) (r : Int), i ≤ n ∧ g = n - i ∧ s3 = .int .i64 r ∧ s4 = .int .i64 i ∧ 0 ≤ r ∧ r ≤ 281474976720656 ∧ Hid (r ≤ 3000 → AllSmall D i ∧ (sumT D i : Int) ≤ 2 * r) ∧ Keeps NoB w wr)
  case atStart => exact ⟨0, 0, Nat.zero_le _, rfl, rfl, rfl, by omega, by omega, hide (fun _ => ⟨fun j x hj => absurd hj (by omega), by rw [sumT_zero]; omega⟩), Keeps.refl _ _⟩
  case round =>
    obtain ⟨i, r, hi, rfl, rfl, rfl, hr1, hr2, HSM, hkw⟩ := hrel
    have HKW := hide hkw; clear hkw
    have hi0 : (0 : Int) ≤ i := by omega
    by_cases hin : i < n
    · have hiz : (i : Int) < n := by omega
      by_cases hrm : r ≤ 3000
      · obtain ⟨x, hx⟩ : ∃ x, D[i]? = some x := ⟨_, List.getElem?_eq_getElem (by have := H.out.1; omega)⟩
        have HX := hide hx
        obtain ⟨b, o, kd, ng, la, ln, lc, tx, nm, ia, im, ic, ta, tn, tc, rfl, htt, hft, c0, c1, c2, c3, c4, c5, c6, c7⟩ := (H.out.2 i x hx).keep HKW.out
        have HTT := hide htt; have HFT := hide hft
        have HSI := hide (HSM.out hrm)
        clear hx htt hft c0 HSM
        go_wp2_with fail
        refine (terms_of_any2 x.2 HFT.out wr _ false kd ng la ln lc tx nm ia im ic ta tn tc HTT.out).mono ?_
        rintro e w2 ⟨s, rfl, hs1, hs2, hs3, hk2⟩
        have HS3 := hide hs3
        have HK2 := hide (HKW.out.trans' hk2 (fun _ _ => id) (fun _ _ => id) : Keeps NoB w w2)
        clear hk2 hs3 c1 c2 c3 c4 c5 c6 c7
        go_wp2_with fail
        go_roundg (n - (i + 1))
        case measure => omega
        case rel => exact ⟨i + 1, r + s, by omega, rfl, by go_num, by go_num, by omega, by omega, hide (fun h => ⟨fun j y hj hy => by
          by_cases e : j = i
          · subst e
            obtain rfl := Option.some.inj (hy.symm.trans HX.out)
            exact (HS3.out (by omega)).1
          · exact HSI.out.1 j y (by omega) hy, by rw [sumT_succ HX.out]; have := HSI.out.2; have := (HS3.out (by omega)).2; omega⟩), HK2.out⟩
      · have hrm' : 3000 < r := by omega
        clear hrm HSM
        go_wp2_with fail
        go_ret
        exact ⟨true, rfl, fun h => (by cases h), HKW.out⟩
    · obtain rfl : i = n := by omega
      have hiz : ¬ (i : Int) < i := by omega
      by_cases hrm : r ≤ 3000
      · have HSI := hide (HSM.out hrm)
        have hrm2 : ¬ 3000 < r := by omega
        clear HSM
        go_wp2_with fail
        go_ret
        exact ⟨false, rfl, fun _ => ⟨HSI.out.1, by have := HSI.out.2; omega⟩, HKW.out⟩
      · have hrm' : 3000 < r := by omega
        clear hrm HSM
        go_wp2_with fail
        go_ret
        exact ⟨true, rfl, fun h => (by cases h), HKW.out⟩
end Go.Proofs.Ytmkidkfofbnjgaa
