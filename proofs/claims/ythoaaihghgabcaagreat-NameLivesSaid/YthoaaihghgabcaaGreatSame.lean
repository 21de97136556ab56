/- pigeonholekit: SameTexts, SameNameds: of the same they say so. -/
import Derived.Test.YthoaaihghgabcaaGreatAll
import Derived.Laws.StructEq
namespace Go.Proofs.YthoaaihghgabcaaGreat
open Go.RowKit Go.Maps

theorem eq48 (s : ByteArray) (p : Int) (w : World) : (Op.equalIn 10000 42 (.agg #[.string s, .int .i64 p]) (.agg #[.string s, .int .i64 p])).run Tryz.prog w = .ok true w := by
  have u3 := Tryz.underlying3
  have u9 := Tryz.underlying9
  have a3 := Tryz.isAgg3
  have a9 := Tryz.isAgg9
  have z3 := Tryz.sizeOf3
  have z9 := Tryz.sizeOf9
  have hS : Tryz.prog.underlying 42 = some (.struct (Tryz.prog.fieldsOf 42)) := by kernel_rfl
  have hp : Tryz.prog.stoodInHeld 42 = false := by kernel_rfl
  rw [show (10000 : Nat) = 9999 + 1 from rfl, run_equalIn_agg w 9999 42 _ _ hS hp]
  simp only [Program.fieldsOf, Tryz.underlying42]
  go_simp
theorem neq48 (s : ByteArray) (p : Int) (w : World) : (binOp .neq 42 (.agg #[.string s, .int .i64 p]) (.agg #[.string s, .int .i64 p])).run Tryz.prog w = .ok (.bool false) w := by
  rw [run_neq_struct, eq48]; rfl
theorem neq9 (s : ByteArray) (w : World) : (binOp .neq 9 (.string s) (.string s)).run Tryz.prog w = .ok (.bool false) w := by
  go_simp

def TrueK (w : World) (e : Ending) (w' : World) : Prop := e = .returned (.bool true) ∧ Keeps NoB w w'
set_option maxRecDepth 100000 in
theorem texts_self (A A' : Option Addr) (n c c' : Nat) (xs : List ByteArray) (w : World) (B B' : Nat → Prop) (F F' : Bool) (hx : Reads w B F 1 A n (xs.map Value.string)) (hy : Reads w B' F' 1 A' n (xs.map Value.string)) (hn : n ≤ 1000000) :
    Calls Tryz.prog 15 #[.slice A n c, .slice A' n c'] w (TrueK w) := by
  have hl : xs.length = n := by have := hx.1; simpa using this
  have HX := hide hx; have HY := hide hy; have HL := hide hl
  have hnn : ((n : Int) != (n : Int)) = false := by simp
  clear hx hy hl
  go_enter Tryz.func15, Tryz.ntmps15
  go_wp2_with fail
  go_loopg [5] n (fun g s wr => ∃ i : Nat, i ≤ n ∧ g = n - i ∧ s = .int .i64 i ∧ Keeps NoB w wr)
  case atStart => exact ⟨0, Nat.zero_le _, rfl, rfl, Keeps.refl _ _⟩
  case round =>
    obtain ⟨i, hi, rfl, rfl, hkw⟩ := hrel
    have HKW := hide hkw; clear hkw
    have hiz0 : (0 : Int) ≤ i := by omega
    by_cases hin : i < n
    · have hiz : (i : Int) < n := by omega
      obtain ⟨x, hx⟩ : ∃ x, xs[i]? = some x := ⟨_, List.getElem?_eq_getElem (by have := HL.out; omega)⟩
      obtain ⟨⟨g, o, sp⟩, hA, hsp, _, _, hc⟩ := (HX.out.keep HKW.out (fun _ _ => id)).2 (by omega)
      obtain ⟨⟨g', o', sp'⟩, hA', hsp', _, _, hc'⟩ := (HY.out.keep HKW.out (fun _ _ => id)).2 (by omega)
      simp only at hsp hsp'
      subst hsp hsp' hA hA'
      have p0 : wr.cell? ⟨g, o + i, none⟩ = some (.string x) := (hc i (.string x) (by simp [hx])).1
      have p1 : wr.cell? ⟨g', o' + i, none⟩ = some (.string x) := (hc' i (.string x) (by simp [hx])).1
      have hq := neq9 x
      clear hx hc hc'
      go_wp2_with (go_quiet (fail))
      go_roundg (n - (i + 1))
      case measure => omega
      case rel => exact ⟨i + 1, by omega, rfl, by go_num, HKW.out.drewN _⟩
    · obtain rfl : i = n := by omega
      have hiz : ¬ (i : Int) < i := by omega
      go_wp2_with fail
      go_ret
      exact ⟨rfl, HKW.out⟩

set_option maxRecDepth 100000 in
theorem nameds_self (A A' : Option Addr) (n c c' : Nat) (L : List Nm) (w : World) (B B' : Nat → Prop) (F F' : Bool) (hx : Reads w B F 2 A n (nms L)) (hy : Reads w B' F' 2 A' n (nms L)) (hn : n ≤ 1000000) :
    Calls Tryz.prog 9 #[.slice A n c, .slice A' n c'] w (TrueK w) := by
  have hl : L.length = n := by have := hx.1; rw [nms_len] at this; omega
  have HX := hide hx; have HY := hide hy; have HL := hide hl
  have hnn : ((n : Int) != (n : Int)) = false := by simp
  clear hx hy hl
  go_enter Tryz.func9, Tryz.ntmps9
  go_wp2_with fail
  go_loopg [5] n (fun g s wr => ∃ i : Nat, i ≤ n ∧ g = n - i ∧ s = .int .i64 i ∧ Keeps NoB w wr)
  case atStart => exact ⟨0, Nat.zero_le _, rfl, rfl, Keeps.refl _ _⟩
  case round =>
    obtain ⟨i, hi, rfl, rfl, hkw⟩ := hrel
    have HKW := hide hkw; clear hkw
    have hiz0 : (0 : Int) ≤ i := by omega
    by_cases hin : i < n
    · have hiz : (i : Int) < n := by omega
      obtain ⟨⟨s, p⟩, hx⟩ : ∃ x, L[i]? = some x := ⟨_, List.getElem?_eq_getElem (by have := HL.out; omega)⟩
      obtain ⟨e0, e1⟩ := nms_at hx
      obtain ⟨⟨g, o, sp⟩, hA, hsp, _, _, hc⟩ := (HX.out.keep HKW.out (fun _ _ => id)).2 (by omega)
      obtain ⟨⟨g', o', sp'⟩, hA', hsp', _, _, hc'⟩ := (HY.out.keep HKW.out (fun _ _ => id)).2 (by omega)
      simp only at hsp hsp'
      subst hsp hsp' hA hA'
      have p0 : wr.cell? ⟨g, o + i * 2, none⟩ = some (.string s) := (hc _ _ e0).1
      have p1 : wr.cell? ⟨g', o' + i * 2, none⟩ = some (.string s) := (hc' _ _ e0).1
      have q0 : wr.cell? ⟨g, o + i * 2 + 1, none⟩ = some (.int .i64 p) := (hc _ _ e1).1
      have q1 : wr.cell? ⟨g', o' + i * 2 + 1, none⟩ = some (.int .i64 p) := (hc' _ _ e1).1
      have hq := neq48 s p
      clear hx hc hc' e0 e1
      go_wp2_with (go_quiet (fail))
      go_roundg (n - (i + 1))
      case measure => omega
      case rel => exact ⟨i + 1, by omega, rfl, by go_num, HKW.out.drewN _⟩
    · obtain rfl : i = n := by omega
      have hiz : ¬ (i : Int) < i := by omega
      go_wp2_with fail
      go_ret
      exact ⟨rfl, HKW.out⟩
end Go.Proofs.YthoaaihghgabcaaGreat
