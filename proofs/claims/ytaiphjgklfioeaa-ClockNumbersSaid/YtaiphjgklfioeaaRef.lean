/- The document's clock in memory: least, Set, Drop. -/
import Derived.Test.YtaiphjgklfioeaaMore
import Derived.Test.YtaiphjgklfioeaaRefLaw
namespace Go.Proofs.Ytaiphjgklfioeaa
open Go.RowKit

theorem Try.info61 : (Try.prog.info? 61).map (fun i => (i.zero, i.size, i.bytes)) = some (some (.agg #[.int .i64 0, .int .i64 0]), 2, 16) := by kernel_rfl

/-- The document's clock: block r, and its row. -/
structure RefAt (w : World) (r : Nat) (B : Option Addr) (c : Nat) (now : Int) (R : List Wt) : Prop where
  blk : Blk w r 39 #[.int .i64 now, .slice B R.length c]
  row : Slab w 61 2 B R.length c (prs R)
theorem RefAt.sep {w : World} {r c : Nat} {B : Option Addr} {now : Int} {R : List Wt} (h : RefAt w r B c now R) : ¬ rowB B r := h.row.ne h.blk (by decide)
theorem RefAt.keep {w w' : World} {r c : Nat} {B : Option Addr} {now : Int} {R : List Wt} {fp : Nat → Prop} (h : RefAt w r B c now R) (hk : Keeps fp w w') (hf : ∀ k, clkFp r B k → ¬ fp k) : RefAt w' r B c now R :=
  ⟨h.blk.keep hk (hf r (.inl rfl)), h.row.keep hk (fun k hk => hf k (.inr hk))⟩
theorem RefAt.fresh {w w' : World} {r c : Nat} {B : Option Addr} {now : Int} {R : List Wt} (h : RefAt w r B c now R) (hk : Keeps NoB w w') : RefAt w' r B c now R := h.keep hk (fun _ _ => id)

def LeastInv (w : World) (R : List Wt) (k : Nat) (v : Value) (wr : World) : Prop := Keeps NoB w wr ∧ (k = 0 ∧ v = .int .i64 (-1) ∨ ∃ (a : Nat) (x : Wt), a < k ∧ v = .int .i64 a ∧ R[a]? = some x ∧ Least (R.take k) x)
def LeastPost (w : World) (R : List Wt) (e : Ending) (w' : World) : Prop := Keeps NoB w w' ∧ (R = [] ∧ e = .returned (.int .i64 (-1)) ∨ ∃ (a : Nat) (x : Wt), R[a]? = some x ∧ Least R x ∧ e = .returned (.int .i64 a))

theorem least_take {R : List Wt} {k : Nat} {x y : Wt} (hx : Least (R.take k) x) (hy : R[k]? = some y) (hn : ¬ wlt y x) : Least (R.take (k + 1)) x := by
  intro z hz
  rw [List.take_add_one, hy] at hz
  rcases List.mem_append.1 hz with h | h
  · exact hx z h
  · obtain rfl : z = y := by simpa using h
    exact hn
theorem least_new {R : List Wt} {k : Nat} {x y : Wt} (hx : Least (R.take k) x) (hy : R[k]? = some y) (hn : wlt y x) : Least (R.take (k + 1)) y := by
  intro z hz
  rw [List.take_add_one, hy] at hz
  rcases List.mem_append.1 hz with h | h
  · exact fun h2 => hx z h (h2.trans hn)
  · obtain rfl : z = y := by simpa using h
    exact wlt.irr

set_option maxRecDepth 100000 in
set_option maxHeartbeats 2000000 in
theorem least_any (A : Option Addr) (n c : Nat) (R : List Wt) (w : World) (BB : Nat → Prop) (F : Bool) (hr : Reads w BB F 2 A n (prs R)) (hn : n ≤ 1048576) :
    Calls Try.prog 31 #[.slice A n c] w (LeastPost w R) := by
  have hl : R.length = n := by have := hr.1; rw [prs_len] at this; omega
  have HR := hide hr; have HL := hide hl
  clear hr hl
  go_enter Try.func31, Try.ntmps31
  go_wp2_with fail
  go_loopg [3, 4] n (fun g s3 s4 wr => ∃ k : Nat, k ≤ n ∧ g = n - k ∧ s4 = .int .i64 k ∧ LeastInv w R k s3 wr)
  case atStart => exact ⟨0, Nat.zero_le _, rfl, rfl, Keeps.refl _ _, .inl ⟨rfl, rfl⟩⟩
  case round =>
    obtain ⟨k, hk, rfl, rfl, hinv⟩ := hrel
    by_cases hlt : k < n
    · obtain ⟨⟨g, o, sp⟩, hA, hs, _, _, hc⟩ := (HR.out.keep hinv.1 (fun _ _ => id)).2 (by omega)
      simp only at hs
      subst hs hA
      obtain ⟨y, hy⟩ : ∃ y, R[k]? = some y := ⟨_, List.getElem?_eq_getElem (by have := HL.out; omega)⟩
      obtain ⟨e0, e1⟩ := prs_at hy
      obtain ⟨t, p⟩ := y
      have c0 : wr.cell? ⟨g, o + k * 2, none⟩ = some (.int .i64 t) := (hc _ _ e0).1
      have c1 : wr.cell? ⟨g, o + k * 2 + 1, none⟩ = some (.int .i64 p) := (hc _ _ e1).1
      have hkz : (k : Int) < n := by omega
      have hk0 : (0 : Int) ≤ k := by omega
      have HY := hide hy
      obtain ⟨hkp, ⟨rfl, rfl⟩ | ⟨a, x, hak, rfl, hx, hle⟩⟩ := hinv
      · have HKP := hide hkp
        have c0' : wr.cell? ⟨g, o, none⟩ = some (.int .i64 t) := by simpa using c0
        have hn0 : (0 : Int) < n := by omega
        have z0 : decide ((-1 : Int) < 0) = true := by decide
        clear hc e0 e1 hy hkp c0 c1 hkz hk0
        go_wp2_with (go_quiet (fail))
        go_roundg (n - 1)
        case measure => omega
        case rel => exact ⟨1, by omega, rfl, by go_num, HKP.out.drewN _, .inr ⟨0, (t, p), by omega, rfl, HY.out, fun z hz => by
          rw [List.take_add_one, HY.out] at hz
          obtain rfl : z = (t, p) := by simpa using hz
          exact wlt.irr⟩⟩
      · obtain ⟨g0, g1⟩ := prs_at hx
        obtain ⟨t2, p2⟩ := x
        have d0 : wr.cell? ⟨g, o + a * 2, none⟩ = some (.int .i64 t2) := (hc _ _ g0).1
        have d1 : wr.cell? ⟨g, o + a * 2 + 1, none⟩ = some (.int .i64 p2) := (hc _ _ g1).1
        have hal : (a : Int) < n := by omega
        have ha0 : (0 : Int) ≤ a := by omega
        have z0 : decide ((a : Int) < 0) = false := by simp
        have HKP := hide hkp; have HX := hide hx; have HLE := hide hle
        clear hc e0 e1 g0 g1 hy hkp hx hle
        rcases (by omega : t < t2 ∨ t = t2 ∧ p < p2 ∨ t = t2 ∧ ¬ p < p2 ∨ t2 < t) with h | ⟨h, h2⟩ | ⟨h, h2⟩ | h
        · have z1 : decide (t < t2) = true := by simp [h]
          have HN := hide (show wlt (t, p) (t2, p2) from .inl h)
          go_wp2_with (go_quiet (fail))
          go_roundg (n - (k + 1))
          case measure => omega
          case rel => exact ⟨k + 1, by omega, rfl, by go_num, HKP.out.drewN _, .inr ⟨k, (t, p), by omega, rfl, HY.out, least_new HLE.out HY.out HN.out⟩⟩
        · have HN := hide (show wlt (t, p) (t2, p2) from .inr ⟨h, h2⟩)
          subst h
          have z1 : decide (t < t) = false := by simp
          have z2 : (t == t) = true := by simp
          have z3 : decide (p < p2) = true := by simp [h2]
          go_wp2_with (go_quiet (fail))
          go_roundg (n - (k + 1))
          case measure => omega
          case rel => exact ⟨k + 1, by omega, rfl, by go_num, HKP.out.drewN _, .inr ⟨k, (t, p), by omega, rfl, HY.out, least_new HLE.out HY.out HN.out⟩⟩
        · have HN := hide (show ¬ wlt (t, p) (t2, p2) from by unfold wlt; simp only; omega)
          subst h
          have z1 : decide (t < t) = false := by simp
          have z2 : (t == t) = true := by simp
          have z3 : decide (p < p2) = false := by simp [h2]
          go_wp2_with (go_quiet (fail))
          go_roundg (n - (k + 1))
          case measure => omega
          case rel => exact ⟨k + 1, by omega, rfl, by go_num, HKP.out.drewN _, .inr ⟨a, (t, p2), by omega, rfl, HX.out, least_take HLE.out HY.out HN.out⟩⟩
        · have HN := hide (show ¬ wlt (t, p) (t2, p2) from by unfold wlt; simp only; omega)
          have z1 : decide (t < t2) = false := by simp <;> omega
          have z2 : (t == t2) = false := by simp <;> omega
          go_wp2_with (go_quiet (fail))
          go_roundg (n - (k + 1))
          case measure => omega
          case rel => exact ⟨k + 1, by omega, rfl, by go_num, HKP.out.drewN _, .inr ⟨a, (t2, p2), by omega, rfl, HX.out, least_take HLE.out HY.out HN.out⟩⟩
    · obtain rfl : n = k := by omega
      have hkz : ¬ (n : Int) < n := by omega
      obtain ⟨hkp, ⟨h0, rfl⟩ | ⟨a, x, hak, rfl, hx, hle⟩⟩ := hinv
      · have HKP := hide hkp
        clear hkp
        go_wp2_with fail
        go_ret
        exact ⟨HKP.out, .inl ⟨List.eq_nil_of_length_eq_zero (by have := HL.out; omega), rfl⟩⟩
      · have HKP := hide hkp; have HX := hide hx; have HLE := hide hle
        clear hkp hx hle
        go_wp2_with fail
        go_ret
        refine ⟨HKP.out, .inr ⟨a, x, HX.out, ?_, rfl⟩⟩
        have := HLE.out
        rwa [List.take_of_length_le (by have := HL.out; omega)] at this
end Go.Proofs.Ytaiphjgklfioeaa
