/- The clock's small functions, and cmp's. -/
import Derived.Test.YtaiphjgklfioeaaRows
import Derived.Test.YtaiphjgklfioeaaSlab
import Derived.Test.YtaiphjgklfioeaaSeq
import Derived.Test.YtaiphjgklfioeaaLaw
import Derived.Deep.QuietTactic
import Derived.BigQuiet
import Derived.Deep.LoopGhost
namespace Go.Proofs.Ytaiphjgklfioeaa
open Go.RowKit

theorem known_nil (w : World) : Calls Try.prog 20 #[.pointer none] w fun e w' => e = .returned (.bool false) ∧ w = w' := by
  go_enter Try.func20, Try.ntmps20
  go_wp2
  go_ret
  exact ⟨rfl, rfl⟩
theorem known_at (b : Nat) (m : Bool) (w : World) (h : w.cell? ⟨b, 1, none⟩ = some (.bool m)) : Calls Try.prog 20 #[.pointer (some ⟨b, 0, none⟩)] w fun e w' => e = .returned (.bool m) ∧ w = w' := by
  go_enter Try.func20, Try.ntmps20
  go_wp2
  go_ret
  exact ⟨rfl, rfl⟩
theorem new_any (w : World) : Calls Try.prog 9 #[] w fun e w' => e = .returned (.pointer (some ⟨w.heap.size, 0, none⟩)) ∧ w.alloc (.cells #[.int .i64 0, .bool true, .slice none 0 0] 47) = w' := by
  go_enter Try.func9, Try.ntmps9
  go_wp2
  go_ret
  exact ⟨rfl, rfl⟩
theorem now_nil (w : World) : Calls Try.prog 16 #[.pointer none] w fun e w' => e = .returned (.int .i64 0) ∧ w = w' := by
  go_enter Try.func16, Try.ntmps16
  go_wp2_with (go_at_call 20; refine (known_nil _).mono ?_; rintro e w' ⟨rfl, rfl⟩)
  go_ret
  exact ⟨rfl, rfl⟩
theorem now_unmade (b : Nat) (w : World) (h : w.cell? ⟨b, 1, none⟩ = some (.bool false)) : Calls Try.prog 16 #[.pointer (some ⟨b, 0, none⟩)] w fun e w' => e = .returned (.int .i64 0) ∧ w = w' := by
  go_enter Try.func16, Try.ntmps16
  go_wp2_with (go_at_call 20; refine (known_at b false _ h).mono ?_; rintro e w' ⟨rfl, rfl⟩)
  go_ret
  exact ⟨rfl, rfl⟩
theorem now_at (b : Nat) (n : Int) (w : World) (h : w.cell? ⟨b, 1, none⟩ = some (.bool true)) (h0 : w.cell? ⟨b, 0, none⟩ = some (.int .i64 n)) : Calls Try.prog 16 #[.pointer (some ⟨b, 0, none⟩)] w fun e w' => e = .returned (.int .i64 n) ∧ w = w' := by
  go_enter Try.func16, Try.ntmps16
  go_wp2_with (go_at_call 20; refine (known_at b true _ h).mono ?_; rintro e w' ⟨rfl, rfl⟩)
  go_ret
  exact ⟨rfl, rfl⟩

theorem isnan_any (a : Int) (w : World) : Calls Try.prog 37 #[.int .i64 a] w fun e w' => e = .returned (.bool false) ∧ w = w' := by
  go_enter Try.func37, Try.ntmps37
  go_wp2
  go_ret
  exact ⟨by simp, rfl⟩

def cmpI (a b : Int) : Int := if a < b then -1 else if b < a then 1 else 0
theorem compare_any (a b : Int) (w : World) : Calls Try.prog 25 #[.int .i64 a, .int .i64 b] w fun e w' => e = .returned (.int .i64 (cmpI a b)) ∧ w = w' := by
  have H := hide (show a < b ∨ ¬ a < b ∧ b < a ∨ ¬ a < b ∧ ¬ b < a from by omega)
  rcases H.out with h | ⟨h, h2⟩ | ⟨h, h2⟩
  · have e := hide (show cmpI a b = -1 from by simp [cmpI, h])
    go_enter Try.func25, Try.ntmps25
    go_wp2_with (go_at_call 37; refine (isnan_any _ _).mono ?_; rintro e w' ⟨rfl, rfl⟩)
    go_ret
    exact ⟨by rw [e.out]; rfl, rfl⟩
  · have e := hide (show cmpI a b = 1 from by simp [cmpI, h, h2])
    go_enter Try.func25, Try.ntmps25
    go_wp2_with (go_at_call 37; refine (isnan_any _ _).mono ?_; rintro e w' ⟨rfl, rfl⟩)
    go_ret
    exact ⟨by rw [e.out]; rfl, rfl⟩
  · have e := hide (show cmpI a b = 0 from by simp [cmpI, h, h2])
    go_enter Try.func25, Try.ntmps25
    go_wp2_with (go_at_call 37; refine (isnan_any _ _).mono ?_; rintro e w' ⟨rfl, rfl⟩)
    go_ret
    exact ⟨by rw [e.out]; rfl, rfl⟩

def orI (x y : Int) : Int := if x = 0 then y else x
theorem or_two (g c : Nat) (x y : Int) (w : World) (c0 : w.cell? ⟨g, 0, none⟩ = some (.int .i64 x)) (c1 : w.cell? ⟨g, 1, none⟩ = some (.int .i64 y)) : Calls Try.prog 24 #[.slice (some ⟨g, 0, none⟩) 2 c] w fun e w' => e = .returned (.int .i64 (orI x y)) ∧ w = w' := by
  go_enter Try.func24, Try.ntmps24
  go_wp2
  go_loop [5, 8] (fun _ i => ∃ k : Nat, k ≤ 2 ∧ i = .int .i64 k ∧ Hid (1 ≤ k → x = 0) ∧ Hid (2 ≤ k → y = 0)) (fun _ i => 2 - (intOf i).toNat)
  case atStart => exact ⟨0, by omega, rfl, hide (fun h => by omega), hide (fun h => by omega)⟩
  case round =>
    obtain ⟨k, hk, rfl, h1, h2⟩ := hrel
    rcases (by omega : k = 0 ∨ k = 1 ∨ k = 2) with rfl | rfl | rfl
    · by_cases hx : x = 0
      · have hb : (x != 0) = false := by simp [hx]
        have HX := hide hx; clear hx
        go_wp2
        go_round
        case rel => exact ⟨1, by omega, by go_num, hide (fun _ => HX.out), hide (fun h => by omega)⟩
        case measure => simp [intOf]
      · have hb : (x != 0) = true := by simp [hx]
        have e := hide (show orI x y = x from by simp [orI, hx])
        clear hx
        go_wp2
        go_ret
        exact ⟨by rw [e.out]; rfl, rfl⟩
    · by_cases hx : y = 0
      · have hb : (y != 0) = false := by simp [hx]
        have HX := hide hx; clear hx
        go_wp2
        go_round
        case rel => exact ⟨2, by omega, by go_num, hide (fun _ => h1.out (by omega)), hide (fun h => HX.out)⟩
        case measure => simp [intOf]
      · have hb : (y != 0) = true := by simp [hx]
        have e := hide (show orI x y = y from by simp [orI, h1.out (by omega)])
        clear hx
        go_wp2
        go_ret
        exact ⟨by rw [e.out]; rfl, rfl⟩
    · have e := hide (show orI x y = 0 from by simp [orI, h1.out (by omega), h2.out (by omega)])
      go_wp2
      go_ret
      exact ⟨by rw [e.out]; rfl, rfl⟩

def cmpW (a b : Wt) : Int := orI (cmpI a.1 b.1) (cmpI a.2 b.2)
theorem cmpW_lt {a b : Wt} (h : wlt a b) : cmpW a b < 0 := by
  unfold cmpW orI cmpI
  unfold wlt at h
  rcases h with h | ⟨h, h2⟩
  · simp [h]
  · simp [h, h2]
theorem cmpW_ge {a b : Wt} (h : ¬ wlt a b) : 0 ≤ cmpW a b := by
  unfold cmpW orI cmpI
  unfold wlt at h
  split <;> split <;> (try split) <;> omega
end Go.Proofs.Ytaiphjgklfioeaa
