/- Contracts of the small functions of the box. The box: what is not there, what nobody made, what has an end; Skip, Begin, Len. -/
import Derived.Test.YtmkidkfofbnjgaaRows
import Derived.WalkKit
import Derived.WalkSpells
import Derived.WalkLawsBesides
import Derived.Deep.QuietTactic
import Derived.BigQuiet
import Derived.Test.YtmkidkfofbnjgaaSameTsJn
namespace Go.Proofs.Ytmkidkfofbnjgaa
open Go.RowKit

theorem known_nil (w : World) : Calls Try.prog 32 #[.pointer none] w fun e w' => e = .returned (.bool false) ∧ w = w' := by
  go_enter Try.func32, Try.ntmps32
  go_wp2
  go_ret
  exact ⟨rfl, rfl⟩

theorem known_at (b : Nat) (m : Bool) (w : World) (h : w.cell? ⟨b, 2, none⟩ = some (.bool m)) : Calls Try.prog 32 #[.pointer (some ⟨b, 0, none⟩)] w fun e w' => e = .returned (.bool m) ∧ w = w' := by
  go_enter Try.func32, Try.ntmps32
  go_wp2
  go_ret
  exact ⟨rfl, rfl⟩

theorem new_any (w : World) : Calls Try.prog 9 #[] w fun e w' => e = .returned (.pointer (some ⟨w.heap.size, 0, none⟩)) ∧ w.alloc (.cells #[.slice none 0 0, .int .i64 0, .bool true] 61) = w' := by
  go_enter Try.func9, Try.ntmps9
  go_wp2
  go_ret
  exact ⟨rfl, rfl⟩

theorem len_at (b : Nat) (a : Option Addr) (n c : Nat) (w : World) (h0 : w.cell? ⟨b, 0, none⟩ = some (.slice a n c)) (h : w.cell? ⟨b, 2, none⟩ = some (.bool true)) : Calls Try.prog 13 #[.pointer (some ⟨b, 0, none⟩)] w fun e w' => e = .returned (.int .i64 n) ∧ w = w' := by
  go_enter Try.func13, Try.ntmps13
  go_wp2_with (go_at_call 32; refine (known_at b true _ h).mono ?_; rintro e w' ⟨rfl, rfl⟩)
  go_ret
  exact ⟨rfl, rfl⟩

theorem begin_at (b : Nat) (i : Int) (w : World) (h1 : w.cell? ⟨b, 1, none⟩ = some (.int .i64 i)) (f1 : w.frozen? ⟨b, 1, none⟩ = false) (h : w.cell? ⟨b, 2, none⟩ = some (.bool true)) : Calls Try.prog 23 #[.pointer (some ⟨b, 0, none⟩)] w fun e w' => e = .returned (.tuple #[]) ∧ w.setCell ⟨b, 1, none⟩ (.int .i64 0) = w' := by
  go_enter Try.func23, Try.ntmps23
  go_wp2_with (go_at_call 32; refine (known_at b true _ h).mono ?_; rintro e w' ⟨rfl, rfl⟩)
  go_end0
  exact ⟨rfl, rfl⟩

end Go.Proofs.Ytmkidkfofbnjgaa
namespace Go.Proofs.Ytmkidkfofbnjgaa
open Go.RowKit

theorem put_nil (tc : Array Value) (h7 : tc.size = 7) (w : World) : Calls Try.prog 10 #[.pointer none, .agg tc] w fun e w' => e = .returned (.int .i64 1) ∧ Below w.heap.size w w' := by
  match tc, h7 with
  | ⟨[v0, v1, v2, v3, v4, v5, v6]⟩, _ =>
    go_enter Try.func10, Try.ntmps10
    go_wp2_with (go_at_call 32; refine (known_nil _).mono ?_; rintro e w' ⟨rfl, rfl⟩)
    go_ret
    exact ⟨rfl, (Below.refl _ _).alloc (Nat.le_refl _) _⟩

theorem put_unmade (b : Nat) (tc : Array Value) (h7 : tc.size = 7) (w : World) (h : w.cell? ⟨b, 2, none⟩ = some (.bool false)) : Calls Try.prog 10 #[.pointer (some ⟨b, 0, none⟩), .agg tc] w fun e w' => e = .returned (.int .i64 1) ∧ Below w.heap.size w w' := by
  match tc, h7 with
  | ⟨[v0, v1, v2, v3, v4, v5, v6]⟩, _ =>
    have hbl := World.block_lt_of_cell? w _ h
    have h' : (w.alloc (.cells #[v0, v1, v2, v3, v4, v5, v6] 33)).cell? ⟨b, 2, none⟩ = some (.bool false) := (World.cell?_alloc_lt _ _ _ hbl).trans h
    go_enter Try.func10, Try.ntmps10
    go_wp2_with (go_at_call 32; refine (known_at b false _ h').mono ?_; rintro e w' ⟨rfl, rfl⟩)
    go_ret
    exact ⟨rfl, (Below.refl _ _).alloc (Nat.le_refl _) _⟩

theorem skip_nil (w : World) : Calls Try.prog 14 #[.pointer none] w fun e w' => e = .returned (.int .i64 1) ∧ w = w' := by
  go_enter Try.func14, Try.ntmps14
  go_wp2_with (go_at_call 32; refine (known_nil _).mono ?_; rintro e w' ⟨rfl, rfl⟩)
  go_ret
  exact ⟨rfl, rfl⟩
theorem skip_unmade (b : Nat) (w : World) (h : w.cell? ⟨b, 2, none⟩ = some (.bool false)) : Calls Try.prog 14 #[.pointer (some ⟨b, 0, none⟩)] w fun e w' => e = .returned (.int .i64 1) ∧ w = w' := by
  go_enter Try.func14, Try.ntmps14
  go_wp2_with (go_at_call 32; refine (known_at b false _ h).mono ?_; rintro e w' ⟨rfl, rfl⟩)
  go_ret
  exact ⟨rfl, rfl⟩
theorem begin_nil (w : World) : Calls Try.prog 23 #[.pointer none] w fun e w' => e = .returned (.tuple #[]) ∧ w = w' := by
  go_enter Try.func23, Try.ntmps23
  go_wp2_with (go_at_call 32; refine (known_nil _).mono ?_; rintro e w' ⟨rfl, rfl⟩)
  go_end0
  exact ⟨rfl, rfl⟩
theorem begin_unmade (b : Nat) (w : World) (h : w.cell? ⟨b, 2, none⟩ = some (.bool false)) : Calls Try.prog 23 #[.pointer (some ⟨b, 0, none⟩)] w fun e w' => e = .returned (.tuple #[]) ∧ w = w' := by
  go_enter Try.func23, Try.ntmps23
  go_wp2_with (go_at_call 32; refine (known_at b false _ h).mono ?_; rintro e w' ⟨rfl, rfl⟩)
  go_end0
  exact ⟨rfl, rfl⟩
theorem len_nil (w : World) : Calls Try.prog 13 #[.pointer none] w fun e w' => e = .returned (.int .i64 0) ∧ w = w' := by
  go_enter Try.func13, Try.ntmps13
  go_wp2_with (go_at_call 32; refine (known_nil _).mono ?_; rintro e w' ⟨rfl, rfl⟩)
  go_ret
  exact ⟨rfl, rfl⟩
theorem len_unmade (b : Nat) (w : World) (h : w.cell? ⟨b, 2, none⟩ = some (.bool false)) : Calls Try.prog 13 #[.pointer (some ⟨b, 0, none⟩)] w fun e w' => e = .returned (.int .i64 0) ∧ w = w' := by
  go_enter Try.func13, Try.ntmps13
  go_wp2_with (go_at_call 32; refine (known_at b false _ h).mono ?_; rintro e w' ⟨rfl, rfl⟩)
  go_ret
  exact ⟨rfl, rfl⟩
theorem all_nil (w : World) : Calls Try.prog 24 #[.pointer none] w fun e w' => e = .returned (.slice none 0 0) ∧ w = w' := by
  go_enter Try.func24, Try.ntmps24
  go_wp2_with (go_at_call 32; refine (known_nil _).mono ?_; rintro e w' ⟨rfl, rfl⟩)
  go_ret
  exact ⟨rfl, rfl⟩
theorem all_unmade (b : Nat) (w : World) (h : w.cell? ⟨b, 2, none⟩ = some (.bool false)) : Calls Try.prog 24 #[.pointer (some ⟨b, 0, none⟩)] w fun e w' => e = .returned (.slice none 0 0) ∧ w = w' := by
  go_enter Try.func24, Try.ntmps24
  go_wp2_with (go_at_call 32; refine (known_at b false _ h).mono ?_; rintro e w' ⟨rfl, rfl⟩)
  go_ret
  exact ⟨rfl, rfl⟩
theorem copy_nil (w : World) : Calls Try.prog 29 #[.pointer none] w fun e w' => e = .returned (.pointer none) ∧ w = w' := by
  go_enter Try.func29, Try.ntmps29
  go_wp2_with (go_at_call 32; refine (known_nil _).mono ?_; rintro e w' ⟨rfl, rfl⟩)
  go_ret
  exact ⟨rfl, rfl⟩
theorem copy_unmade (b : Nat) (w : World) (h : w.cell? ⟨b, 2, none⟩ = some (.bool false)) : Calls Try.prog 29 #[.pointer (some ⟨b, 0, none⟩)] w fun e w' => e = .returned (.pointer none) ∧ w = w' := by
  go_enter Try.func29, Try.ntmps29
  go_wp2_with (go_at_call 32; refine (known_at b false _ h).mono ?_; rintro e w' ⟨rfl, rfl⟩)
  go_ret
  exact ⟨rfl, rfl⟩

/-- The cells of no term. -/
abbrev zeroT : Array Value := #[.int .u8 0, .bool false, .slice none 0 0, .string ByteArray.empty, .int .i64 0, .slice none 0 0, .slice none 0 0]

theorem take_nil (w : World) : Calls Try.prog 16 #[.pointer none] w fun e w' => e = .returned (.tuple #[.agg zeroT, .int .i64 1]) ∧ Below w.heap.size w w' := by
  go_enter Try.func16, Try.ntmps16
  go_wp2_with (go_at_call 32; refine (known_nil _).mono ?_; rintro e w' ⟨rfl, rfl⟩)
  exact bodyPost_ret (v := .tuple #[.agg zeroT, .int .i64 1]) (by simp [results, Try.results16, go_sem]; rfl) rfl ⟨rfl, (Below.refl _ _).alloc (Nat.le_refl _) _⟩
theorem take_unmade (b : Nat) (w : World) (h : w.cell? ⟨b, 2, none⟩ = some (.bool false)) : Calls Try.prog 16 #[.pointer (some ⟨b, 0, none⟩)] w fun e w' => e = .returned (.tuple #[.agg zeroT, .int .i64 1]) ∧ Below w.heap.size w w' := by
  have h' : (w.alloc (.cells zeroT 33)).cell? ⟨b, 2, none⟩ = some (.bool false) := (World.cell?_alloc_lt _ _ _ (World.block_lt_of_cell? w _ h)).trans h
  go_enter Try.func16, Try.ntmps16
  go_wp2_with (go_at_call 32; refine (known_at b false _ h').mono ?_; rintro e w' ⟨rfl, rfl⟩)
  exact bodyPost_ret (v := .tuple #[.agg zeroT, .int .i64 1]) (by simp [results, Try.results16, go_sem]; rfl) rfl ⟨rfl, (Below.refl _ _).alloc (Nat.le_refl _) _⟩
end Go.Proofs.Ytmkidkfofbnjgaa
