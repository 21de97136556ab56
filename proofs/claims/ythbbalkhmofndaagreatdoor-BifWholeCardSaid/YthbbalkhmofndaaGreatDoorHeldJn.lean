/- bif.held: its contract. Printed by mkheld.py. -/
import Derived.Test.YthbbalkhmofndaaGreatDoorBifSJn
namespace Go.Proofs.YthbbalkhmofndaaGreatDoor
open Go.RowKit

theorem lit_ne (s t : Array UInt8) (h : (s.toList == t.toList) = false) : ((⟨s⟩ : ByteArray).toList == (⟨t⟩ : ByteArray).toList) = false := by
  rw [Lib.toList_data, Lib.toList_data]; exact h
def HeldP (w : World) (a b : Bool) (e : Ending) (w' : World) : Prop := e = .returned (.tuple #[.bool a, .bool b]) ∧ w' = w
set_option maxRecDepth 100000 in
theorem held_0 (c : Int) (w : World) : Calls Tryz.prog 56 #[.string ⟨#[61, 61]⟩, .int .i64 c] w (HeldP w (if c < 0 then false else if c = 0 then true else false) true) := by
  rcases Int.lt_trichotomy c 0 with h | h | h
  · rw [if_pos h]
    have h1 : (c == 0) = false := by simp; omega
    have h1' : (c != 0) = true := by simp; omega
    have h2 : c ≤ 0 := by omega
    have h3 : ¬ 0 < c := by omega
    have h4 : ¬ 0 ≤ c := by omega
    go_enter Tryz.func56, Tryz.ntmps56
    go_wp2
    go_ret2
    exact ⟨rfl, rfl⟩
  · subst h
    rw [if_neg (by omega), if_pos rfl]
    go_enter Tryz.func56, Tryz.ntmps56
    go_wp2
    go_ret2
    exact ⟨rfl, rfl⟩
  · rw [if_neg (by omega), if_neg (by omega)]
    have h1 : (c == 0) = false := by simp; omega
    have h1' : (c != 0) = true := by simp; omega
    have h2 : ¬ c ≤ 0 := by omega
    have h3 : ¬ c < 0 := by omega
    have h4 : 0 ≤ c := by omega
    go_enter Tryz.func56, Tryz.ntmps56
    go_wp2
    go_ret2
    exact ⟨rfl, rfl⟩
set_option maxRecDepth 100000 in
theorem held_1 (c : Int) (w : World) : Calls Tryz.prog 56 #[.string ⟨#[61, 58, 61]⟩, .int .i64 c] w (HeldP w (if c < 0 then false else if c = 0 then true else false) true) := by
  have n0 := lit_ne #[61, 58, 61] #[61, 61] (by decide)
  rcases Int.lt_trichotomy c 0 with h | h | h
  · rw [if_pos h]
    have h1 : (c == 0) = false := by simp; omega
    have h1' : (c != 0) = true := by simp; omega
    have h2 : c ≤ 0 := by omega
    have h3 : ¬ 0 < c := by omega
    have h4 : ¬ 0 ≤ c := by omega
    go_enter Tryz.func56, Tryz.ntmps56
    go_wp2
    go_ret2
    exact ⟨rfl, rfl⟩
  · subst h
    rw [if_neg (by omega), if_pos rfl]
    go_enter Tryz.func56, Tryz.ntmps56
    go_wp2
    go_ret2
    exact ⟨rfl, rfl⟩
  · rw [if_neg (by omega), if_neg (by omega)]
    have h1 : (c == 0) = false := by simp; omega
    have h1' : (c != 0) = true := by simp; omega
    have h2 : ¬ c ≤ 0 := by omega
    have h3 : ¬ c < 0 := by omega
    have h4 : 0 ≤ c := by omega
    go_enter Tryz.func56, Tryz.ntmps56
    go_wp2
    go_ret2
    exact ⟨rfl, rfl⟩
set_option maxRecDepth 100000 in
theorem held_2 (c : Int) (w : World) : Calls Tryz.prog 56 #[.string ⟨#[47, 61]⟩, .int .i64 c] w (HeldP w (if c < 0 then true else if c = 0 then false else true) true) := by
  have n0 := lit_ne #[47, 61] #[61, 61] (by decide)
  have n1 := lit_ne #[47, 61] #[61, 58, 61] (by decide)
  rcases Int.lt_trichotomy c 0 with h | h | h
  · rw [if_pos h]
    have h1 : (c == 0) = false := by simp; omega
    have h1' : (c != 0) = true := by simp; omega
    have h2 : c ≤ 0 := by omega
    have h3 : ¬ 0 < c := by omega
    have h4 : ¬ 0 ≤ c := by omega
    go_enter Tryz.func56, Tryz.ntmps56
    go_wp2
    go_ret2
    exact ⟨rfl, rfl⟩
  · subst h
    rw [if_neg (by omega), if_pos rfl]
    go_enter Tryz.func56, Tryz.ntmps56
    go_wp2
    go_ret2
    exact ⟨rfl, rfl⟩
  · rw [if_neg (by omega), if_neg (by omega)]
    have h1 : (c == 0) = false := by simp; omega
    have h1' : (c != 0) = true := by simp; omega
    have h2 : ¬ c ≤ 0 := by omega
    have h3 : ¬ c < 0 := by omega
    have h4 : 0 ≤ c := by omega
    go_enter Tryz.func56, Tryz.ntmps56
    go_wp2
    go_ret2
    exact ⟨rfl, rfl⟩
set_option maxRecDepth 100000 in
theorem held_3 (c : Int) (w : World) : Calls Tryz.prog 56 #[.string ⟨#[61, 47, 61]⟩, .int .i64 c] w (HeldP w (if c < 0 then true else if c = 0 then false else true) true) := by
  have n0 := lit_ne #[61, 47, 61] #[61, 61] (by decide)
  have n1 := lit_ne #[61, 47, 61] #[61, 58, 61] (by decide)
  have n2 := lit_ne #[61, 47, 61] #[47, 61] (by decide)
  rcases Int.lt_trichotomy c 0 with h | h | h
  · rw [if_pos h]
    have h1 : (c == 0) = false := by simp; omega
    have h1' : (c != 0) = true := by simp; omega
    have h2 : c ≤ 0 := by omega
    have h3 : ¬ 0 < c := by omega
    have h4 : ¬ 0 ≤ c := by omega
    go_enter Tryz.func56, Tryz.ntmps56
    go_wp2
    go_ret2
    exact ⟨rfl, rfl⟩
  · subst h
    rw [if_neg (by omega), if_pos rfl]
    go_enter Tryz.func56, Tryz.ntmps56
    go_wp2
    go_ret2
    exact ⟨rfl, rfl⟩
  · rw [if_neg (by omega), if_neg (by omega)]
    have h1 : (c == 0) = false := by simp; omega
    have h1' : (c != 0) = true := by simp; omega
    have h2 : ¬ c ≤ 0 := by omega
    have h3 : ¬ c < 0 := by omega
    have h4 : 0 ≤ c := by omega
    go_enter Tryz.func56, Tryz.ntmps56
    go_wp2
    go_ret2
    exact ⟨rfl, rfl⟩
set_option maxRecDepth 100000 in
theorem held_4 (c : Int) (w : World) : Calls Tryz.prog 56 #[.string ⟨#[60]⟩, .int .i64 c] w (HeldP w (if c < 0 then true else if c = 0 then false else false) true) := by
  have n0 := lit_ne #[60] #[61, 61] (by decide)
  have n1 := lit_ne #[60] #[61, 58, 61] (by decide)
  have n2 := lit_ne #[60] #[47, 61] (by decide)
  have n3 := lit_ne #[60] #[61, 47, 61] (by decide)
  rcases Int.lt_trichotomy c 0 with h | h | h
  · rw [if_pos h]
    have h1 : (c == 0) = false := by simp; omega
    have h1' : (c != 0) = true := by simp; omega
    have h2 : c ≤ 0 := by omega
    have h3 : ¬ 0 < c := by omega
    have h4 : ¬ 0 ≤ c := by omega
    go_enter Tryz.func56, Tryz.ntmps56
    go_wp2
    go_ret2
    exact ⟨rfl, rfl⟩
  · subst h
    rw [if_neg (by omega), if_pos rfl]
    go_enter Tryz.func56, Tryz.ntmps56
    go_wp2
    go_ret2
    exact ⟨rfl, rfl⟩
  · rw [if_neg (by omega), if_neg (by omega)]
    have h1 : (c == 0) = false := by simp; omega
    have h1' : (c != 0) = true := by simp; omega
    have h2 : ¬ c ≤ 0 := by omega
    have h3 : ¬ c < 0 := by omega
    have h4 : 0 ≤ c := by omega
    go_enter Tryz.func56, Tryz.ntmps56
    go_wp2
    go_ret2
    exact ⟨rfl, rfl⟩
set_option maxRecDepth 100000 in
theorem held_5 (c : Int) (w : World) : Calls Tryz.prog 56 #[.string ⟨#[61, 60]⟩, .int .i64 c] w (HeldP w (if c < 0 then true else if c = 0 then true else false) true) := by
  have n0 := lit_ne #[61, 60] #[61, 61] (by decide)
  have n1 := lit_ne #[61, 60] #[61, 58, 61] (by decide)
  have n2 := lit_ne #[61, 60] #[47, 61] (by decide)
  have n3 := lit_ne #[61, 60] #[61, 47, 61] (by decide)
  have n4 := lit_ne #[61, 60] #[60] (by decide)
  rcases Int.lt_trichotomy c 0 with h | h | h
  · rw [if_pos h]
    have h1 : (c == 0) = false := by simp; omega
    have h1' : (c != 0) = true := by simp; omega
    have h2 : c ≤ 0 := by omega
    have h3 : ¬ 0 < c := by omega
    have h4 : ¬ 0 ≤ c := by omega
    go_enter Tryz.func56, Tryz.ntmps56
    go_wp2
    go_ret2
    exact ⟨rfl, rfl⟩
  · subst h
    rw [if_neg (by omega), if_pos rfl]
    go_enter Tryz.func56, Tryz.ntmps56
    go_wp2
    go_ret2
    exact ⟨rfl, rfl⟩
  · rw [if_neg (by omega), if_neg (by omega)]
    have h1 : (c == 0) = false := by simp; omega
    have h1' : (c != 0) = true := by simp; omega
    have h2 : ¬ c ≤ 0 := by omega
    have h3 : ¬ c < 0 := by omega
    have h4 : 0 ≤ c := by omega
    go_enter Tryz.func56, Tryz.ntmps56
    go_wp2
    go_ret2
    exact ⟨rfl, rfl⟩
set_option maxRecDepth 100000 in
theorem held_6 (c : Int) (w : World) : Calls Tryz.prog 56 #[.string ⟨#[62]⟩, .int .i64 c] w (HeldP w (if c < 0 then false else if c = 0 then false else true) true) := by
  have n0 := lit_ne #[62] #[61, 61] (by decide)
  have n1 := lit_ne #[62] #[61, 58, 61] (by decide)
  have n2 := lit_ne #[62] #[47, 61] (by decide)
  have n3 := lit_ne #[62] #[61, 47, 61] (by decide)
  have n4 := lit_ne #[62] #[60] (by decide)
  have n5 := lit_ne #[62] #[61, 60] (by decide)
  rcases Int.lt_trichotomy c 0 with h | h | h
  · rw [if_pos h]
    have h1 : (c == 0) = false := by simp; omega
    have h1' : (c != 0) = true := by simp; omega
    have h2 : c ≤ 0 := by omega
    have h3 : ¬ 0 < c := by omega
    have h4 : ¬ 0 ≤ c := by omega
    go_enter Tryz.func56, Tryz.ntmps56
    go_wp2
    go_ret2
    exact ⟨rfl, rfl⟩
  · subst h
    rw [if_neg (by omega), if_pos rfl]
    go_enter Tryz.func56, Tryz.ntmps56
    go_wp2
    go_ret2
    exact ⟨rfl, rfl⟩
  · rw [if_neg (by omega), if_neg (by omega)]
    have h1 : (c == 0) = false := by simp; omega
    have h1' : (c != 0) = true := by simp; omega
    have h2 : ¬ c ≤ 0 := by omega
    have h3 : ¬ c < 0 := by omega
    have h4 : 0 ≤ c := by omega
    go_enter Tryz.func56, Tryz.ntmps56
    go_wp2
    go_ret2
    exact ⟨rfl, rfl⟩
set_option maxRecDepth 100000 in
theorem held_7 (c : Int) (w : World) : Calls Tryz.prog 56 #[.string ⟨#[62, 61]⟩, .int .i64 c] w (HeldP w (if c < 0 then false else if c = 0 then true else true) true) := by
  have n0 := lit_ne #[62, 61] #[61, 61] (by decide)
  have n1 := lit_ne #[62, 61] #[61, 58, 61] (by decide)
  have n2 := lit_ne #[62, 61] #[47, 61] (by decide)
  have n3 := lit_ne #[62, 61] #[61, 47, 61] (by decide)
  have n4 := lit_ne #[62, 61] #[60] (by decide)
  have n5 := lit_ne #[62, 61] #[61, 60] (by decide)
  have n6 := lit_ne #[62, 61] #[62] (by decide)
  rcases Int.lt_trichotomy c 0 with h | h | h
  · rw [if_pos h]
    have h1 : (c == 0) = false := by simp; omega
    have h1' : (c != 0) = true := by simp; omega
    have h2 : c ≤ 0 := by omega
    have h3 : ¬ 0 < c := by omega
    have h4 : ¬ 0 ≤ c := by omega
    go_enter Tryz.func56, Tryz.ntmps56
    go_wp2
    go_ret2
    exact ⟨rfl, rfl⟩
  · subst h
    rw [if_neg (by omega), if_pos rfl]
    go_enter Tryz.func56, Tryz.ntmps56
    go_wp2
    go_ret2
    exact ⟨rfl, rfl⟩
  · rw [if_neg (by omega), if_neg (by omega)]
    have h1 : (c == 0) = false := by simp; omega
    have h1' : (c != 0) = true := by simp; omega
    have h2 : ¬ c ≤ 0 := by omega
    have h3 : ¬ c < 0 := by omega
    have h4 : 0 ≤ c := by omega
    go_enter Tryz.func56, Tryz.ntmps56
    go_wp2
    go_ret2
    exact ⟨rfl, rfl⟩
set_option maxRecDepth 100000 in
theorem held_no (s : ByteArray) (n0 : (s.toList == [61, 61]) = false) (n1 : (s.toList == [61, 58, 61]) = false) (n2 : (s.toList == [47, 61]) = false) (n3 : (s.toList == [61, 47, 61]) = false) (n4 : (s.toList == [60]) = false) (n5 : (s.toList == [61, 60]) = false) (n6 : (s.toList == [62]) = false) (n7 : (s.toList == [62, 61]) = false) (c : Int) (w : World) : Calls Tryz.prog 56 #[.string s, .int .i64 c] w (HeldP w false false) := by
  go_enter Tryz.func56, Tryz.ntmps56
  go_wp2
  go_ret2
  exact ⟨rfl, rfl⟩
end Go.Proofs.YthbbalkhmofndaaGreatDoor
