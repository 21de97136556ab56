/- Links: each operation, whatever it is asked. From a world on. -/
import Derived.Test.YtjmljjmnamfljaaGreatEnd
namespace Go.Proofs.YtjmljjmnamfljaaGreat
set_option maxRecDepth 100000
open Go.RowKit Go.Maps

def canL (a c : Int) (L : LK) : Bool := decide (a ≠ c) && !(L a).contains c
def goL (a c : Int) (L : LK) : LK := if canL a c L = true then linkL a c L else L
def canU (a c : Int) (L : LK) : Bool := (L a).contains c
def goU (a c : Int) (L : LK) : LK := if canU a c L = true then unlinkL a c L else L
def canW (r : Int) (M : List Mon) : Bool := !(refs M).contains r
def goW (x : Mon) (M : List Mon) : List Mon := if canW x.ref M = true then insM x M else M
def canX (r p : Int) (M : List Mon) : Bool := M.any fun x => x.ref == r && x.who == p
def goX (r p : Int) (M : List Mon) : List Mon := if canX r p M = true then dropRef r M else M
theorem canL_iff {a c : Int} {L : LK} : canL a c L = true ↔ a ≠ c ∧ c ∉ L a := by unfold canL; simp
theorem canU_iff {a c : Int} {L : LK} : canU a c L = true ↔ c ∈ L a := by unfold canU; simp
theorem canW_iff {r : Int} {M : List Mon} : canW r M = true ↔ r ∉ refs M := by unfold canW; simp
theorem canX_iff {r p : Int} {M : List Mon} : canX r p M = true ↔ ∃ x ∈ M, x.ref = r ∧ x.who = p := by unfold canX; rw [List.any_eq_true]; simp
theorem not_of_ne {b : Bool} {P : Prop} (h : b = true ↔ P) (hb : b = false) : ¬ P := fun e => by rw [h.2 e] at hb; cases hb

def OpPost (w : World) (B b m1 m2 N : Nat) (r : Bool) (L : LK) (M : List Mon) (e : Ending) (w' : World) : Prop := e = .returned (.bool r) ∧ LinksAt w' B b m1 m2 N L M ∧ Keeps (FP w B) w w'
section
variable (w : World) (B b m1 m2 N : Nat) (L : LK) (M : List Mon)
theorem link_any (a c : Int) (h : LinksAt w B b m1 m2 N L M) (ha : IntOk a) (hc : IntOk c) (hN : N ≤ 1000000) (hB : B ≤ w.heap.size) : Calls Tryz.prog 18 #[.pointer (some ⟨b, 0, none⟩), .int .i64 a, .int .i64 c] w (OpPost w B b m1 m2 (N + 4) (canL a c L) (goL a c L) M) := by
  cases e : canL a c L with
  | true =>
    obtain ⟨h1, h2⟩ := canL_iff.1 e
    refine (link_yes w B b m1 m2 N L M a c h ha hc h1 h2 hN hB).mono ?_
    rintro e' w' ⟨h3, h4, h5⟩
    exact ⟨h3, by unfold goL; rw [if_pos e]; exact h4, h5⟩
  | false =>
    have hn := not_of_ne canL_iff e
    refine (link_no w B b m1 m2 N L M a c h ha hc (by
      by_cases h1 : a = c
      · exact .inl h1
      · exact .inr (by
          by_cases h2 : c ∈ L a
          · exact h2
          · exact absurd ⟨h1, h2⟩ hn))).mono ?_
    rintro e' w' ⟨h3, rfl⟩
    exact ⟨h3, by unfold goL; rw [if_neg (by rw [e]; decide)]; exact h.mono (by omega), Keeps.refl _ _⟩
theorem unlink_any (a c : Int) (h : LinksAt w B b m1 m2 N L M) (ha : IntOk a) (hc : IntOk c) : Calls Tryz.prog 24 #[.pointer (some ⟨b, 0, none⟩), .int .i64 a, .int .i64 c] w (OpPost w B b m1 m2 N (canU a c L) (goU a c L) M) := by
  cases e : canU a c L with
  | true =>
    refine (unlink_yes w B b m1 m2 N L M a c h ha hc (canU_iff.1 e)).mono ?_
    rintro e' w' ⟨h3, h4, h5⟩
    exact ⟨h3, by unfold goU; rw [if_pos e]; exact h4, h5⟩
  | false =>
    refine (unlink_no w B b m1 m2 N L M a c h ha hc (not_of_ne canU_iff e)).mono ?_
    rintro e' w' ⟨h3, rfl⟩
    exact ⟨h3, by unfold goU; rw [if_neg (by rw [e]; decide)]; exact h, Keeps.refl _ _⟩
theorem watch_any (x : Mon) (h : LinksAt w B b m1 m2 N L M) (hx : MonOk x) (hN : N ≤ 1000000) : Calls Tryz.prog 19 #[.pointer (some ⟨b, 0, none⟩), .int .i64 x.ref, .int .i64 x.who, .int .i64 x.whom] w (OpPost w B b m1 m2 (N + 4) (canW x.ref M) L (goW x M)) := by
  cases e : canW x.ref M with
  | true =>
    refine (watch_yes w B b m1 m2 N L M x h hx (canW_iff.1 e) (by unfold maxLen; omega)).mono ?_
    rintro e' w' ⟨h3, h4, h5⟩
    exact ⟨h3, by unfold goW; rw [if_pos e]; exact h4.mono (by omega), h5⟩
  | false =>
    refine (watch_no w B b m1 m2 N L M x h hx (by
      by_cases h2 : x.ref ∈ refs M
      · exact h2
      · exact absurd h2 (not_of_ne canW_iff e))).mono ?_
    rintro e' w' ⟨h3, hk⟩
    exact ⟨h3, by unfold goW; rw [if_neg (by rw [e]; decide)]; exact (h.fresh hk).mono (by omega), FP.of _ _ hk⟩
theorem unwatch_any (r p : Int) (h : LinksAt w B b m1 m2 N L M) (hr : IntOk r) : Calls Tryz.prog 26 #[.pointer (some ⟨b, 0, none⟩), .int .i64 r, .int .i64 p] w (OpPost w B b m1 m2 N (canX r p M) L (goX r p M)) := by
  cases e : canX r p M with
  | true =>
    obtain ⟨x, hx, rfl, rfl⟩ := canX_iff.1 e
    refine (unwatch_yes w B b m1 m2 N L M x h hx).mono ?_
    rintro e' w' ⟨h3, h4, h5⟩
    exact ⟨h3, by unfold goX; rw [if_pos e]; exact h4, h5⟩
  | false =>
    refine (unwatch_no w B b m1 m2 N L M r p h hr (fun x hx h1 h2 => not_of_ne canX_iff e ⟨x, hx, h1, h2⟩)).mono ?_
    rintro e' w' ⟨h3, hk⟩
    exact ⟨h3, by unfold goX; rw [if_neg (by rw [e]; decide)]; exact h.fresh hk, FP.of _ _ hk⟩
end

/-- From w on nothing that was there has turned; the links lie behind. -/
structure Run (w w' : World) (b m1 m2 N : Nat) (L : LK) (M : List Mon) : Prop where
  at' : LinksAt w' w.heap.size b m1 m2 N L M
  keep : Keeps NoB w w'
section
variable {w w' w'' : World} {b m1 m2 N N' : Nat} {L L' : LK} {M M' : List Mon}
theorem Run.fresh (h : Run w w' b m1 m2 N L M) (k : Keeps NoB w' w'') : Run w w'' b m1 m2 N L M := ⟨h.at'.fresh k, h.keep.trans' k (fun _ _ => id) (fun _ _ => id)⟩
theorem Run.turn (h : Run w w' b m1 m2 N L M) (k : Keeps (FP w' w.heap.size) w' w'') (hn : LinksAt w'' w.heap.size b m1 m2 N' L' M') : Run w w'' b m1 m2 N' L' M' :=
  ⟨hn, h.keep.trans' k (fun _ _ => id) (fun x hx e => by have := e.1; omega)⟩
end

section
variable {a : Option Addr} {w : World} (hm : Calls Tryz.prog 12 #[.pointer a] w fun e w' => e = .returned (.bool false) ∧ w = w')
include hm
theorem link_un (p q : Int) : Calls Tryz.prog 18 #[.pointer a, .int .i64 p, .int .i64 q] w fun e w' => e = .returned (.bool false) ∧ w = w' := by
  go_enter Tryz.func18, Tryz.ntmps18
  go_wp2_with (go_at_call 12; refine hm.mono ?_; rintro e w' ⟨rfl, rfl⟩)
  go_ret
  exact ⟨rfl, rfl⟩
theorem unlink_un (p q : Int) : Calls Tryz.prog 24 #[.pointer a, .int .i64 p, .int .i64 q] w fun e w' => e = .returned (.bool false) ∧ w = w' := by
  go_enter Tryz.func24, Tryz.ntmps24
  go_wp2_with (go_at_call 12; refine hm.mono ?_; rintro e w' ⟨rfl, rfl⟩)
  go_ret
  exact ⟨rfl, rfl⟩
theorem watch_un (r p q : Int) : Calls Tryz.prog 19 #[.pointer a, .int .i64 r, .int .i64 p, .int .i64 q] w fun e w' => e = .returned (.bool false) ∧ w = w' := by
  go_enter Tryz.func19, Tryz.ntmps19
  go_wp2_with (go_at_call 12; refine hm.mono ?_; rintro e w' ⟨rfl, rfl⟩)
  go_ret
  exact ⟨rfl, rfl⟩
theorem unwatch_un (r p : Int) : Calls Tryz.prog 26 #[.pointer a, .int .i64 r, .int .i64 p] w fun e w' => e = .returned (.bool false) ∧ w = w' := by
  go_enter Tryz.func26, Tryz.ntmps26
  go_wp2_with (go_at_call 12; refine hm.mono ?_; rintro e w' ⟨rfl, rfl⟩)
  go_ret
  exact ⟨rfl, rfl⟩
theorem of_un (p : Int) : Calls Tryz.prog 5 #[.pointer a, .int .i64 p] w fun e w' => e = .returned (.slice none 0 0) ∧ w = w' := by
  go_enter Tryz.func5, Tryz.ntmps5
  go_wp2_with (go_at_call 12; refine hm.mono ?_; rintro e w' ⟨rfl, rfl⟩)
  go_ret
  exact ⟨rfl, rfl⟩
theorem mons_un : Calls Tryz.prog 6 #[.pointer a] w fun e w' => e = .returned (.slice none 0 0) ∧ w = w' := by
  go_enter Tryz.func6, Tryz.ntmps6
  go_wp2_with (go_at_call 12; refine hm.mono ?_; rintro e w' ⟨rfl, rfl⟩)
  go_ret
  exact ⟨rfl, rfl⟩
theorem end_un (p : Int) : Calls Tryz.prog 20 #[.pointer a, .int .i64 p] w fun e w' => e = .returned (.tuple #[.slice none 0 0, .slice none 0 0]) ∧ w = w' := by
  have h1 := of_un hm p
  have h2 := mons_un hm
  go_enter Tryz.func20, Tryz.ntmps20
  go_wp2_with
    first
    | (go_at_call 5; refine h1.mono ?_; rintro e w' ⟨rfl, rfl⟩)
    | fail
  go_loopg [15] 0 (fun g s15 wr => g = 0 ∧ s15 = .int .i64 0 ∧ wr = w)
  case atStart => exact ⟨rfl, rfl, rfl⟩
  case round =>
    obtain ⟨rfl, rfl, rfl⟩ := hrel
    go_wp2_with
      first
      | (go_at_call 6; refine h2.mono ?_; rintro e w' ⟨rfl, rfl⟩)
      | fail
    go_loopg [5, 27] 0 (fun g s5 s27 wx => g = 0 ∧ s5 = .slice none 0 0 ∧ s27 = .int .i64 0 ∧ wx = wr)
    case atStart => exact ⟨rfl, rfl, rfl, rfl⟩
    case round =>
      obtain ⟨rfl, rfl, rfl, rfl⟩ := hrel
      go_wp2_with fail
      go_ret2
      exact ⟨rfl, rfl⟩
end
end Go.Proofs.YtjmljjmnamfljaaGreat
