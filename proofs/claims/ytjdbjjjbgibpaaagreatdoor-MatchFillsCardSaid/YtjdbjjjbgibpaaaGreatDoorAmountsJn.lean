/- Of: an integer of a number. amounts: two amounts side by side. -/
import Derived.Test.YtjdbjjjbgibpaaaGreatDoorMadeJn
namespace Go.Proofs.YtjdbjjjbgibpaaaGreatDoor
set_option maxRecDepth 100000
set_option maxRecDepth 100000
open Go.RowKit

/-- An integer is returned. -/
def IntP (w : World) (z : Int) (e : Ending) (w' : World) : Prop := ∃ ng A n c, e = .returned (.agg #[.int .u8 1, .bool ng, .slice A n c, .string { data := #[] }, .int .i64 0, .slice none 0 0, .slice none 0 0]) ∧ IA w' (fun k => w.heap.size ≤ k) ng A n c z ∧ Keeps NoB w w'

theorem Blk.new2' (w : World) (o : Obj) (t : TypeId) (cs : Array Value) : Blk ((w.alloc o).alloc (.cells cs t)) (w.heap.size + 1) t cs := by
  have := Blk.new (w.alloc o) t cs
  simpa using this
end Go.Proofs.YtjdbjjjbgibpaaaGreatDoor
namespace Go.Proofs.YtjdbjjjbgibpaaaGreatDoor
set_option maxRecDepth 100000
set_option maxRecDepth 100000
open Go.RowKit

def AmP (w : World) (x y : Nat) (e : Ending) (w' : World) : Prop := ∃ r : Int, e = .returned (.int .i64 r) ∧ -9223372036854775807 ≤ r ∧ r ≤ 9223372036854775807 ∧ (r < 0 ↔ x < y) ∧ (0 < r ↔ y < x) ∧ Keeps NoB w w'
def SameFrom (w : World) (l m : List Nat) (k : Nat) (wr : World) : Prop := Keeps NoB w wr ∧ ∀ j, k ≤ j → j < l.length → l.getD j 0 = m.getD j 0
theorem SameFrom.step {w wr w' : World} {l m : List Nat} {k : Nat} (h : SameFrom w l m (k + 1) wr) (e : l.getD k 0 = m.getD k 0) (hk : Keeps NoB w w') : SameFrom w l m k w' := ⟨hk, fun j h1 h2 => by
  by_cases hj : j = k
  · subst hj; exact e
  · exact h.2 j (by omega) h2⟩
theorem SameFrom.below {w wr : World} {l m : List Nat} {k n : Nat} (h : SameFrom w l m (k + 1) wr) (hl : Low l) (hm : Low m) (h1 : l.length = n) (h2 : m.length = n) (hk : k < n) (e : l.getD k 0 < m.getD k 0) : nat l < nat m := by
  have := pre_below hl (n := n) hk e (fun j a b => h.2 j (by omega) (by omega))
  rw [pre_ge _ _ (by omega), pre_ge _ _ (by omega)] at this
  exact this
theorem SameFrom.above {w wr : World} {l m : List Nat} {k n : Nat} (h : SameFrom w l m (k + 1) wr) (hl : Low l) (hm : Low m) (h1 : l.length = n) (h2 : m.length = n) (hk : k < n) (e : m.getD k 0 < l.getD k 0) : nat m < nat l := by
  have := pre_below hm (n := n) hk e (fun j a b => (h.2 j (by omega) (by omega)).symm)
  rw [pre_ge _ _ (by omega), pre_ge _ _ (by omega)] at this
  exact this
theorem SameFrom.all {w wr : World} {l m : List Nat} {n : Nat} (h : SameFrom w l m 0 wr) (h1 : l.length = n) (h2 : m.length = n) : nat l = nat m := by
  have := pre_congr (l := l) (m := m) (i := n) (fun j hj => h.2 j (Nat.zero_le _) (by omega))
  rw [pre_ge _ _ (by omega), pre_ge _ _ (by omega)] at this
  exact this

set_option maxRecDepth 100000 in
theorem amounts_any (A A' : Option Addr) (n c n' c' x y : Nat) (w : World) (B B' : Nat → Prop) (h : LimbsIn w B A n c (dig x)) (h' : LimbsIn w B' A' n' c' (dig y)) :
    Calls Tryz.prog 63 #[.slice A n c, .slice A' n' c'] w (AmP w x y) := by
  have hl := h.len; have hl' := h'.len
  have hm := Nat.le_trans h.cap h.max
  have hm' := Nat.le_trans h'.cap h'.max
  unfold maxLen at hm hm'
  have HL := hide h; have HL' := hide h'
  clear h h'
  by_cases hne : n = n'
  · subst hne
    have HX := hide (nat_dig x); have HY := hide (nat_dig y)
    generalize dig x = l at *
    generalize dig y = m at *
    go_enter Tryz.func63, Tryz.ntmps63
    go_wp2
    go_loopw [5] (fun i wr => ∃ k : Nat, k ≤ n ∧ i = .int .i64 ((k : Int) - 1) ∧ SameFrom w l m k wr) (fun i _ => (intOf i + 1).toNat)
    case atStart => exact ⟨n, Nat.le_refl _, rfl, Keeps.refl _ _, fun j h1 h2 => by omega⟩
    case round =>
      obtain ⟨k, hk, rfl, hinv⟩ := hrel
      have HI := hide hinv; clear hinv
      rcases k with _ | k
      · go_wp2_with (go_quiet (fail))
        go_ret
        exact ⟨0, rfl, by omega, by omega, by have := HI.out.all hl hl'; rw [HX.out, HY.out] at this; omega, by have := HI.out.all hl hl'; rw [HX.out, HY.out] at this; omega, HI.out.1⟩
      · obtain ⟨b, o, rfl, hb, hc⟩ := (HL.out.keep HI.out.1).at (by omega)
        obtain ⟨b', o', rfl, hb', hc'⟩ := (HL'.out.keep HI.out.1).at (by omega)
        have q := hc k (by omega)
        have q' := hc' k (by omega)
        have hk0 : (0 : Int) ≤ (k : Int) := by omega
        have hk1 : (k : Int) < (n : Int) := by omega
        have hk2 : ((k + 1 : Nat) : Int) - 1 = (k : Int) := by omega
        have hk3 : k < n := by omega
        rw [hk2]
        have HB := hide (fun e => HI.out.below HL.out.low HL'.out.low hl hl' hk3 e)
        have HA := hide (fun e => HI.out.above HL.out.low HL'.out.low hl hl' hk3 e)
        have HS := hide (fun e w' hk => HI.out.step (w' := w') e hk)
        rw [HX.out, HY.out] at HB HA
        clear hc hc'
        generalize l.getD k 0 = u at *
        generalize m.getD k 0 = v at *
        rcases Nat.lt_trichotomy u v with e | e | e
        · have HE := hide (HB.out e)
          have e1 : decide (u < v) = true := decide_eq_true e
          clear HB HA HS e hk2
          go_wp2_with (go_quiet (fail))
          go_ret
          exact ⟨-1, rfl, by omega, by omega, by have := HE.out; omega, by have := HE.out; omega, HI.out.1.drewN _⟩
        · subst e
          clear HB HA hk2
          go_wp2_with (go_quiet (fail))
          go_roundw
          case rel => exact ⟨k, by omega, by go_num, HS.out rfl _ (HI.out.1.drewN _)⟩
          case measure => simp [intOf]
        · have HE := hide (HA.out e)
          have e1 : decide (u < v) = false := decide_eq_false (by omega)
          have e2 : decide (v < u) = true := decide_eq_true e
          clear HB HA HS e hk2
          go_wp2_with (go_quiet (fail))
          go_ret
          exact ⟨1, rfl, by omega, by omega, by have := HE.out; omega, by have := HE.out; omega, (HI.out.1.drewN _).drewN _⟩
  · have hb : ((n : Int) != (n' : Int)) = true := by simp; omega
    have h1 := dig_len_lt (a := x) (b := y)
    have h2 := dig_len_lt (a := y) (b := x)
    rw [hl, hl'] at h1
    rw [hl', hl] at h2
    have H1 := hide h1; have H2 := hide h2
    clear h1 h2
    go_enter Tryz.func63, Tryz.ntmps63
    go_wp2
    go_ret
    exact ⟨(n : Int) - n', rfl, by omega, by omega, ⟨fun h => H1.out (by omega), fun h => by
      rcases Nat.lt_or_ge n n' with e | e
      · omega
      · have := H2.out (by omega); omega⟩, ⟨fun h => H2.out (by omega), fun h => by
      rcases Nat.lt_or_ge n' n with e | e
      · omega
      · have := H1.out (by omega); omega⟩, Keeps.refl _ _⟩
end Go.Proofs.YtjdbjjjbgibpaaaGreatDoor
