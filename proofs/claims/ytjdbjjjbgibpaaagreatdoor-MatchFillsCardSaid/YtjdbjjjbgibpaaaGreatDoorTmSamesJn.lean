/- pigeonholekit: SameLimbs, SameTerm, SameTerms tell whether two are the same. -/
import Derived.Test.YtjdbjjjbgibpaaaGreatDoorTermLawJn
import Derived.Deep.QuietTactic
import Derived.BigQuiet
import Derived.Deep.LoopGhost
namespace Go.Proofs.YtjdbjjjbgibpaaaGreatDoor
open Go.RowKit

def SameInv (w : World) (xs ys : List Int) (k : Nat) (wr : World) : Prop := Keeps NoB w wr ∧ xs.take k = ys.take k

def eqL (xs ys : List Int) : Bool := decide (xs = ys)

mutual
def eqT : Tm → Tm → Bool
  | .mk k ng limbs tx nm items tail, .mk k' ng' limbs' tx' nm' items' tail' =>
    (k == k') && ((ng == ng') && (eqL limbs limbs' && (decide (tx.toList = tx'.toList) && ((nm == nm') && (eqTs items items' && eqTs tail tail')))))
def eqTs : List Tm → List Tm → Bool
  | [], [] => true
  | t :: ts, u :: us => eqT t u && eqTs ts us
  | [], _ :: _ => false
  | _ :: _, [] => false
end

theorem Blk.new2 (w : World) (o : Obj) (t : TypeId) (cs : Array Value) : Blk ((w.alloc o).alloc (.cells cs t)) (w.heap.size + 1) t cs := by
  have h := Blk.new (w.alloc o) t cs
  have e : (w.alloc o).heap.size = w.heap.size + 1 := by unfold World.alloc; exact Array.size_push ..
  rw [e] at h; exact h

def SamesPost (w : World) (r : Bool) (e : Ending) (w' : World) : Prop := e = .returned (.bool r) ∧ Keeps NoB w w'

def SamesSaid (M : Nat) : Prop := ∀ (ts us : List Tm), Tm.size.sizes ts ≤ M → ∀ (css dss : List (List Value)) (A A' : Option Addr) (n c n' c' : Nat) (w : World) (B B' : Nat → Prop) (F F' : Bool),
  Reads w B F 7 A n css.flatten → TermsIn w B F css ts → Reads w B' F' 7 A' n' dss.flatten → TermsIn w B' F' dss us → Roomy n 104 →
  Calls Tryz.prog 18 #[.slice A n c, .slice A' n' c'] w (SamesPost w (eqTs ts us))

theorem Tm.size_pos (t : Tm) : 0 < t.size := by cases t; simp only [Tm.size]; omega

def TsInv (w : World) (ts us : List Tm) (k : Nat) (wr : World) : Prop := Keeps NoB w wr ∧ eqTs ts us = eqTs (ts.drop k) (us.drop k)

/-- The cells of the k-th, where they lie. -/
theorem cells_at {w : World} {B : Nat → Prop} {F : Bool} {ts : List Tm} {css : List (List Value)} {A : Option Addr} {n : Nat} (hr : Reads w B F 7 A n css.flatten) (ht : TermsIn w B F css ts) (k : Nat) (hk : k < n) :
    ∃ b o kd ng la ln lc tx nm ia im ic ta tn tc t, A = some ⟨b, o, none⟩ ∧ ts[k]? = some t ∧ TermIn w B F [.int .u8 kd, .bool ng, .slice la ln lc, .string tx, .int .i64 nm, .slice ia im ic, .slice ta tn tc] t ∧ t.size ≤ Tm.size.sizes ts ∧
      w.cell? ⟨b, o + k * 7, none⟩ = some (.int .u8 kd) ∧ w.cell? ⟨b, o + k * 7 + 1, none⟩ = some (.bool ng) ∧ w.cell? ⟨b, o + k * 7 + 2, none⟩ = some (.slice la ln lc) ∧ w.cell? ⟨b, o + k * 7 + 3, none⟩ = some (.string tx) ∧
      w.cell? ⟨b, o + k * 7 + 4, none⟩ = some (.int .i64 nm) ∧ w.cell? ⟨b, o + k * 7 + 5, none⟩ = some (.slice ia im ic) ∧ w.cell? ⟨b, o + k * 7 + 6, none⟩ = some (.slice ta tn tc) := by
  obtain ⟨hl, h7⟩ := ht.lens
  have hn : css.length = n := by have h1 := hr.1; rw [flat_len h7] at h1; omega
  obtain ⟨kd, ng, la, ln, lc, tx, nm, ia, im, ic, ta, tn, tc, limbs, items, tail, dss, ess, hcs, htk, hroom, hrl, hri, hti, hrt, htt, hsz⟩ := TermsIn.at ht k (by omega)
  have hg := TermsIn.get ht k (by omega) (by omega)
  obtain ⟨_, e1⟩ := List.getElem?_eq_some_iff.1 hcs
  obtain ⟨_, e2⟩ := List.getElem?_eq_some_iff.1 htk
  rw [e1, e2] at hg
  obtain ⟨⟨b, o, sp⟩, hA, hs, _, _, hc⟩ := hr.2 (by omega)
  simp only at hs
  subst hs hA
  obtain ⟨g0, g1, g2, g3, g4, g5, g6⟩ := flat_cells h7 hcs
  exact ⟨b, o, kd, ng, la, ln, lc, tx, nm, ia, im, ic, ta, tn, tc, _, rfl, htk, hg, by simp only [Tm.size]; omega, (hc _ _ g0).1, (hc _ _ g1).1, (hc _ _ g2).1, (hc _ _ g3).1, (hc _ _ g4).1, (hc _ _ g5).1, (hc _ _ g6).1⟩

mutual
theorem eqT_self : ∀ t : Tm, eqT t t = true
  | .mk k ng limbs tx nm items tail => by
    unfold eqT eqL
    simp [eqTs_self items, eqTs_self tail]
theorem eqTs_self : ∀ ts : List Tm, eqTs ts ts = true
  | [] => by unfold eqTs; rfl
  | t :: ts => by unfold eqTs; simp [eqT_self t, eqTs_self ts]
end
end Go.Proofs.YtjdbjjjbgibpaaaGreatDoor
