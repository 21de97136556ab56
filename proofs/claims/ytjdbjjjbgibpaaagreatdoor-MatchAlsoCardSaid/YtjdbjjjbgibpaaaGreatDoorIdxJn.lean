/- bif.held: its contract. Printed by mkheld.py. bif.two, where two terms are held side by side; max, min: contracts. Printed by mktwo.py. slices.ContainsFunc at bif.Call's own function: is one of the arguments not right? -/
import Derived.Test.YtjdbjjjbgibpaaaGreatDoorBifSJn
namespace Go.Proofs.YtjdbjjjbgibpaaaGreatDoor
set_option maxRecDepth 100000
open Go.RowKit

def HeldP (w : World) (a b : Bool) (e : Ending) (w' : World) : Prop := e = .returned (.tuple #[.bool a, .bool b]) ∧ w' = w
end Go.Proofs.YtjdbjjjbgibpaaaGreatDoor
namespace Go.Proofs.YtjdbjjjbgibpaaaGreatDoor
set_option maxRecDepth 100000
open Go.RowKit

theorem three_tblks (w : World) (t0 t1 t2 : TypeId) (c0 c1 c2 : Array Value) : Blk (((w.alloc (.cells c0 t0)).alloc (.cells c1 t1)).alloc (.cells c2 t2)) w.heap.size t0 c0 ∧ Blk (((w.alloc (.cells c0 t0)).alloc (.cells c1 t1)).alloc (.cells c2 t2)) (w.heap.size + 1) t1 c1 ∧ Blk (((w.alloc (.cells c0 t0)).alloc (.cells c1 t1)).alloc (.cells c2 t2)) (w.heap.size + 1 + 1) t2 c2 := by
  have h := two_tblks w t0 t1 c0 c1
  refine ⟨h.1.alloc _, h.2.alloc _, ?_⟩
  have h3 := Blk.new2 (w.alloc (.cells c0 t0)) (.cells c1 t1) t2 c2
  have e : (w.alloc (.cells c0 t0)).heap.size = w.heap.size + 1 := by simp
  rw [e] at h3
  exact h3
end Go.Proofs.YtjdbjjjbgibpaaaGreatDoor
namespace Go.Proofs.YtjdbjjjbgibpaaaGreatDoor
set_option maxRecDepth 100000
open Go.RowKit

set_option maxRecDepth 100000 in
theorem callf_any (t : Tm) (w : World) (B : Nat → Prop) (F : Bool) (kd : Int) (ng : Bool) (la : Option Addr) (ln lc : Nat) (tx : ByteArray) (nm : Int) (ia : Option Addr) (im ic : Nat) (ta : Option Addr) (tn tc : Nat) (ht : TermIn w B F [.int .u8 kd, .bool ng, .slice la ln lc, .string tx, .int .i64 nm, .slice ia im ic, .slice ta tn tc] t) : Calls Tryz.prog 67 #[.agg #[.int .u8 kd, .bool ng, .slice la ln lc, .string tx, .int .i64 nm, .slice ia im ic, .slice ta tn tc]] w fun e w' => e = .returned (.bool (!rightT t)) ∧ Keeps NoB w w' := by
  have HT := hide (TermIn.keep ((Keeps.refl NoB w).alloc (.cells #[.int .u8 kd, .bool ng, .slice la ln lc, .string tx, .int .i64 nm, .slice ia im ic, .slice ta tn tc] 26)) (fun _ _ => id) _ _ ht)
  have HK0 := hide ((Keeps.refl NoB w).alloc (.cells #[.int .u8 kd, .bool ng, .slice la ln lc, .string tx, .int .i64 nm, .slice ia im ic, .slice ta tn tc] 26))
  clear ht
  go_enter Tryz.func67, Tryz.ntmps67
  go_wp2_with
    first
    | (go_at_call 7
       refine (tm_right t _ B F _ _ _ _ _ _ _ _ _ _ _ _ _ HT.out).mono ?_
       rintro e w1 ⟨rfl, hk1⟩
       have HK1 := hide (HK0.out.trans' hk1 (fun _ _ => id) (fun _ _ => id) : Keeps NoB w w1)
       clear hk1)
    | fail
  go_ret
  exact ⟨rfl, HK1.out⟩
set_option maxRecDepth 100000 in
set_option maxHeartbeats 2000000 in
theorem idx_right (ts : List Tm) (css : List (List Value)) (A : Option Addr) (n c : Nat) (w : World) (B : Nat → Prop) (F : Bool) (hr : Reads w B F 7 A n css.flatten) (ht : TermsIn w B F css ts) (hn : n ≤ 1000000) :
    Calls Tryz.prog 74 #[.slice A n c, .func (.func 67) #[] #[]] w fun e w' => ∃ i : Int, e = .returned (.int .i64 i) ∧ (decide (0 ≤ i) = !ts.all rightT) ∧ Keeps NoB w w' := by
  have hl : ts.length = n := by have h1 := hr.1; rw [flat_len ht.lens.2, ht.lens.1] at h1; omega
  have HR := hide hr; have HT := hide ht; have HL := hide hl
  clear hr ht hl
  go_enter Tryz.func74, Tryz.ntmps74
  go_wp2
  go_loopg [8] n (fun g s8 wx => ∃ k : Nat, k ≤ n ∧ g = n - k ∧ s8 = .int .i64 k ∧ Keeps NoB w wx ∧ Hid ((ts.take k).all rightT = true))
  case atStart => exact ⟨0, Nat.zero_le _, rfl, rfl, Keeps.refl _ _, hide (by simp)⟩
  case round =>
    obtain ⟨k, hk, rfl, rfl, hkw, HALL⟩ := hrel
    have HKW := hide hkw
    clear hkw
    by_cases hlt : k < n
    · have hk1 : (k : Int) < (n : Int) := by omega
      have hk0 : (0 : Int) ≤ (k : Int) := by omega
      obtain ⟨b, o, kd, ng, la, ln, lc, tx, nm, ia, im, ic, ta, tn, tc, t, hA, h1, h2, h3, f0, f1, f2, f3, f4, f5, f6⟩ := cells_at (HR.out.keep HKW.out (fun _ _ => id)) (TermsIn.keep HKW.out (fun _ _ => id) _ _ HT.out) k hlt
      subst hA
      have H1 := hide h1; have H2 := hide h2
      clear h1 h2 h3
      cases hv : rightT t with
      | true =>
        have HV := hide hv
        clear hv
        go_wp2_with
          first
          | (go_at_call 67
             refine (callf_any t _ B F _ _ _ _ _ _ _ _ _ _ _ _ _ H2.out).mono ?_
             rintro e w2 ⟨rfl, hk2⟩
             rw [HV.out]
             have HK2 := hide (HKW.out.trans' hk2 (fun _ _ => id) (fun _ _ => id) : Keeps NoB w w2)
             clear hk2)
          | fail
        go_roundg (n - (k + 1))
        case measure => omega
        case rel => exact ⟨k + 1, by omega, rfl, by go_num, HK2.out, hide (by rw [List.take_add_one, H1.out, List.all_append, HALL.out]; simp [HV.out])⟩
      | false =>
        have HV := hide hv
        clear hv
        go_wp2_with
          first
          | (go_at_call 67
             refine (callf_any t _ B F _ _ _ _ _ _ _ _ _ _ _ _ _ H2.out).mono ?_
             rintro e w2 ⟨rfl, hk2⟩
             rw [HV.out]
             have HK2 := hide (HKW.out.trans' hk2 (fun _ _ => id) (fun _ _ => id) : Keeps NoB w w2)
             clear hk2)
          | fail
        go_ret
        refine ⟨k, rfl, ?_, HK2.out⟩
        have h : ts.all rightT = false := by
          rw [List.all_eq_false]
          exact ⟨t, List.mem_of_getElem? H1.out, by rw [HV.out]; simp⟩
        rw [h]
        simp
    · obtain rfl : n = k := by omega
      have hkz : ¬ (n : Int) < (n : Int) := by omega
      go_wp2
      go_ret
      refine ⟨-1, rfl, ?_, HKW.out⟩
      have h := HALL.out
      rw [List.take_of_length_le (by have := HL.out; omega)] at h
      rw [h]
      decide
set_option maxRecDepth 100000 in
theorem contains_right (ts : List Tm) (css : List (List Value)) (A : Option Addr) (n c : Nat) (w : World) (B : Nat → Prop) (F : Bool) (hr : Reads w B F 7 A n css.flatten) (ht : TermsIn w B F css ts) (hn : n ≤ 1000000) :
    Calls Tryz.prog 66 #[.slice A n c, .func (.func 67) #[] #[]] w fun e w' => e = .returned (.bool (!ts.all rightT)) ∧ Keeps NoB w w' := by
  have HI := hide (idx_right ts css A n c w B F hr ht hn)
  clear hr ht
  go_enter Tryz.func66, Tryz.ntmps66
  go_wp2_with
    first
    | (go_at_call 74
       refine HI.out.mono ?_
       rintro e w1 ⟨i, rfl, hi, hk1⟩
       have HK1 := hide hk1; have HII := hide hi
       clear hk1 hi)
    | fail
  go_ret
  exact ⟨by rw [← HII.out]; rfl, HK1.out⟩
end Go.Proofs.YtjdbjjjbgibpaaaGreatDoor
