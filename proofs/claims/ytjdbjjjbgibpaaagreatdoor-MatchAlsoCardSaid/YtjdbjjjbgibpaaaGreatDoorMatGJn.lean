/- match: values of guards at trees; match.truth; Guard's closure. Printed by mkmatg.py. -/
import Derived.Test.YtjdbjjjbgibpaaaGreatDoorMatHJn
namespace Go.Proofs.YtjdbjjjbgibpaaaGreatDoor
open Go.RowKit

/-- What a guard's expression is, wherever its cells lie. -/
def GuardV (N : Nat) (w : World) (A : Option Addr) (n c : Nat) (D : Option Addr) (m d : Nat) (k : Co) (t : Tm) (ok : Bool) : Prop := ∀ w', Keeps NoB w w' → ∀ (kd : Int) (tx : ByteArray) (nm tk : Int) (ng : Bool) (la : Option Addr) (ln lc : Nat) (tt : ByteArray) (tn : Int) (ia : Option Addr) (im ic : Nat) (ta : Option Addr) (tm tc : Nat) (ka : Option Addr) (kn kc : Nat), CoreIn w' (fun j => j < N) false [.int .u8 kd, .string tx, .int .i64 nm, .int .u8 tk, .bool ng, .slice la ln lc, .string tt, .int .i64 tn, .slice ia im ic, .slice ta tm tc, .slice ka kn kc] k → Calls Tryz.prog 34 #[.agg #[.slice A n c, .slice D m d], .agg #[.int .u8 kd, .string tx, .int .i64 nm, .int .u8 tk, .bool ng, .slice la ln lc, .string tt, .int .i64 tn, .slice ia im ic, .slice ta tm tc, .slice ka kn kc]] w' (GValP N w' t ok)
theorem CoreIn.parts {w : World} {B : Nat → Prop} {F : Bool} {k : Co} {kd : Int} {tx : ByteArray} {nm tk : Int} {ng : Bool} {la : Option Addr} {ln lc : Nat} {tt : ByteArray} {tn : Int} {ia : Option Addr} {im ic : Nat} {ta : Option Addr} {tm tc : Nat} {ka : Option Addr} {kn kc : Nat} (h : CoreIn w B F [.int .u8 kd, .string tx, .int .i64 nm, .int .u8 tk, .bool ng, .slice la ln lc, .string tt, .int .i64 tn, .slice ia im ic, .slice ta tm tc, .slice ka kn kc] k) : ∃ tr kids kcss, k = .mk kd tx nm tr kids ∧ TermIn w B F [.int .u8 tk, .bool ng, .slice la ln lc, .string tt, .int .i64 tn, .slice ia im ic, .slice ta tm tc] tr ∧ Roomy kn 160 ∧ Reads w B F 11 ka kn (List.flatten kcss) ∧ CoresIn w B F kcss kids ∧ kids.length = kn := by
  obtain ⟨_, _, _, _, _, _, _, _, _, _, _, _, _, _, _, _, _, _, _, tr, kids, kcss, rfl, e, htr, hkr, hkids, hkc, hkl⟩ := h.opened
  simp only [List.cons.injEq, Value.int.injEq, Value.bool.injEq, Value.slice.injEq, Value.string.injEq, true_and, and_true] at e
  obtain ⟨rfl, rfl, rfl, rfl, rfl, ⟨rfl, rfl, rfl⟩, rfl, rfl, ⟨rfl, rfl, rfl⟩, ⟨rfl, rfl, rfl⟩, rfl, rfl, rfl⟩ := e
  exact ⟨tr, kids, kcss, rfl, htr, hkr, hkids, hkc, hkl⟩
section
variable {N n c m d : Nat} {w : World} {A D : Option Addr}
theorem GuardV.keep {w1 : World} {k : Co} {t : Tm} {ok : Bool} (h : GuardV N w A n c D m d k t ok) (hk : Keeps NoB w w1) : GuardV N w1 A n c D m d k t ok := fun w' hk' => h w' (hk.trans' hk' (fun _ _ => id) (fun _ _ => id))
theorem gv_const (hN : N ≤ w.heap.size) (s : ByteArray) (z : Int) (t : Tm) (kids : List Co) : GuardV N w A n c D m d (.mk 1 s z t kids) t (rightT t) := by
  intro w' hk kd tx nm tk ng la ln lc tt tn ia im ic ta tm tc ka kn kc h
  obtain ⟨tr, kids', kcss, e, htr, _⟩ := h.parts
  injection e with e1 e2 e3 e4 e5
  subst e1 e4
  exact val_const A n c D m d _ _ _ _ _ _ _ _ _ _ _ _ _ _ _ _ _ _ _ N w' (Nat.le_trans hN hk.size) htr
/-- The first kid, and its cells. -/
theorem first_kid {B : Nat → Prop} {F : Bool} {kcss : List (List Value)} {k0 : Co} {rest : List Co} (h : CoresIn w B F kcss (k0 :: rest)) : ∃ kd tx nm tk ng la ln lc tt tn ia im ic ta tm tc ka kn kc kcss', kcss = [.int .u8 kd, .string tx, .int .i64 nm, .int .u8 tk, .bool ng, .slice la ln lc, .string tt, .int .i64 tn, .slice ia im ic, .slice ta tm tc, .slice ka kn kc] :: kcss' ∧ CoreIn w B F [.int .u8 kd, .string tx, .int .i64 nm, .int .u8 tk, .bool ng, .slice la ln lc, .string tt, .int .i64 tn, .slice ia im ic, .slice ta tm tc, .slice ka kn kc] k0 := by
  cases kcss with
  | nil => unfold CoresIn at h; exact h.elim
  | cons cs kcss' =>
    unfold CoresIn at h
    obtain ⟨kd, tx, nm, tk, ng, la, ln, lc, tt, tn, ia, im, ic, ta, tm, tc, ka, kn, kc, _, _, _, _, e, _⟩ := h.1.opened
    subst e
    exact ⟨kd, tx, nm, tk, ng, la, ln, lc, tt, tn, ia, im, ic, ta, tm, tc, ka, kn, kc, kcss', rfl, h.1⟩
theorem gv_all_no (hN : N ≤ w.heap.size) (s : ByteArray) (z : Int) (t t0 : Tm) (k0 : Co) (rest : List Co) (h0 : GuardV N w A n c D m d k0 t0 false) : GuardV N w A n c D m d (.mk 30 s z t (k0 :: rest)) t0 false := by
  intro w' hk kd tx nm tk ng la ln lc tt tn ia im ic ta tm tc ka kn kc h
  obtain ⟨tr, kids', kcss, e, htr, hr, hkr, hkc, hkl⟩ := h.parts
  injection e with e1 e2 e3 e4 e5
  subst e1 e5
  obtain ⟨kd0, tx0, nm0, tk0, ng0, la0, ln0, lc0, tt0, tn0, ia0, im0, ic0, ta0, tm0, tc0, ka0, kn0, kc0, kcss', rfl, hc0⟩ := first_kid hkc
  exact val_all_no A n c D m d _ _ _ _ _ _ _ _ _ _ _ _ _ _ _ _ _ _ _ _ _ _ _ _ _ _ _ _ _ _ _ _ _ _ _ _ _ kcss' t0 N w' (Nat.le_trans hN hk.size) (hkr.more (fun _ _ _ => trivial)) (by simp at hkl; omega) hr (fun w'' hk2 => h0 w'' (hk.trans' hk2 (fun _ _ => id) (fun _ _ => id)) _ _ _ _ _ _ _ _ _ _ _ _ _ _ _ _ _ _ _ (CoreIn.keep hk2 (fun _ _ => id) _ _ hc0))
theorem gv_any_no (hN : N ≤ w.heap.size) (s : ByteArray) (z : Int) (t t0 : Tm) (k0 : Co) (rest : List Co) (h0 : GuardV N w A n c D m d k0 t0 false) : GuardV N w A n c D m d (.mk 31 s z t (k0 :: rest)) t0 false := by
  intro w' hk kd tx nm tk ng la ln lc tt tn ia im ic ta tm tc ka kn kc h
  obtain ⟨tr, kids', kcss, e, htr, hr, hkr, hkc, hkl⟩ := h.parts
  injection e with e1 e2 e3 e4 e5
  subst e1 e5
  obtain ⟨kd0, tx0, nm0, tk0, ng0, la0, ln0, lc0, tt0, tn0, ia0, im0, ic0, ta0, tm0, tc0, ka0, kn0, kc0, kcss', rfl, hc0⟩ := first_kid hkc
  exact val_any_no A n c D m d _ _ _ _ _ _ _ _ _ _ _ _ _ _ _ _ _ _ _ _ _ _ _ _ _ _ _ _ _ _ _ _ _ _ _ _ _ kcss' t0 N w' (Nat.le_trans hN hk.size) (hkr.more (fun _ _ _ => trivial)) (by simp at hkl; omega) hr (fun w'' hk2 => h0 w'' (hk.trans' hk2 (fun _ _ => id) (fun _ _ => id)) _ _ _ _ _ _ _ _ _ _ _ _ _ _ _ _ _ _ _ (CoreIn.keep hk2 (fun _ _ => id) _ _ hc0))
theorem gv_all_one (hN : N ≤ w.heap.size) (s : ByteArray) (z : Int) (t t0 : Tm) (k0 : Co) (h0 : GuardV N w A n c D m d k0 t0 true) : GuardV N w A n c D m d (.mk 30 s z t [k0]) t0 true := by
  intro w' hk kd tx nm tk ng la ln lc tt tn ia im ic ta tm tc ka kn kc h
  obtain ⟨tr, kids', kcss, e, htr, hr, hkr, hkc, hkl⟩ := h.parts
  injection e with e1 e2 e3 e4 e5
  subst e1 e5
  obtain ⟨kd0, tx0, nm0, tk0, ng0, la0, ln0, lc0, tt0, tn0, ia0, im0, ic0, ta0, tm0, tc0, ka0, kn0, kc0, kcss', rfl, hc0⟩ := first_kid hkc
  exact val_all_one A n c D m d _ _ _ _ _ _ _ _ _ _ _ _ _ _ _ _ _ _ _ _ _ _ _ _ _ _ _ _ _ _ _ _ _ _ _ _ _ kcss' t0 N w' (Nat.le_trans hN hk.size) (hkr.more (fun _ _ _ => trivial)) (by simp at hkl; omega) (by simp at hkl; omega) hr (fun w'' hk2 => h0 w'' (hk.trans' hk2 (fun _ _ => id) (fun _ _ => id)) _ _ _ _ _ _ _ _ _ _ _ _ _ _ _ _ _ _ _ (CoreIn.keep hk2 (fun _ _ => id) _ _ hc0))
theorem gv_hd (hN : N ≤ w.heap.size) (z : Int) (t t0 : Tm) (k0 : Co) (hL : LaidK w) (hK : KindsAt w) (hr0 : rightT t0 = true) (hs0 : splitT t0 = none) (h0 : GuardV N w A n c D m d k0 t0 true) : GuardV N w A n c D m d (.mk 8 ⟨#[104, 100]⟩ z t [k0]) zeroT false := by
  intro w' hk kd tx nm tk ng la ln lc tt tn ia im ic ta tm tc ka kn kc h
  obtain ⟨tr, kids', kcss, e, htr, hr, hkr, hkc, hkl⟩ := h.parts
  injection e with e1 e2 e3 e4 e5
  subst e1 e2 e5
  obtain ⟨kd0, tx0, nm0, tk0, ng0, la0, ln0, lc0, tt0, tn0, ia0, im0, ic0, ta0, tm0, tc0, ka0, kn0, kc0, kcss', rfl, hc0⟩ := first_kid hkc
  obtain rfl : kn = 1 := by simpa using hkl.symm
  exact val_hd A n c D m d _ _ _ _ _ _ _ _ _ _ _ _ _ _ _ _ _ _ _ _ _ _ _ _ _ _ _ _ _ _ _ _ _ _ _ kcss' t0 N w' (Nat.le_trans hN hk.size) (hkr.more (fun _ _ _ => trivial)) (hL.keep hk) (hK.keep hk) hr0 hs0 (fun w'' hk2 => h0 w'' (hk.trans' hk2 (fun _ _ => id) (fun _ _ => id)) _ _ _ _ _ _ _ _ _ _ _ _ _ _ _ _ _ _ _ (CoreIn.keep hk2 (fun _ _ => id) _ _ hc0))
end
def trueT : Tm := flatT 2 ⟨#[116, 114, 117, 101]⟩ 0
set_option maxRecDepth 100000 in
theorem truth_true (w : World) : Calls Tryz.prog 35 #[.bool true] w fun e w' => e = .returned (.agg #[.int .u8 2, .bool false, .slice none 0 0, .string ⟨#[116, 114, 117, 101]⟩, .int .i64 0, .slice none 0 0, .slice none 0 0]) ∧ Keeps NoB w w' := by
  have hA := Blk.new w 26 #[.int .u8 2, .bool false, .slice none 0 0, .string ⟨#[116, 114, 117, 101]⟩, .int .i64 0, .slice none 0 0, .slice none 0 0]
  have HA := hide hA; have HK := hide ((Keeps.refl NoB w).alloc (.cells #[.int .u8 2, .bool false, .slice none 0 0, .string ⟨#[116, 114, 117, 101]⟩, .int .i64 0, .slice none 0 0, .slice none 0 0] 26))
  clear hA
  go_enter Tryz.func35, Tryz.ntmps35
  go_wp2_with fail
  refine bodyPost_ret (results7 Tryz.f35 2 (by kernel_rfl) _ _ _ _ _ _ _ _ _ _ rfl HA.out) rfl ?_
  exact ⟨rfl, HK.out⟩
/-- Is a guard's expression true: the closure of Guard. -/
def YesV (w : World) (vb : Nat) (k : Co) (N : Nat) (b : Bool) : Prop := ∀ w', Keeps NoB w w' → ∀ (kd : Int) (tx : ByteArray) (nm tk : Int) (ng : Bool) (la : Option Addr) (ln lc : Nat) (tt : ByteArray) (tn : Int) (ia : Option Addr) (im ic : Nat) (ta : Option Addr) (tm tc : Nat) (ka : Option Addr) (kn kc : Nat), CoreIn w' (fun j => j < N) false [.int .u8 kd, .string tx, .int .i64 nm, .int .u8 tk, .bool ng, .slice la ln lc, .string tt, .int .i64 tn, .slice ia im ic, .slice ta tm tc, .slice ka kn kc] k → Calls Tryz.prog 33 #[.agg #[.int .u8 kd, .string tx, .int .i64 nm, .int .u8 tk, .bool ng, .slice la ln lc, .string tt, .int .i64 tn, .slice ia im ic, .slice ta tm tc, .slice ka kn kc], .pointer (some ⟨vb, 0, none⟩)] w' fun e w'' => e = .returned (.bool b) ∧ Keeps NoB w' w''
theorem YesV.keep {w w1 : World} {vb N : Nat} {k : Co} {b : Bool} (h : YesV w vb k N b) (hk : Keeps NoB w w1) : YesV w1 vb k N b := fun w' hk' => h w' (hk.trans' hk' (fun _ _ => id) (fun _ _ => id))
set_option maxRecDepth 100000 in
set_option maxHeartbeats 4000000 in
theorem yes_no {N n c m d : Nat} {A D : Option Addr} {k : Co} {t : Tm} (w : World) (vb : Nat) (hvb : Blk w vb 39 #[.slice A n c, .slice D m d]) (hv : GuardV N w A n c D m d k t false) : YesV w vb k N false := by
  intro w' hk kd tx nm tk ng la ln lc tt tn ia im ic ta tm tc ka kn kc h
  have HVB := hide (hvb.keep hk id); have HV := hide (hv.keep hk); have HC := hide h
  clear hvb hv h hk
  have HB := hide (Blk.new w' 34 #[.int .u8 kd, .string tx, .int .i64 nm, .int .u8 tk, .bool ng, .slice la ln lc, .string tt, .int .i64 tn, .slice ia im ic, .slice ta tm tc, .slice ka kn kc]); have HKA := hide ((Keeps.refl NoB w').alloc (.cells #[.int .u8 kd, .string tx, .int .i64 nm, .int .u8 tk, .bool ng, .slice la ln lc, .string tt, .int .i64 tn, .slice ia im ic, .slice ta tm tc, .slice ka kn kc] 34))
  have e0 : (w'.alloc (.cells #[.int .u8 kd, .string tx, .int .i64 nm, .int .u8 tk, .bool ng, .slice la ln lc, .string tt, .int .i64 tn, .slice ia im ic, .slice ta tm tc, .slice ka kn kc] 34)).cell? ⟨w'.heap.size, 0, none⟩ = some (.int .u8 kd) := HB.out.cell 0; have e1 : (w'.alloc (.cells #[.int .u8 kd, .string tx, .int .i64 nm, .int .u8 tk, .bool ng, .slice la ln lc, .string tt, .int .i64 tn, .slice ia im ic, .slice ta tm tc, .slice ka kn kc] 34)).cell? ⟨w'.heap.size, 1, none⟩ = some (.string tx) := HB.out.cell 1; have e2 : (w'.alloc (.cells #[.int .u8 kd, .string tx, .int .i64 nm, .int .u8 tk, .bool ng, .slice la ln lc, .string tt, .int .i64 tn, .slice ia im ic, .slice ta tm tc, .slice ka kn kc] 34)).cell? ⟨w'.heap.size, 2, none⟩ = some (.int .i64 nm) := HB.out.cell 2; have e3 : (w'.alloc (.cells #[.int .u8 kd, .string tx, .int .i64 nm, .int .u8 tk, .bool ng, .slice la ln lc, .string tt, .int .i64 tn, .slice ia im ic, .slice ta tm tc, .slice ka kn kc] 34)).cell? ⟨w'.heap.size, 3, none⟩ = some (.int .u8 tk) := HB.out.cell 3; have e4 : (w'.alloc (.cells #[.int .u8 kd, .string tx, .int .i64 nm, .int .u8 tk, .bool ng, .slice la ln lc, .string tt, .int .i64 tn, .slice ia im ic, .slice ta tm tc, .slice ka kn kc] 34)).cell? ⟨w'.heap.size, 4, none⟩ = some (.bool ng) := HB.out.cell 4; have e5 : (w'.alloc (.cells #[.int .u8 kd, .string tx, .int .i64 nm, .int .u8 tk, .bool ng, .slice la ln lc, .string tt, .int .i64 tn, .slice ia im ic, .slice ta tm tc, .slice ka kn kc] 34)).cell? ⟨w'.heap.size, 5, none⟩ = some (.slice la ln lc) := HB.out.cell 5; have e6 : (w'.alloc (.cells #[.int .u8 kd, .string tx, .int .i64 nm, .int .u8 tk, .bool ng, .slice la ln lc, .string tt, .int .i64 tn, .slice ia im ic, .slice ta tm tc, .slice ka kn kc] 34)).cell? ⟨w'.heap.size, 6, none⟩ = some (.string tt) := HB.out.cell 6; have e7 : (w'.alloc (.cells #[.int .u8 kd, .string tx, .int .i64 nm, .int .u8 tk, .bool ng, .slice la ln lc, .string tt, .int .i64 tn, .slice ia im ic, .slice ta tm tc, .slice ka kn kc] 34)).cell? ⟨w'.heap.size, 7, none⟩ = some (.int .i64 tn) := HB.out.cell 7; have e8 : (w'.alloc (.cells #[.int .u8 kd, .string tx, .int .i64 nm, .int .u8 tk, .bool ng, .slice la ln lc, .string tt, .int .i64 tn, .slice ia im ic, .slice ta tm tc, .slice ka kn kc] 34)).cell? ⟨w'.heap.size, 8, none⟩ = some (.slice ia im ic) := HB.out.cell 8; have e9 : (w'.alloc (.cells #[.int .u8 kd, .string tx, .int .i64 nm, .int .u8 tk, .bool ng, .slice la ln lc, .string tt, .int .i64 tn, .slice ia im ic, .slice ta tm tc, .slice ka kn kc] 34)).cell? ⟨w'.heap.size, 9, none⟩ = some (.slice ta tm tc) := HB.out.cell 9; have e10 : (w'.alloc (.cells #[.int .u8 kd, .string tx, .int .i64 nm, .int .u8 tk, .bool ng, .slice la ln lc, .string tt, .int .i64 tn, .slice ia im ic, .slice ta tm tc, .slice ka kn kc] 34)).cell? ⟨w'.heap.size, 10, none⟩ = some (.slice ka kn kc) := HB.out.cell 10
  have v0 : (w'.alloc (.cells #[.int .u8 kd, .string tx, .int .i64 nm, .int .u8 tk, .bool ng, .slice la ln lc, .string tt, .int .i64 tn, .slice ia im ic, .slice ta tm tc, .slice ka kn kc] 34)).cell? ⟨vb, 0, none⟩ = some (.slice A n c) := (HVB.out.keep HKA.out id).cell 0
  have v1 : (w'.alloc (.cells #[.int .u8 kd, .string tx, .int .i64 nm, .int .u8 tk, .bool ng, .slice la ln lc, .string tt, .int .i64 tn, .slice ia im ic, .slice ta tm tc, .slice ka kn kc] 34)).cell? ⟨vb, 1, none⟩ = some (.slice D m d) := (HVB.out.keep HKA.out id).cell 1
  go_enter Tryz.func33, Tryz.ntmps33
  go_upto_region 2 with
    first
    | (go_at_call 34
       refine (HV.out _ HKA.out _ _ _ _ _ _ _ _ _ _ _ _ _ _ _ _ _ _ _ (CoreIn.keep HKA.out (fun _ _ => id) _ _ HC.out)).mono ?_
       rintro e w2 ⟨k1, g1, a1, n1, c1, s1, m1, a2, n2, c2, a3, n3, c3, rfl, ht2, hk2⟩
       have HT2 := hide ht2
       have HK2 := hide (HKA.out.trans' hk2 (fun _ _ => id) (fun _ _ => id) : Keeps NoB w' w2)
       clear hk2 ht2)
    | fail
  clear e0 e1 e2 e3 e4 e5 e6 e7 e8 e9 e10 v0 v1
  have HBT := hide (Blk.new w2 26 #[.int .u8 k1, .bool g1, .slice a1 n1 c1, .string s1, .int .i64 m1, .slice a2 n2 c2, .slice a3 n3 c3])
  have HK3 := hide (HK2.out.alloc (.cells #[.int .u8 k1, .bool g1, .slice a1 n1 c1, .string s1, .int .i64 m1, .slice a2 n2 c2, .slice a3 n3 c3] 26))
  have HT3 := hide (TermIn.keep ((Keeps.refl NoB w2).alloc (.cells #[.int .u8 k1, .bool g1, .slice a1 n1 c1, .string s1, .int .i64 m1, .slice a2 n2 c2, .slice a3 n3 c3] 26)) (fun _ _ => id) _ _ HT2.out)
  generalize w2.alloc (.cells #[.int .u8 k1, .bool g1, .slice a1 n1 c1, .string s1, .int .i64 m1, .slice a2 n2 c2, .slice a3 n3 c3] 26) = w3 at *
  refine order_begin (fun W => Keeps NoB w3 W) (fun _ => true) (by kernel_rfl) 7 rfl ?_
  have HS : Keeps NoB w3 w3.drew := (Keeps.refl _ _).drew
  refine order_pure (i := 0) rfl (by kernel_rfl) (fun _ _ _ h => h) (.inl ⟨rfl, fun _ => by go_simp; rfl⟩) ?_
  try simp only [Act.put, List.setIfInBounds_toArray, List.set_cons_succ, List.set_cons_zero]
  refine order_pure (i := 1) rfl (by kernel_rfl) (fun _ _ _ h => h) (.inl ⟨rfl, fun _ => by go_simp; rfl⟩) ?_
  try simp only [Act.put, List.setIfInBounds_toArray, List.set_cons_succ, List.set_cons_zero]
  refine order_skip (i := 2) rfl (by kernel_rfl) (fun _ _ _ h => h) (by kernel_rfl) ?_
  try simp only [Act.put, List.setIfInBounds_toArray, List.set_cons_succ, List.set_cons_zero]
  refine order_skip (i := 3) rfl (by kernel_rfl) (fun _ _ _ h => h) (by kernel_rfl) ?_
  try simp only [Act.put, List.setIfInBounds_toArray, List.set_cons_succ, List.set_cons_zero]
  refine order_skip (i := 4) rfl (by kernel_rfl) (fun _ _ _ h => h) (by kernel_rfl) ?_
  try simp only [Act.put, List.setIfInBounds_toArray, List.set_cons_succ, List.set_cons_zero]
  refine order_pure (i := 5) rfl (by kernel_rfl) (fun _ _ _ h => h) (.inl ⟨rfl, fun _ => by go_simp; rfl⟩) ?_
  try simp only [Act.put, List.setIfInBounds_toArray, List.set_cons_succ, List.set_cons_zero]
  refine order_pure (i := 6) rfl (by kernel_rfl) (fun _ _ _ h => h) (.inl ⟨rfl, fun _ => by go_simp; rfl⟩) ?_
  try simp only [Act.put, List.setIfInBounds_toArray, List.set_cons_succ, List.set_cons_zero]
  refine order_done (by kernel_rfl) ?_
  have HKF := hide (HK3.out.trans' HS (fun _ _ => id) (fun _ _ => id) : Keeps NoB w' _)
  clear HS
  go_wp2_with fail
  go_ret
  exact ⟨rfl, HKF.out⟩
set_option maxRecDepth 100000 in
set_option maxHeartbeats 4000000 in
theorem yes_any {N n c m d : Nat} {A D : Option Addr} {k : Co} {t : Tm} (w : World) (vb : Nat) (hot : okT t) (hvb : Blk w vb 39 #[.slice A n c, .slice D m d]) (hv : GuardV N w A n c D m d k t true) : YesV w vb k N (sameT t trueT) := by
  intro w' hk kd tx nm tk ng la ln lc tt tn ia im ic ta tm tc ka kn kc h
  have HVB := hide (hvb.keep hk id); have HV := hide (hv.keep hk); have HC := hide h
  have HOT := hide hot; have HOTT := hide (show okT trueT from by unfold trueT flatT okT okTs; exact ⟨by omega, (fun _ h => by cases h), by decide, by omega, trivial, trivial⟩)
  clear hot
  clear hvb hv h hk
  have HB := hide (Blk.new w' 34 #[.int .u8 kd, .string tx, .int .i64 nm, .int .u8 tk, .bool ng, .slice la ln lc, .string tt, .int .i64 tn, .slice ia im ic, .slice ta tm tc, .slice ka kn kc]); have HKA := hide ((Keeps.refl NoB w').alloc (.cells #[.int .u8 kd, .string tx, .int .i64 nm, .int .u8 tk, .bool ng, .slice la ln lc, .string tt, .int .i64 tn, .slice ia im ic, .slice ta tm tc, .slice ka kn kc] 34))
  have e0 : (w'.alloc (.cells #[.int .u8 kd, .string tx, .int .i64 nm, .int .u8 tk, .bool ng, .slice la ln lc, .string tt, .int .i64 tn, .slice ia im ic, .slice ta tm tc, .slice ka kn kc] 34)).cell? ⟨w'.heap.size, 0, none⟩ = some (.int .u8 kd) := HB.out.cell 0; have e1 : (w'.alloc (.cells #[.int .u8 kd, .string tx, .int .i64 nm, .int .u8 tk, .bool ng, .slice la ln lc, .string tt, .int .i64 tn, .slice ia im ic, .slice ta tm tc, .slice ka kn kc] 34)).cell? ⟨w'.heap.size, 1, none⟩ = some (.string tx) := HB.out.cell 1; have e2 : (w'.alloc (.cells #[.int .u8 kd, .string tx, .int .i64 nm, .int .u8 tk, .bool ng, .slice la ln lc, .string tt, .int .i64 tn, .slice ia im ic, .slice ta tm tc, .slice ka kn kc] 34)).cell? ⟨w'.heap.size, 2, none⟩ = some (.int .i64 nm) := HB.out.cell 2; have e3 : (w'.alloc (.cells #[.int .u8 kd, .string tx, .int .i64 nm, .int .u8 tk, .bool ng, .slice la ln lc, .string tt, .int .i64 tn, .slice ia im ic, .slice ta tm tc, .slice ka kn kc] 34)).cell? ⟨w'.heap.size, 3, none⟩ = some (.int .u8 tk) := HB.out.cell 3; have e4 : (w'.alloc (.cells #[.int .u8 kd, .string tx, .int .i64 nm, .int .u8 tk, .bool ng, .slice la ln lc, .string tt, .int .i64 tn, .slice ia im ic, .slice ta tm tc, .slice ka kn kc] 34)).cell? ⟨w'.heap.size, 4, none⟩ = some (.bool ng) := HB.out.cell 4; have e5 : (w'.alloc (.cells #[.int .u8 kd, .string tx, .int .i64 nm, .int .u8 tk, .bool ng, .slice la ln lc, .string tt, .int .i64 tn, .slice ia im ic, .slice ta tm tc, .slice ka kn kc] 34)).cell? ⟨w'.heap.size, 5, none⟩ = some (.slice la ln lc) := HB.out.cell 5; have e6 : (w'.alloc (.cells #[.int .u8 kd, .string tx, .int .i64 nm, .int .u8 tk, .bool ng, .slice la ln lc, .string tt, .int .i64 tn, .slice ia im ic, .slice ta tm tc, .slice ka kn kc] 34)).cell? ⟨w'.heap.size, 6, none⟩ = some (.string tt) := HB.out.cell 6; have e7 : (w'.alloc (.cells #[.int .u8 kd, .string tx, .int .i64 nm, .int .u8 tk, .bool ng, .slice la ln lc, .string tt, .int .i64 tn, .slice ia im ic, .slice ta tm tc, .slice ka kn kc] 34)).cell? ⟨w'.heap.size, 7, none⟩ = some (.int .i64 tn) := HB.out.cell 7; have e8 : (w'.alloc (.cells #[.int .u8 kd, .string tx, .int .i64 nm, .int .u8 tk, .bool ng, .slice la ln lc, .string tt, .int .i64 tn, .slice ia im ic, .slice ta tm tc, .slice ka kn kc] 34)).cell? ⟨w'.heap.size, 8, none⟩ = some (.slice ia im ic) := HB.out.cell 8; have e9 : (w'.alloc (.cells #[.int .u8 kd, .string tx, .int .i64 nm, .int .u8 tk, .bool ng, .slice la ln lc, .string tt, .int .i64 tn, .slice ia im ic, .slice ta tm tc, .slice ka kn kc] 34)).cell? ⟨w'.heap.size, 9, none⟩ = some (.slice ta tm tc) := HB.out.cell 9; have e10 : (w'.alloc (.cells #[.int .u8 kd, .string tx, .int .i64 nm, .int .u8 tk, .bool ng, .slice la ln lc, .string tt, .int .i64 tn, .slice ia im ic, .slice ta tm tc, .slice ka kn kc] 34)).cell? ⟨w'.heap.size, 10, none⟩ = some (.slice ka kn kc) := HB.out.cell 10
  have v0 : (w'.alloc (.cells #[.int .u8 kd, .string tx, .int .i64 nm, .int .u8 tk, .bool ng, .slice la ln lc, .string tt, .int .i64 tn, .slice ia im ic, .slice ta tm tc, .slice ka kn kc] 34)).cell? ⟨vb, 0, none⟩ = some (.slice A n c) := (HVB.out.keep HKA.out id).cell 0
  have v1 : (w'.alloc (.cells #[.int .u8 kd, .string tx, .int .i64 nm, .int .u8 tk, .bool ng, .slice la ln lc, .string tt, .int .i64 tn, .slice ia im ic, .slice ta tm tc, .slice ka kn kc] 34)).cell? ⟨vb, 1, none⟩ = some (.slice D m d) := (HVB.out.keep HKA.out id).cell 1
  go_enter Tryz.func33, Tryz.ntmps33
  go_upto_region 2 with
    first
    | (go_at_call 34
       refine (HV.out _ HKA.out _ _ _ _ _ _ _ _ _ _ _ _ _ _ _ _ _ _ _ (CoreIn.keep HKA.out (fun _ _ => id) _ _ HC.out)).mono ?_
       rintro e w2 ⟨k1, g1, a1, n1, c1, s1, m1, a2, n2, c2, a3, n3, c3, rfl, ht2, hk2⟩
       have HT2 := hide ht2
       have HK2 := hide (HKA.out.trans' hk2 (fun _ _ => id) (fun _ _ => id) : Keeps NoB w' w2)
       clear hk2 ht2)
    | fail
  clear e0 e1 e2 e3 e4 e5 e6 e7 e8 e9 e10 v0 v1
  have HBT := hide (Blk.new w2 26 #[.int .u8 k1, .bool g1, .slice a1 n1 c1, .string s1, .int .i64 m1, .slice a2 n2 c2, .slice a3 n3 c3])
  have HK3 := hide (HK2.out.alloc (.cells #[.int .u8 k1, .bool g1, .slice a1 n1 c1, .string s1, .int .i64 m1, .slice a2 n2 c2, .slice a3 n3 c3] 26))
  have HT3 := hide (TermIn.keep ((Keeps.refl NoB w2).alloc (.cells #[.int .u8 k1, .bool g1, .slice a1 n1 c1, .string s1, .int .i64 m1, .slice a2 n2 c2, .slice a3 n3 c3] 26)) (fun _ _ => id) _ _ HT2.out)
  generalize w2.alloc (.cells #[.int .u8 k1, .bool g1, .slice a1 n1 c1, .string s1, .int .i64 m1, .slice a2 n2 c2, .slice a3 n3 c3] 26) = w3 at *
  refine order_begin (fun W => Keeps NoB w3 W) (fun _ => true) (by kernel_rfl) 7 rfl ?_
  have HS : Keeps NoB w3 w3.drew := (Keeps.refl _ _).drew
  refine order_pure (i := 0) rfl (by kernel_rfl) (fun _ _ _ h => h) (.inl ⟨rfl, fun _ => by go_simp; rfl⟩) ?_
  try simp only [Act.put, List.setIfInBounds_toArray, List.set_cons_succ, List.set_cons_zero]
  refine order_pure (i := 1) rfl (by kernel_rfl) (fun _ _ _ h => h) (.inl ⟨rfl, fun _ => by go_simp; rfl⟩) ?_
  try simp only [Act.put, List.setIfInBounds_toArray, List.set_cons_succ, List.set_cons_zero]
  refine order_held (i := 2) rfl (by kernel_rfl) (fun _ _ _ h => h) (.inl ⟨rfl, fun W hW => by
    have q0 : W.cell? ⟨w2.heap.size, 0, none⟩ = some (.int .u8 k1) := hW.cell id (HBT.out.cell 0)
    have q1 : W.cell? ⟨w2.heap.size, 1, none⟩ = some (.bool g1) := hW.cell id (HBT.out.cell 1)
    have q2 : W.cell? ⟨w2.heap.size, 2, none⟩ = some (.slice a1 n1 c1) := hW.cell id (HBT.out.cell 2)
    have q3 : W.cell? ⟨w2.heap.size, 3, none⟩ = some (.string s1) := hW.cell id (HBT.out.cell 3)
    have q4 : W.cell? ⟨w2.heap.size, 4, none⟩ = some (.int .i64 m1) := hW.cell id (HBT.out.cell 4)
    have q5 : W.cell? ⟨w2.heap.size, 5, none⟩ = some (.slice a2 n2 c2) := hW.cell id (HBT.out.cell 5)
    have q6 : W.cell? ⟨w2.heap.size, 6, none⟩ = some (.slice a3 n3 c3) := hW.cell id (HBT.out.cell 6)
    go_simp; rfl⟩) HS ?_
  try simp only [Act.put, List.setIfInBounds_toArray, List.set_cons_succ, List.set_cons_zero]
  refine order_one (i := 3) rfl (by kernel_rfl) (fun K hK => ?_)
  go_simp
  refine (truth_true _).mono ?_
  rintro e w4 ⟨rfl, hk4⟩
  have HS4 : Keeps NoB w3 w4 := HS.trans' hk4 (fun _ _ => id) (fun _ _ => id)
  refine hK _ _ (fun _ _ => HS4) ?_
  clear hK HS hk4
  have HS := HS4
  clear HS4
  try simp only [Act.put, List.setIfInBounds_toArray, List.set_cons_succ, List.set_cons_zero]
  refine order_one (i := 4) rfl (by kernel_rfl) (fun K hK => ?_)
  go_simp
  refine (same_any t trueT HOT.out HOTT.out w4 _ _ _ _ _ _ _ _ _ _ _ _ _ _ _ _ _ _ _ _ _ _ _ _ _ _ _ _ _ _ (TermIn.keep HS (fun _ _ => id) _ _ HT3.out) (flat_in w4 (fun _ => True) false 2 ⟨#[116, 114, 117, 101]⟩ 0)).mono ?_
  rintro e w5 ⟨rfl, hk5⟩
  have HS5 : Keeps NoB w3 w5 := HS.trans' hk5 (fun _ _ => id) (fun _ _ => id)
  refine hK _ _ (fun _ _ => HS5) ?_
  have HKF := hide (HK3.out.trans' HS5 (fun _ _ => id) (fun _ _ => id) : Keeps NoB w' w5)
  clear hK HS hk5 HS5
  try simp only [Act.put, List.setIfInBounds_toArray, List.set_cons_succ, List.set_cons_zero]
  refine order_pure (i := 5) rfl (by kernel_rfl) (fun _ _ _ h => h) (.inl ⟨rfl, fun _ => by go_simp; rfl⟩) ?_
  try simp only [Act.put, List.setIfInBounds_toArray, List.set_cons_succ, List.set_cons_zero]
  refine order_pure (i := 6) rfl (by kernel_rfl) (fun _ _ _ h => h) (.inl ⟨rfl, fun _ => by go_simp; rfl⟩) ?_
  try simp only [Act.put, List.setIfInBounds_toArray, List.set_cons_succ, List.set_cons_zero]
  refine order_done (by kernel_rfl) ?_
  go_wp2_with fail
  go_ret
  exact ⟨rfl, HKF.out⟩
end Go.Proofs.YtjdbjjjbgibpaaaGreatDoor
