/- law10.call at + * div rem; integers as trees. Printed by mkwhole10.py. BifWhole's walk. Printed by mkwhole10.py. BifWhole's walk. Printed by mkwhole10.py. BifWhole's walk. Printed by mkwhole10.py. -/
import Derived.Test.YthbbalkhmofndaaGreatDoorCallR2Jn
import Derived.Test.YthbbalkhmofndaaGreatDoorCallDJn
import Derived.Test.YthbbalkhmofndaaGreatDoorAwakeJn
import Derived.Test.YthbbalkhmofndaaGreatDoorCompareJn
namespace Go.Proofs.YthbbalkhmofndaaGreatDoor
open Go.RowKit

theorem limbs_of {w : World} {B : Nat → Prop} {F : Bool} {t : Tm} (kd : Int) (ng : Bool) (la : Option Addr) (ln lc : Nat) (tx : ByteArray) (nm : Int) (ia : Option Addr) (im ic : Nat) (ta : Option Addr) (tn tc : Nat) (ht : TermIn w B F [.int .u8 kd, .bool ng, .slice la ln lc, .string tx, .int .i64 nm, .slice ia im ic, .slice ta tn tc] t) (ho : okT t) : LimbsIn w B la ln lc (t.limbs.map Int.toNat) ∧ im ≤ 140737488355328 ∧ tn ≤ 140737488355328 ∧ kd = t.kind ∧ ng = t.neg ∧ tx = t.text ∧ nm = t.num ∧ im = t.items.length ∧ tn = t.tail.length := by
  obtain ⟨limbs, items, tail, css, dss, rfl, hroom, hr, _, _, _, _, hl, hi, htl⟩ := ht.parts
  unfold okT at ho
  have h1 := ho.2.1
  have hlow : Low (limbs.map Int.toNat) := fun x hx => by
    obtain ⟨y, hy, rfl⟩ := List.mem_map.1 hx
    have := h1 y hy
    show y.toNat < 4294967296
    omega
  have hr1 := hroom.2.1.1; have hr2 := hroom.2.2.1
  unfold Roomy at hr1 hr2
  exact ⟨⟨⟨F, by rw [show (Tm.limbs (.mk kd ng limbs tx nm items tail)) = limbs from rfl, u32s_nat h1]; exact hr⟩, hlow, hroom.1.2.1, hroom.1.2.2⟩, by omega, by omega, rfl, rfl, rfl, rfl, hi.symm, htl.symm⟩
theorem right_of {t : Tm} (ho : okT t) (h : rightB t.kind t.neg (t.limbs.map Int.toNat) t.text t.num t.items.length t.tail.length = true) : goodT t ∧ t.kind = 1 := by
  obtain ⟨k, ng, limbs, tx, nm, items, tail⟩ := t
  have ho' := ho
  unfold okT at ho'
  have h1 := ho'.2.1
  have h' : rightB k ng (limbs.map Int.toNat) tx nm items.length tail.length = true := h
  unfold rightB at h'
  simp only [Bool.and_eq_true, decide_eq_true_eq, List.length_map] at h'
  obtain ⟨rfl, h2, h3, h4, h5, h6⟩ := h'
  refine ⟨⟨decide_eq_true ?_, ho⟩, rfl⟩
  unfold sizeT
  rw [if_pos rfl, if_pos ?_]
  · omega
  · unfold intT
    simp only [Bool.and_eq_true, decide_eq_true_eq]
    refine ⟨⟨⟨⟨⟨trivial, h2⟩, h3⟩, h4⟩, h5⟩, ?_⟩
    by_cases h0 : limbs.length = 0
    · rw [if_pos h0] at h6 ⊢; exact h6
    · rw [if_neg h0] at h6 ⊢
      have h7 := of_decide_eq_true h6
      refine decide_eq_true ?_
      have hlt : limbs.length - 1 < limbs.length := by omega
      rw [List.getD_eq_getElem?_getD, List.getElem?_map, List.getElem?_eq_getElem hlt] at h7
      rw [List.getD_eq_getElem?_getD, List.getElem?_eq_getElem hlt]
      simp only [Option.map_some, Option.getD_some] at h7 ⊢
      intro e
      rw [e] at h7
      exact h7 rfl
theorem same_int (a : Tm) (hga : goodT a) (hka : a.kind = 1) (hz : (intV a).natAbs < Big) : sameT (intTm (intV a)) a = true := by
  unfold sameT
  rw [intTm_right hz, hga.1]
  have h : orderT (intTm (intV a)) a = 0 := by
    unfold orderT
    obtain ⟨m, hm⟩ : ∃ m, (intTm (intV a)).size + a.size = m + 1 := ⟨(intTm (intV a)).size + a.size - 1, by have := a.size_pos; omega⟩
    rw [hm, ordO, if_neg (by rw [hka]; simp [intTm, Tm.kind]), if_pos (show (intTm (intV a)).kind = 1 from rfl), intTm_V]
    unfold cmpZ
    rw [if_neg (by omega), if_neg (by omega)]
  rw [h]
  rfl
theorem law_add (a b : Tm) (hga : goodT a) (hgb : goodT b) (hka : a.kind = 1) (hkb : b.kind = 1) (hz : (intV a + intV b).natAbs < Big) (w : World) (hL : LaidK w) (ga c : Nat) (kd : Int) (ng : Bool) (la : Option Addr) (ln lc : Nat) (tx : ByteArray) (nm : Int) (ia : Option Addr) (im ic : Nat) (ta : Option Addr) (tn tc : Nat) (kd' : Int) (ng' : Bool) (la' : Option Addr) (ln' lc' : Nat) (tx' : ByteArray) (nm' : Int) (ia' : Option Addr) (im' ic' : Nat) (ta' : Option Addr) (tn' tc' : Nat)
    (hA : Blk w ga 26 #[.int .u8 kd, .bool ng, .slice la ln lc, .string tx, .int .i64 nm, .slice ia im ic, .slice ta tn tc, .int .u8 kd', .bool ng', .slice la' ln' lc', .string tx', .int .i64 nm', .slice ia' im' ic', .slice ta' tn' tc']) (ha : TermIn w (fun _ => True) false [.int .u8 kd, .bool ng, .slice la ln lc, .string tx, .int .i64 nm, .slice ia im ic, .slice ta tn tc] a) (hb : TermIn w (fun _ => True) false [.int .u8 kd', .bool ng', .slice la' ln' lc', .string tx', .int .i64 nm', .slice ia' im' ic', .slice ta' tn' tc'] b) :
    Calls Tryz.prog 9 #[.string ⟨#[43]⟩, .slice (some ⟨ga, 0, none⟩) 2 c] w (LawCallP w (intTm (intV a + intV b))) :=
  law_call_yes ⟨#[43]⟩ _ 2 c _ _ (by rfl) w fun w1 hk => call_add a b hga hgb hka hkb hz w1 (hL.keep hk) ga c _ _ _ _ _ _ _ _ _ _ _ _ _ _ _ _ _ _ _ _ _ _ _ _ _ _ (hA.keep hk id) (TermIn.keep hk (fun _ _ => id) _ _ ha) (TermIn.keep hk (fun _ _ => id) _ _ hb)
theorem law_times (a b : Tm) (hga : goodT a) (hgb : goodT b) (hka : a.kind = 1) (hkb : b.kind = 1) (hz : (intV a * intV b).natAbs < Big) (w : World) (hL : LaidK w) (ga c : Nat) (kd : Int) (ng : Bool) (la : Option Addr) (ln lc : Nat) (tx : ByteArray) (nm : Int) (ia : Option Addr) (im ic : Nat) (ta : Option Addr) (tn tc : Nat) (kd' : Int) (ng' : Bool) (la' : Option Addr) (ln' lc' : Nat) (tx' : ByteArray) (nm' : Int) (ia' : Option Addr) (im' ic' : Nat) (ta' : Option Addr) (tn' tc' : Nat)
    (hA : Blk w ga 26 #[.int .u8 kd, .bool ng, .slice la ln lc, .string tx, .int .i64 nm, .slice ia im ic, .slice ta tn tc, .int .u8 kd', .bool ng', .slice la' ln' lc', .string tx', .int .i64 nm', .slice ia' im' ic', .slice ta' tn' tc']) (ha : TermIn w (fun _ => True) false [.int .u8 kd, .bool ng, .slice la ln lc, .string tx, .int .i64 nm, .slice ia im ic, .slice ta tn tc] a) (hb : TermIn w (fun _ => True) false [.int .u8 kd', .bool ng', .slice la' ln' lc', .string tx', .int .i64 nm', .slice ia' im' ic', .slice ta' tn' tc'] b) :
    Calls Tryz.prog 9 #[.string ⟨#[42]⟩, .slice (some ⟨ga, 0, none⟩) 2 c] w (LawCallP w (intTm (intV a * intV b))) :=
  law_call_yes ⟨#[42]⟩ _ 2 c _ _ (by rfl) w fun w1 hk => call_times a b hga hgb hka hkb hz w1 (hL.keep hk) ga c _ _ _ _ _ _ _ _ _ _ _ _ _ _ _ _ _ _ _ _ _ _ _ _ _ _ (hA.keep hk id) (TermIn.keep hk (fun _ _ => id) _ _ ha) (TermIn.keep hk (fun _ _ => id) _ _ hb)
theorem law_div (a b : Tm) (hga : goodT a) (hgb : goodT b) (hka : a.kind = 1) (hkb : b.kind = 1) (hy : intV b ≠ 0) (w : World) (hL : LaidK w) (ga c : Nat) (kd : Int) (ng : Bool) (la : Option Addr) (ln lc : Nat) (tx : ByteArray) (nm : Int) (ia : Option Addr) (im ic : Nat) (ta : Option Addr) (tn tc : Nat) (kd' : Int) (ng' : Bool) (la' : Option Addr) (ln' lc' : Nat) (tx' : ByteArray) (nm' : Int) (ia' : Option Addr) (im' ic' : Nat) (ta' : Option Addr) (tn' tc' : Nat)
    (hA : Blk w ga 26 #[.int .u8 kd, .bool ng, .slice la ln lc, .string tx, .int .i64 nm, .slice ia im ic, .slice ta tn tc, .int .u8 kd', .bool ng', .slice la' ln' lc', .string tx', .int .i64 nm', .slice ia' im' ic', .slice ta' tn' tc']) (ha : TermIn w (fun _ => True) false [.int .u8 kd, .bool ng, .slice la ln lc, .string tx, .int .i64 nm, .slice ia im ic, .slice ta tn tc] a) (hb : TermIn w (fun _ => True) false [.int .u8 kd', .bool ng', .slice la' ln' lc', .string tx', .int .i64 nm', .slice ia' im' ic', .slice ta' tn' tc'] b) :
    Calls Tryz.prog 9 #[.string ⟨#[100, 105, 118]⟩, .slice (some ⟨ga, 0, none⟩) 2 c] w (LawCallP w (intTm ((intV a).tdiv (intV b)))) :=
  law_call_yes ⟨#[100, 105, 118]⟩ _ 2 c _ _ (by rfl) w fun w1 hk => call_div a b hga hgb hka hkb hy w1 (hL.keep hk) ga c _ _ _ _ _ _ _ _ _ _ _ _ _ _ _ _ _ _ _ _ _ _ _ _ _ _ (hA.keep hk id) (TermIn.keep hk (fun _ _ => id) _ _ ha) (TermIn.keep hk (fun _ _ => id) _ _ hb)
theorem law_rem (a b : Tm) (hga : goodT a) (hgb : goodT b) (hka : a.kind = 1) (hkb : b.kind = 1) (hy : intV b ≠ 0) (w : World) (hL : LaidK w) (ga c : Nat) (kd : Int) (ng : Bool) (la : Option Addr) (ln lc : Nat) (tx : ByteArray) (nm : Int) (ia : Option Addr) (im ic : Nat) (ta : Option Addr) (tn tc : Nat) (kd' : Int) (ng' : Bool) (la' : Option Addr) (ln' lc' : Nat) (tx' : ByteArray) (nm' : Int) (ia' : Option Addr) (im' ic' : Nat) (ta' : Option Addr) (tn' tc' : Nat)
    (hA : Blk w ga 26 #[.int .u8 kd, .bool ng, .slice la ln lc, .string tx, .int .i64 nm, .slice ia im ic, .slice ta tn tc, .int .u8 kd', .bool ng', .slice la' ln' lc', .string tx', .int .i64 nm', .slice ia' im' ic', .slice ta' tn' tc']) (ha : TermIn w (fun _ => True) false [.int .u8 kd, .bool ng, .slice la ln lc, .string tx, .int .i64 nm, .slice ia im ic, .slice ta tn tc] a) (hb : TermIn w (fun _ => True) false [.int .u8 kd', .bool ng', .slice la' ln' lc', .string tx', .int .i64 nm', .slice ia' im' ic', .slice ta' tn' tc'] b) :
    Calls Tryz.prog 9 #[.string ⟨#[114, 101, 109]⟩, .slice (some ⟨ga, 0, none⟩) 2 c] w (LawCallP w (intTm ((intV a).tmod (intV b)))) :=
  law_call_yes ⟨#[114, 101, 109]⟩ _ 2 c _ _ (by rfl) w fun w1 hk => call_rem a b hga hgb hka hkb hy w1 (hL.keep hk) ga c _ _ _ _ _ _ _ _ _ _ _ _ _ _ _ _ _ _ _ _ _ _ _ _ _ _ (hA.keep hk id) (TermIn.keep hk (fun _ _ => id) _ _ ha) (TermIn.keep hk (fun _ _ => id) _ _ hb)
theorem law_div_zero (a b : Tm) (hga : goodT a) (hgb : goodT b) (hka : a.kind = 1) (hkb : b.kind = 1) (hy : intV b = 0) (w : World) (hL : LaidK w) (ga c : Nat) (kd : Int) (ng : Bool) (la : Option Addr) (ln lc : Nat) (tx : ByteArray) (nm : Int) (ia : Option Addr) (im ic : Nat) (ta : Option Addr) (tn tc : Nat) (kd' : Int) (ng' : Bool) (la' : Option Addr) (ln' lc' : Nat) (tx' : ByteArray) (nm' : Int) (ia' : Option Addr) (im' ic' : Nat) (ta' : Option Addr) (tn' tc' : Nat)
    (hA : Blk w ga 26 #[.int .u8 kd, .bool ng, .slice la ln lc, .string tx, .int .i64 nm, .slice ia im ic, .slice ta tn tc, .int .u8 kd', .bool ng', .slice la' ln' lc', .string tx', .int .i64 nm', .slice ia' im' ic', .slice ta' tn' tc']) (ha : TermIn w (fun _ => True) false [.int .u8 kd, .bool ng, .slice la ln lc, .string tx, .int .i64 nm, .slice ia im ic, .slice ta tn tc] a) (hb : TermIn w (fun _ => True) false [.int .u8 kd', .bool ng', .slice la' ln' lc', .string tx', .int .i64 nm', .slice ia' im' ic', .slice ta' tn' tc'] b) :
    Calls Tryz.prog 9 #[.string ⟨#[100, 105, 118]⟩, .slice (some ⟨ga, 0, none⟩) 2 c] w (LawNoP w) :=
  law_call_no ⟨#[100, 105, 118]⟩ _ 2 c _ _ (by show ¬ (6 : Int) = 0; omega) w fun w1 hk => call_div_zero a b hga hgb hka hkb hy w1 (hL.keep hk) ga c _ _ _ _ _ _ _ _ _ _ _ _ _ _ _ _ _ _ _ _ _ _ _ _ _ _ (hA.keep hk id) (TermIn.keep hk (fun _ _ => id) _ _ ha) (TermIn.keep hk (fun _ _ => id) _ _ hb)
theorem law_rem_zero (a b : Tm) (hga : goodT a) (hgb : goodT b) (hka : a.kind = 1) (hkb : b.kind = 1) (hy : intV b = 0) (w : World) (hL : LaidK w) (ga c : Nat) (kd : Int) (ng : Bool) (la : Option Addr) (ln lc : Nat) (tx : ByteArray) (nm : Int) (ia : Option Addr) (im ic : Nat) (ta : Option Addr) (tn tc : Nat) (kd' : Int) (ng' : Bool) (la' : Option Addr) (ln' lc' : Nat) (tx' : ByteArray) (nm' : Int) (ia' : Option Addr) (im' ic' : Nat) (ta' : Option Addr) (tn' tc' : Nat)
    (hA : Blk w ga 26 #[.int .u8 kd, .bool ng, .slice la ln lc, .string tx, .int .i64 nm, .slice ia im ic, .slice ta tn tc, .int .u8 kd', .bool ng', .slice la' ln' lc', .string tx', .int .i64 nm', .slice ia' im' ic', .slice ta' tn' tc']) (ha : TermIn w (fun _ => True) false [.int .u8 kd, .bool ng, .slice la ln lc, .string tx, .int .i64 nm, .slice ia im ic, .slice ta tn tc] a) (hb : TermIn w (fun _ => True) false [.int .u8 kd', .bool ng', .slice la' ln' lc', .string tx', .int .i64 nm', .slice ia' im' ic', .slice ta' tn' tc'] b) :
    Calls Tryz.prog 9 #[.string ⟨#[114, 101, 109]⟩, .slice (some ⟨ga, 0, none⟩) 2 c] w (LawNoP w) :=
  law_call_no ⟨#[114, 101, 109]⟩ _ 2 c _ _ (by show ¬ (6 : Int) = 0; omega) w fun w1 hk => call_rem_zero a b hga hgb hka hkb hy w1 (hL.keep hk) ga c _ _ _ _ _ _ _ _ _ _ _ _ _ _ _ _ _ _ _ _ _ _ _ _ _ _ (hA.keep hk id) (TermIn.keep hk (fun _ _ => id) _ _ ha) (TermIn.keep hk (fun _ _ => id) _ _ hb)
end Go.Proofs.YthbbalkhmofndaaGreatDoor
namespace Go.Proofs.YthbbalkhmofndaaGreatDoor
open Go.RowKit

set_option maxRecDepth 100000 in
set_option maxHeartbeats 4000000 in
theorem whole_bad_a (a b : Tm) (hoa : okT a) (hob : okT b) (hra : rightB a.kind a.neg (a.limbs.map Int.toNat) a.text a.num a.items.length a.tail.length = false) (w : World) (hL : LaidK w) (hK : KindsAt w) (kd : Int) (ng : Bool) (la : Option Addr) (ln lc : Nat) (tx : ByteArray) (nm : Int) (ia : Option Addr) (im ic : Nat) (ta : Option Addr) (tn tc : Nat) (kd' : Int) (ng' : Bool) (la' : Option Addr) (ln' lc' : Nat) (tx' : ByteArray) (nm' : Int) (ia' : Option Addr) (im' ic' : Nat) (ta' : Option Addr) (tn' tc' : Nat) (ha : TermIn w (fun _ => True) false [.int .u8 kd, .bool ng, .slice la ln lc, .string tx, .int .i64 nm, .slice ia im ic, .slice ta tn tc] a) (hb : TermIn w (fun _ => True) false [.int .u8 kd', .bool ng', .slice la' ln' lc', .string tx', .int .i64 nm', .slice ia' im' ic', .slice ta' tn' tc'] b) :
    Calls Tryz.prog 4 #[.agg #[.int .u8 kd, .bool ng, .slice la ln lc, .string tx, .int .i64 nm, .slice ia im ic, .slice ta tn tc], .agg #[.int .u8 kd', .bool ng', .slice la' ln' lc', .string tx', .int .i64 nm', .slice ia' im' ic', .slice ta' tn' tc']] w fun e w' => e = .returned (.bool true) ∧ Keeps NoB w w' := by
  have HK0 := hide (((Keeps.refl NoB w).alloc (.cells #[.int .u8 kd, .bool ng, .slice la ln lc, .string tx, .int .i64 nm, .slice ia im ic, .slice ta tn tc] 26)).alloc (.cells #[.int .u8 kd', .bool ng', .slice la' ln' lc', .string tx', .int .i64 nm', .slice ia' im' ic', .slice ta' tn' tc'] 26))
  have HA0 := hide (two_tblks w 26 26 #[.int .u8 kd, .bool ng, .slice la ln lc, .string tx, .int .i64 nm, .slice ia im ic, .slice ta tn tc] #[.int .u8 kd', .bool ng', .slice la' ln' lc', .string tx', .int .i64 nm', .slice ia' im' ic', .slice ta' tn' tc']).1; have HB0 := hide (two_tblks w 26 26 #[.int .u8 kd, .bool ng, .slice la ln lc, .string tx, .int .i64 nm, .slice ia im ic, .slice ta tn tc] #[.int .u8 kd', .bool ng', .slice la' ln' lc', .string tx', .int .i64 nm', .slice ia' im' ic', .slice ta' tn' tc']).2
  have HTA := hide ha; have HTB := hide hb; have HL := hide hL; have HKA := hide hK
  have HRA := hide (show ∀ W, Keeps NoB w W → Calls Tryz.prog 11 #[.agg #[.int .u8 kd, .bool ng, .slice la ln lc, .string tx, .int .i64 nm, .slice ia im ic, .slice ta tn tc]] W fun e w' => e = .returned (.bool false) ∧ Keeps NoB W w' from fun W hk => by
    obtain ⟨hl, hi, ht, e1, e2, e3, e4, e5, e6⟩ := limbs_of _ _ _ _ _ _ _ _ _ _ _ _ _ ha hoa
    have h := right_any kd nm ng la ia ta ln lc im ic tn tc tx _ W _ (hl.keep hk) hi ht
    rw [e1, e2, e3, e4, e5, e6, hra] at h
    rw [e1, e2, e3, e4, e5, e6]
    exact h)
  clear ha hb hL hK hra
  go_enter Tryz.func4, Tryz.ntmps4
  go_upto_region 1 with fail
  generalize (w.alloc (.cells #[.int .u8 kd, .bool ng, .slice la ln lc, .string tx, .int .i64 nm, .slice ia im ic, .slice ta tn tc] 26)).alloc (.cells #[.int .u8 kd', .bool ng', .slice la' ln' lc', .string tx', .int .i64 nm', .slice ia' im' ic', .slice ta' tn' tc'] 26) = w0 at *
  go_wp2_with
    first
    | (go_at_call 5
       refine (awake_any w0 (HL.out.keep HK0.out) (HKA.out.keep HK0.out)).mono ?_
       rintro e w1 ⟨rfl, hk1⟩
       have HK1 := hide (HK0.out.trans' hk1 (fun _ _ => id) (fun _ _ => id) : Keeps NoB w w1)
       have HA1 := hide (HA0.out.keep hk1 id); have HB1 := hide (HB0.out.keep hk1 id)
       obtain ⟨x0, x1, x2, x3, x4, x5, x6⟩ := Blk.c7 (show Blk w1 (w.heap.size) _ #[.int .u8 kd, .bool ng, .slice la ln lc, .string tx, .int .i64 nm, .slice ia im ic, .slice ta tn tc] from HA1.out)
       obtain ⟨y0, y1, y2, y3, y4, y5, y6⟩ := Blk.c7 (show Blk w1 (w.heap.size + 1) _ #[.int .u8 kd', .bool ng', .slice la' ln' lc', .string tx', .int .i64 nm', .slice ia' im' ic', .slice ta' tn' tc'] from HB1.out)
       have M1 := hide True.intro
       clear hk1)
    | (go_at_call 11
       have hm := M1
       clear hm M1
       refine (HRA.out w1 HK1.out).mono ?_
       rintro e w3 ⟨rfl, hk3⟩
       have HK3 := hide (HK1.out.trans' hk3 (fun _ _ => id) (fun _ _ => id) : Keeps NoB w w3)
       have HA3 := hide (HA1.out.keep hk3 id); have HB3 := hide (HB1.out.keep hk3 id)
       clear x0 x1 x2 x3 x4 x5 x6 y0 y1 y2 y3 y4 y5 y6
       obtain ⟨x0, x1, x2, x3, x4, x5, x6⟩ := Blk.c7 (show Blk w3 (w.heap.size) _ #[.int .u8 kd, .bool ng, .slice la ln lc, .string tx, .int .i64 nm, .slice ia im ic, .slice ta tn tc] from HA3.out)
       obtain ⟨y0, y1, y2, y3, y4, y5, y6⟩ := Blk.c7 (show Blk w3 (w.heap.size + 1) _ #[.int .u8 kd', .bool ng', .slice la' ln' lc', .string tx', .int .i64 nm', .slice ia' im' ic', .slice ta' tn' tc'] from HB3.out)
       have M2 := hide True.intro
       clear hk3)
    | fail
  go_ret
  exact ⟨rfl, HK3.out⟩
set_option maxRecDepth 100000 in
set_option maxHeartbeats 4000000 in
theorem whole_bad_b (a b : Tm) (hoa : okT a) (hob : okT b) (hra : rightB a.kind a.neg (a.limbs.map Int.toNat) a.text a.num a.items.length a.tail.length = true) (hrb : rightB b.kind b.neg (b.limbs.map Int.toNat) b.text b.num b.items.length b.tail.length = false) (w : World) (hL : LaidK w) (hK : KindsAt w) (kd : Int) (ng : Bool) (la : Option Addr) (ln lc : Nat) (tx : ByteArray) (nm : Int) (ia : Option Addr) (im ic : Nat) (ta : Option Addr) (tn tc : Nat) (kd' : Int) (ng' : Bool) (la' : Option Addr) (ln' lc' : Nat) (tx' : ByteArray) (nm' : Int) (ia' : Option Addr) (im' ic' : Nat) (ta' : Option Addr) (tn' tc' : Nat) (ha : TermIn w (fun _ => True) false [.int .u8 kd, .bool ng, .slice la ln lc, .string tx, .int .i64 nm, .slice ia im ic, .slice ta tn tc] a) (hb : TermIn w (fun _ => True) false [.int .u8 kd', .bool ng', .slice la' ln' lc', .string tx', .int .i64 nm', .slice ia' im' ic', .slice ta' tn' tc'] b) :
    Calls Tryz.prog 4 #[.agg #[.int .u8 kd, .bool ng, .slice la ln lc, .string tx, .int .i64 nm, .slice ia im ic, .slice ta tn tc], .agg #[.int .u8 kd', .bool ng', .slice la' ln' lc', .string tx', .int .i64 nm', .slice ia' im' ic', .slice ta' tn' tc']] w fun e w' => e = .returned (.bool true) ∧ Keeps NoB w w' := by
  have HK0 := hide (((Keeps.refl NoB w).alloc (.cells #[.int .u8 kd, .bool ng, .slice la ln lc, .string tx, .int .i64 nm, .slice ia im ic, .slice ta tn tc] 26)).alloc (.cells #[.int .u8 kd', .bool ng', .slice la' ln' lc', .string tx', .int .i64 nm', .slice ia' im' ic', .slice ta' tn' tc'] 26))
  have HA0 := hide (two_tblks w 26 26 #[.int .u8 kd, .bool ng, .slice la ln lc, .string tx, .int .i64 nm, .slice ia im ic, .slice ta tn tc] #[.int .u8 kd', .bool ng', .slice la' ln' lc', .string tx', .int .i64 nm', .slice ia' im' ic', .slice ta' tn' tc']).1; have HB0 := hide (two_tblks w 26 26 #[.int .u8 kd, .bool ng, .slice la ln lc, .string tx, .int .i64 nm, .slice ia im ic, .slice ta tn tc] #[.int .u8 kd', .bool ng', .slice la' ln' lc', .string tx', .int .i64 nm', .slice ia' im' ic', .slice ta' tn' tc']).2
  have HTA := hide ha; have HTB := hide hb; have HL := hide hL; have HKA := hide hK
  have HRA := hide (show ∀ W, Keeps NoB w W → Calls Tryz.prog 11 #[.agg #[.int .u8 kd, .bool ng, .slice la ln lc, .string tx, .int .i64 nm, .slice ia im ic, .slice ta tn tc]] W fun e w' => e = .returned (.bool true) ∧ Keeps NoB W w' from fun W hk => by
    obtain ⟨hl, hi, ht, e1, e2, e3, e4, e5, e6⟩ := limbs_of _ _ _ _ _ _ _ _ _ _ _ _ _ ha hoa
    have h := right_any kd nm ng la ia ta ln lc im ic tn tc tx _ W _ (hl.keep hk) hi ht
    rw [e1, e2, e3, e4, e5, e6, hra] at h
    rw [e1, e2, e3, e4, e5, e6]
    exact h)
  have HRB := hide (show ∀ W, Keeps NoB w W → Calls Tryz.prog 11 #[.agg #[.int .u8 kd', .bool ng', .slice la' ln' lc', .string tx', .int .i64 nm', .slice ia' im' ic', .slice ta' tn' tc']] W fun e w' => e = .returned (.bool false) ∧ Keeps NoB W w' from fun W hk => by
    obtain ⟨hl, hi, ht, e1, e2, e3, e4, e5, e6⟩ := limbs_of _ _ _ _ _ _ _ _ _ _ _ _ _ hb hob
    have h := right_any kd' nm' ng' la' ia' ta' ln' lc' im' ic' tn' tc' tx' _ W _ (hl.keep hk) hi ht
    rw [e1, e2, e3, e4, e5, e6, hrb] at h
    rw [e1, e2, e3, e4, e5, e6]
    exact h)
  clear ha hb hL hK hra hrb
  go_enter Tryz.func4, Tryz.ntmps4
  go_upto_region 1 with fail
  generalize (w.alloc (.cells #[.int .u8 kd, .bool ng, .slice la ln lc, .string tx, .int .i64 nm, .slice ia im ic, .slice ta tn tc] 26)).alloc (.cells #[.int .u8 kd', .bool ng', .slice la' ln' lc', .string tx', .int .i64 nm', .slice ia' im' ic', .slice ta' tn' tc'] 26) = w0 at *
  go_wp2_with
    first
    | (go_at_call 5
       refine (awake_any w0 (HL.out.keep HK0.out) (HKA.out.keep HK0.out)).mono ?_
       rintro e w1 ⟨rfl, hk1⟩
       have HK1 := hide (HK0.out.trans' hk1 (fun _ _ => id) (fun _ _ => id) : Keeps NoB w w1)
       have HA1 := hide (HA0.out.keep hk1 id); have HB1 := hide (HB0.out.keep hk1 id)
       obtain ⟨x0, x1, x2, x3, x4, x5, x6⟩ := Blk.c7 (show Blk w1 (w.heap.size) _ #[.int .u8 kd, .bool ng, .slice la ln lc, .string tx, .int .i64 nm, .slice ia im ic, .slice ta tn tc] from HA1.out)
       obtain ⟨y0, y1, y2, y3, y4, y5, y6⟩ := Blk.c7 (show Blk w1 (w.heap.size + 1) _ #[.int .u8 kd', .bool ng', .slice la' ln' lc', .string tx', .int .i64 nm', .slice ia' im' ic', .slice ta' tn' tc'] from HB1.out)
       have M1 := hide True.intro
       clear hk1)
    | (go_at_call 11
       have hm := M1
       clear hm M1
       refine (HRA.out w1 HK1.out).mono ?_
       rintro e w3 ⟨rfl, hk3⟩
       have HK3 := hide (HK1.out.trans' hk3 (fun _ _ => id) (fun _ _ => id) : Keeps NoB w w3)
       have HA3 := hide (HA1.out.keep hk3 id); have HB3 := hide (HB1.out.keep hk3 id)
       clear x0 x1 x2 x3 x4 x5 x6 y0 y1 y2 y3 y4 y5 y6
       obtain ⟨x0, x1, x2, x3, x4, x5, x6⟩ := Blk.c7 (show Blk w3 (w.heap.size) _ #[.int .u8 kd, .bool ng, .slice la ln lc, .string tx, .int .i64 nm, .slice ia im ic, .slice ta tn tc] from HA3.out)
       obtain ⟨y0, y1, y2, y3, y4, y5, y6⟩ := Blk.c7 (show Blk w3 (w.heap.size + 1) _ #[.int .u8 kd', .bool ng', .slice la' ln' lc', .string tx', .int .i64 nm', .slice ia' im' ic', .slice ta' tn' tc'] from HB3.out)
       have M2 := hide True.intro
       clear hk3)
    | (go_at_call 11
       have hm := M2
       clear hm M2
       refine (HRB.out w3 HK3.out).mono ?_
       rintro e w4 ⟨rfl, hk4⟩
       have HK4 := hide (HK3.out.trans' hk4 (fun _ _ => id) (fun _ _ => id) : Keeps NoB w w4)
       have HA4 := hide (HA3.out.keep hk4 id); have HB4 := hide (HB3.out.keep hk4 id)
       clear x0 x1 x2 x3 x4 x5 x6 y0 y1 y2 y3 y4 y5 y6
       obtain ⟨x0, x1, x2, x3, x4, x5, x6⟩ := Blk.c7 (show Blk w4 (w.heap.size) _ #[.int .u8 kd, .bool ng, .slice la ln lc, .string tx, .int .i64 nm, .slice ia im ic, .slice ta tn tc] from HA4.out)
       obtain ⟨y0, y1, y2, y3, y4, y5, y6⟩ := Blk.c7 (show Blk w4 (w.heap.size + 1) _ #[.int .u8 kd', .bool ng', .slice la' ln' lc', .string tx', .int .i64 nm', .slice ia' im' ic', .slice ta' tn' tc'] from HB4.out)
       clear hk4)
    | fail
  go_ret
  exact ⟨rfl, HK4.out⟩
end Go.Proofs.YthbbalkhmofndaaGreatDoor
namespace Go.Proofs.YthbbalkhmofndaaGreatDoor
open Go.RowKit

set_option maxRecDepth 100000 in
set_option maxHeartbeats 4000000 in
theorem whole_zero (a b : Tm) (hoa : okT a) (hob : okT b) (hra : rightB a.kind a.neg (a.limbs.map Int.toNat) a.text a.num a.items.length a.tail.length = true) (hrb : rightB b.kind b.neg (b.limbs.map Int.toNat) b.text b.num b.items.length b.tail.length = true) (hy : intV b = 0) (w : World) (hL : LaidK w) (hK : KindsAt w) (kd : Int) (ng : Bool) (la : Option Addr) (ln lc : Nat) (tx : ByteArray) (nm : Int) (ia : Option Addr) (im ic : Nat) (ta : Option Addr) (tn tc : Nat) (kd' : Int) (ng' : Bool) (la' : Option Addr) (ln' lc' : Nat) (tx' : ByteArray) (nm' : Int) (ia' : Option Addr) (im' ic' : Nat) (ta' : Option Addr) (tn' tc' : Nat) (ha : TermIn w (fun _ => True) false [.int .u8 kd, .bool ng, .slice la ln lc, .string tx, .int .i64 nm, .slice ia im ic, .slice ta tn tc] a) (hb : TermIn w (fun _ => True) false [.int .u8 kd', .bool ng', .slice la' ln' lc', .string tx', .int .i64 nm', .slice ia' im' ic', .slice ta' tn' tc'] b) :
    Calls Tryz.prog 4 #[.agg #[.int .u8 kd, .bool ng, .slice la ln lc, .string tx, .int .i64 nm, .slice ia im ic, .slice ta tn tc], .agg #[.int .u8 kd', .bool ng', .slice la' ln' lc', .string tx', .int .i64 nm', .slice ia' im' ic', .slice ta' tn' tc']] w fun e w' => e = .returned (.bool true) ∧ Keeps NoB w w' := by
  have hgk := right_of hoa hra; have hgl := right_of hob hrb
  have HGA := hide hgk.1; have HGB := hide hgl.1; have HK1A := hide hgk.2; have HK1B := hide hgl.2
  have hka1 : kd = 1 := (kind_cells ha).trans hgk.2
  have hkb1 : kd' = 1 := (kind_cells hb).trans hgl.2
  obtain ⟨e1, e2, e3, e4, hia⟩ := int_IA _ _ _ _ _ _ _ _ _ _ _ _ _ ha hgk.1 hka1
  obtain ⟨f1, f2, f3, f4, hib⟩ := int_IA _ _ _ _ _ _ _ _ _ _ _ _ _ hb hgl.1 hkb1
  clear e1 e2 e3 e4 f1 f2 f3 f4
  have hln := hib.limbs.len
  obtain rfl : ln' = 0 := by
    rw [hy] at hln
    simpa [dig_zero] using hln.symm
  have HY := hide hy
  clear hgk hgl hka1 hkb1 hia hib hln hy
  have HK0 := hide (((Keeps.refl NoB w).alloc (.cells #[.int .u8 kd, .bool ng, .slice la ln lc, .string tx, .int .i64 nm, .slice ia im ic, .slice ta tn tc] 26)).alloc (.cells #[.int .u8 kd', .bool ng', .slice la' 0 lc', .string tx', .int .i64 nm', .slice ia' im' ic', .slice ta' tn' tc'] 26))
  have HA0 := hide (two_tblks w 26 26 #[.int .u8 kd, .bool ng, .slice la ln lc, .string tx, .int .i64 nm, .slice ia im ic, .slice ta tn tc] #[.int .u8 kd', .bool ng', .slice la' 0 lc', .string tx', .int .i64 nm', .slice ia' im' ic', .slice ta' tn' tc']).1; have HB0 := hide (two_tblks w 26 26 #[.int .u8 kd, .bool ng, .slice la ln lc, .string tx, .int .i64 nm, .slice ia im ic, .slice ta tn tc] #[.int .u8 kd', .bool ng', .slice la' 0 lc', .string tx', .int .i64 nm', .slice ia' im' ic', .slice ta' tn' tc']).2
  have HTA := hide ha; have HTB := hide hb; have HL := hide hL; have HKA := hide hK
  have HRA := hide (show ∀ W, Keeps NoB w W → Calls Tryz.prog 11 #[.agg #[.int .u8 kd, .bool ng, .slice la ln lc, .string tx, .int .i64 nm, .slice ia im ic, .slice ta tn tc]] W fun e w' => e = .returned (.bool true) ∧ Keeps NoB W w' from fun W hk => by
    obtain ⟨hl, hi, ht, e1, e2, e3, e4, e5, e6⟩ := limbs_of _ _ _ _ _ _ _ _ _ _ _ _ _ ha hoa
    have h := right_any kd nm ng la ia ta ln lc im ic tn tc tx _ W _ (hl.keep hk) hi ht
    rw [e1, e2, e3, e4, e5, e6, hra] at h
    rw [e1, e2, e3, e4, e5, e6]
    exact h)
  have HRB := hide (show ∀ W, Keeps NoB w W → Calls Tryz.prog 11 #[.agg #[.int .u8 kd', .bool ng', .slice la' 0 lc', .string tx', .int .i64 nm', .slice ia' im' ic', .slice ta' tn' tc']] W fun e w' => e = .returned (.bool true) ∧ Keeps NoB W w' from fun W hk => by
    obtain ⟨hl, hi, ht, e1, e2, e3, e4, e5, e6⟩ := limbs_of _ _ _ _ _ _ _ _ _ _ _ _ _ hb hob
    have h := right_any kd' nm' ng' la' ia' ta' 0 lc' im' ic' tn' tc' tx' _ W _ (hl.keep hk) hi ht
    rw [e1, e2, e3, e4, e5, e6, hrb] at h
    rw [e1, e2, e3, e4, e5, e6]
    exact h)
  clear ha hb hL hK hra hrb
  go_enter Tryz.func4, Tryz.ntmps4
  go_upto_region 1 with fail
  generalize (w.alloc (.cells #[.int .u8 kd, .bool ng, .slice la ln lc, .string tx, .int .i64 nm, .slice ia im ic, .slice ta tn tc] 26)).alloc (.cells #[.int .u8 kd', .bool ng', .slice la' 0 lc', .string tx', .int .i64 nm', .slice ia' im' ic', .slice ta' tn' tc'] 26) = w0 at *
  go_upto_region 5 with
    first
    | (go_at_call 5
       refine (awake_any w0 (HL.out.keep HK0.out) (HKA.out.keep HK0.out)).mono ?_
       rintro e w1 ⟨rfl, hk1⟩
       have HK1 := hide (HK0.out.trans' hk1 (fun _ _ => id) (fun _ _ => id) : Keeps NoB w w1)
       have HA1 := hide (HA0.out.keep hk1 id); have HB1 := hide (HB0.out.keep hk1 id)
       obtain ⟨x0, x1, x2, x3, x4, x5, x6⟩ := Blk.c7 (show Blk w1 (w.heap.size) _ #[.int .u8 kd, .bool ng, .slice la ln lc, .string tx, .int .i64 nm, .slice ia im ic, .slice ta tn tc] from HA1.out)
       obtain ⟨y0, y1, y2, y3, y4, y5, y6⟩ := Blk.c7 (show Blk w1 (w.heap.size + 1) _ #[.int .u8 kd', .bool ng', .slice la' 0 lc', .string tx', .int .i64 nm', .slice ia' im' ic', .slice ta' tn' tc'] from HB1.out)
       have M1 := hide True.intro
       clear hk1)
    | (go_at_call 11
       have hm := M1
       clear hm M1
       refine (HRA.out w1 HK1.out).mono ?_
       rintro e w3 ⟨rfl, hk3⟩
       have HK3 := hide (HK1.out.trans' hk3 (fun _ _ => id) (fun _ _ => id) : Keeps NoB w w3)
       have HA3 := hide (HA1.out.keep hk3 id); have HB3 := hide (HB1.out.keep hk3 id)
       clear x0 x1 x2 x3 x4 x5 x6 y0 y1 y2 y3 y4 y5 y6
       obtain ⟨x0, x1, x2, x3, x4, x5, x6⟩ := Blk.c7 (show Blk w3 (w.heap.size) _ #[.int .u8 kd, .bool ng, .slice la ln lc, .string tx, .int .i64 nm, .slice ia im ic, .slice ta tn tc] from HA3.out)
       obtain ⟨y0, y1, y2, y3, y4, y5, y6⟩ := Blk.c7 (show Blk w3 (w.heap.size + 1) _ #[.int .u8 kd', .bool ng', .slice la' 0 lc', .string tx', .int .i64 nm', .slice ia' im' ic', .slice ta' tn' tc'] from HB3.out)
       have M2 := hide True.intro
       clear hk3)
    | (go_at_call 11
       have hm := M2
       clear hm M2
       refine (HRB.out w3 HK3.out).mono ?_
       rintro e w4 ⟨rfl, hk4⟩
       have HK4 := hide (HK3.out.trans' hk4 (fun _ _ => id) (fun _ _ => id) : Keeps NoB w w4)
       have HA4 := hide (HA3.out.keep hk4 id); have HB4 := hide (HB3.out.keep hk4 id)
       clear x0 x1 x2 x3 x4 x5 x6 y0 y1 y2 y3 y4 y5 y6
       obtain ⟨x0, x1, x2, x3, x4, x5, x6⟩ := Blk.c7 (show Blk w4 (w.heap.size) _ #[.int .u8 kd, .bool ng, .slice la ln lc, .string tx, .int .i64 nm, .slice ia im ic, .slice ta tn tc] from HA4.out)
       obtain ⟨y0, y1, y2, y3, y4, y5, y6⟩ := Blk.c7 (show Blk w4 (w.heap.size + 1) _ #[.int .u8 kd', .bool ng', .slice la' 0 lc', .string tx', .int .i64 nm', .slice ia' im' ic', .slice ta' tn' tc'] from HB4.out)
       clear hk4)
    | fail
  have HKb := HK4; have HAb := HA4; have HBb := HB4
  have HTAb := hide (TermIn.keep HK4.out (fun _ _ => id) _ _ HTA.out); have HTBb := hide (TermIn.keep HK4.out (fun _ _ => id) _ _ HTB.out)
  have HLb := hide (HL.out.keep HK4.out)
  have HKc := hide (Keeps.refl NoB w4)
  clear HK0 HK1 HK3 HK4 HA0 HB0 HA1 HA3 HA4 HB1 HB3 HB4 HTA HTB HL HKA HRA HRB x0 x1 x2 x3 x4 x5 x6 y0 y1 y2 y3 y4 y5 y6
  obtain ⟨af0, af1, af2, af3, af4, af5, af6⟩ := Blk.c7 (show Blk w4 (w.heap.size) _ #[.int .u8 kd, .bool ng, .slice la ln lc, .string tx, .int .i64 nm, .slice ia im ic, .slice ta tn tc] from HAb.out)
  obtain ⟨bf0, bf1, bf2, bf3, bf4, bf5, bf6⟩ := Blk.c7 (show Blk w4 (w.heap.size + 1) _ #[.int .u8 kd', .bool ng', .slice la' 0 lc', .string tx', .int .i64 nm', .slice ia' im' ic', .slice ta' tn' tc'] from HBb.out)
  go_upto_region 6 with
    first
    | (go_at_call 9
       refine (law_div_zero _ _ HGA.out HGB.out HK1A.out HK1B.out HY.out _ (HLb.out.keep (HKc.out.alloc (.cells #[.int .u8 kd, .bool ng, .slice la ln lc, .string tx, .int .i64 nm, .slice ia im ic, .slice ta tn tc, .int .u8 kd', .bool ng', .slice la' 0 lc', .string tx', .int .i64 nm', .slice ia' im' ic', .slice ta' tn' tc'] 26))) _ _ _ _ _ _ _ _ _ _ _ _ _ _ _ _ _ _ _ _ _ _ _ _ _ _ _ _ (Blk.new _ 26 #[.int .u8 kd, .bool ng, .slice la ln lc, .string tx, .int .i64 nm, .slice ia im ic, .slice ta tn tc, .int .u8 kd', .bool ng', .slice la' 0 lc', .string tx', .int .i64 nm', .slice ia' im' ic', .slice ta' tn' tc']) (TermIn.keep (HKc.out.alloc (.cells #[.int .u8 kd, .bool ng, .slice la ln lc, .string tx, .int .i64 nm, .slice ia im ic, .slice ta tn tc, .int .u8 kd', .bool ng', .slice la' 0 lc', .string tx', .int .i64 nm', .slice ia' im' ic', .slice ta' tn' tc'] 26)) (fun _ _ => id) _ _ HTAb.out) (TermIn.keep (HKc.out.alloc (.cells #[.int .u8 kd, .bool ng, .slice la ln lc, .string tx, .int .i64 nm, .slice ia im ic, .slice ta tn tc, .int .u8 kd', .bool ng', .slice la' 0 lc', .string tx', .int .i64 nm', .slice ia' im' ic', .slice ta' tn' tc'] 26)) (fun _ _ => id) _ _ HTBb.out)).mono ?_
       rintro e wn ⟨kvq, gvq, lvq, lvnq, lvcq, svq, mvq, ivq, ivnq, ivcq, tvq, tvnq, tvcq, rfl, hkn⟩
       have HTN := hide True.intro
       have hkm := (HKc.out.alloc (.cells #[.int .u8 kd, .bool ng, .slice la ln lc, .string tx, .int .i64 nm, .slice ia im ic, .slice ta tn tc, .int .u8 kd', .bool ng', .slice la' 0 lc', .string tx', .int .i64 nm', .slice ia' im' ic', .slice ta' tn' tc'] 26)).trans' hkn (fun _ _ => id) (fun _ _ => id)
       clear HKc
       have HKc := hide hkm
       clear hkm hkn
       clear af0 af1 af2 af3 af4 af5 af6 bf0 bf1 bf2 bf3 bf4 bf5 bf6)
    | fail
  have hkm := HKc.out.alloc (.cells #[.int .u8 kvq, .bool gvq, .slice lvq lvnq lvcq, .string svq, .int .i64 mvq, .slice ivq ivnq ivcq, .slice tvq tvnq tvcq] 26)
  clear HKc HTN
  have HKc := hide hkm
  clear hkm
  generalize wn.alloc (.cells #[.int .u8 kvq, .bool gvq, .slice lvq lvnq lvcq, .string svq, .int .i64 mvq, .slice ivq ivnq ivcq, .slice tvq tvnq tvcq] 26) = wq at *
  have hA := HAb.out.keep HKc.out id; have hB := HBb.out.keep HKc.out id; have hTA := TermIn.keep HKc.out (fun _ _ => id) _ _ HTAb.out; have hTB := TermIn.keep HKc.out (fun _ _ => id) _ _ HTBb.out; have hLL := HLb.out.keep HKc.out; have hKK := HKb.out.trans' HKc.out (fun _ _ => id) (fun _ _ => id)
  clear HAb HBb HTAb HTBb HLb HKb HKc
  have HAb := hide hA; have HBb := hide hB; have HTAb := hide hTA; have HTBb := hide hTB; have HLb := hide hLL; have HKb := hide hKK
  clear hA hB hTA hTB hLL hKK
  have HKc := hide (Keeps.refl NoB wq)
  obtain ⟨af0, af1, af2, af3, af4, af5, af6⟩ := Blk.c7 (show Blk wq (w.heap.size) _ #[.int .u8 kd, .bool ng, .slice la ln lc, .string tx, .int .i64 nm, .slice ia im ic, .slice ta tn tc] from HAb.out)
  obtain ⟨bf0, bf1, bf2, bf3, bf4, bf5, bf6⟩ := Blk.c7 (show Blk wq (w.heap.size + 1) _ #[.int .u8 kd', .bool ng', .slice la' 0 lc', .string tx', .int .i64 nm', .slice ia' im' ic', .slice ta' tn' tc'] from HBb.out)
  go_upto_region 7 with
    first
    | (go_at_call 9
       refine (law_rem_zero _ _ HGA.out HGB.out HK1A.out HK1B.out HY.out _ (HLb.out.keep (HKc.out.alloc (.cells #[.int .u8 kd, .bool ng, .slice la ln lc, .string tx, .int .i64 nm, .slice ia im ic, .slice ta tn tc, .int .u8 kd', .bool ng', .slice la' 0 lc', .string tx', .int .i64 nm', .slice ia' im' ic', .slice ta' tn' tc'] 26))) _ _ _ _ _ _ _ _ _ _ _ _ _ _ _ _ _ _ _ _ _ _ _ _ _ _ _ _ (Blk.new _ 26 #[.int .u8 kd, .bool ng, .slice la ln lc, .string tx, .int .i64 nm, .slice ia im ic, .slice ta tn tc, .int .u8 kd', .bool ng', .slice la' 0 lc', .string tx', .int .i64 nm', .slice ia' im' ic', .slice ta' tn' tc']) (TermIn.keep (HKc.out.alloc (.cells #[.int .u8 kd, .bool ng, .slice la ln lc, .string tx, .int .i64 nm, .slice ia im ic, .slice ta tn tc, .int .u8 kd', .bool ng', .slice la' 0 lc', .string tx', .int .i64 nm', .slice ia' im' ic', .slice ta' tn' tc'] 26)) (fun _ _ => id) _ _ HTAb.out) (TermIn.keep (HKc.out.alloc (.cells #[.int .u8 kd, .bool ng, .slice la ln lc, .string tx, .int .i64 nm, .slice ia im ic, .slice ta tn tc, .int .u8 kd', .bool ng', .slice la' 0 lc', .string tx', .int .i64 nm', .slice ia' im' ic', .slice ta' tn' tc'] 26)) (fun _ _ => id) _ _ HTBb.out)).mono ?_
       rintro e wn ⟨kvr, gvr, lvr, lvnr, lvcr, svr, mvr, ivr, ivnr, ivcr, tvr, tvnr, tvcr, rfl, hkn⟩
       have HTN := hide True.intro
       have hkm := (HKc.out.alloc (.cells #[.int .u8 kd, .bool ng, .slice la ln lc, .string tx, .int .i64 nm, .slice ia im ic, .slice ta tn tc, .int .u8 kd', .bool ng', .slice la' 0 lc', .string tx', .int .i64 nm', .slice ia' im' ic', .slice ta' tn' tc'] 26)).trans' hkn (fun _ _ => id) (fun _ _ => id)
       clear HKc
       have HKc := hide hkm
       clear hkm hkn
       clear af0 af1 af2 af3 af4 af5 af6 bf0 bf1 bf2 bf3 bf4 bf5 bf6)
    | fail
  have hkm := HKc.out.alloc (.cells #[.int .u8 kvr, .bool gvr, .slice lvr lvnr lvcr, .string svr, .int .i64 mvr, .slice ivr ivnr ivcr, .slice tvr tvnr tvcr] 26)
  clear HKc HTN
  have HKc := hide hkm
  clear hkm
  generalize wn.alloc (.cells #[.int .u8 kvr, .bool gvr, .slice lvr lvnr lvcr, .string svr, .int .i64 mvr, .slice ivr ivnr ivcr, .slice tvr tvnr tvcr] 26) = wr at *
  have hA := HAb.out.keep HKc.out id; have hB := HBb.out.keep HKc.out id; have hTA := TermIn.keep HKc.out (fun _ _ => id) _ _ HTAb.out; have hTB := TermIn.keep HKc.out (fun _ _ => id) _ _ HTBb.out; have hLL := HLb.out.keep HKc.out; have hKK := HKb.out.trans' HKc.out (fun _ _ => id) (fun _ _ => id)
  clear HAb HBb HTAb HTBb HLb HKb HKc
  have HAb := hide hA; have HBb := hide hB; have HTAb := hide hTA; have HTBb := hide hTB; have HLb := hide hLL; have HKb := hide hKK
  clear hA hB hTA hTB hLL hKK
  have HKc := hide (Keeps.refl NoB wr)
  obtain ⟨af0, af1, af2, af3, af4, af5, af6⟩ := Blk.c7 (show Blk wr (w.heap.size) _ #[.int .u8 kd, .bool ng, .slice la ln lc, .string tx, .int .i64 nm, .slice ia im ic, .slice ta tn tc] from HAb.out)
  obtain ⟨bf0, bf1, bf2, bf3, bf4, bf5, bf6⟩ := Blk.c7 (show Blk wr (w.heap.size + 1) _ #[.int .u8 kd', .bool ng', .slice la' 0 lc', .string tx', .int .i64 nm', .slice ia' im' ic', .slice ta' tn' tc'] from HBb.out)
  go_wp2
  go_ret
  exact ⟨rfl, HKb.out⟩
end Go.Proofs.YthbbalkhmofndaaGreatDoor
namespace Go.Proofs.YthbbalkhmofndaaGreatDoor
open Go.RowKit

set_option maxRecDepth 100000 in
set_option maxHeartbeats 4000000 in
theorem whole_more (a b : Tm) (hoa : okT a) (hob : okT b) (hra : rightB a.kind a.neg (a.limbs.map Int.toNat) a.text a.num a.items.length a.tail.length = true) (hrb : rightB b.kind b.neg (b.limbs.map Int.toNat) b.text b.num b.items.length b.tail.length = true) (hy : intV b ≠ 0) (w : World) (hL : LaidK w) (hK : KindsAt w) (kd : Int) (ng : Bool) (la : Option Addr) (ln lc : Nat) (tx : ByteArray) (nm : Int) (ia : Option Addr) (im ic : Nat) (ta : Option Addr) (tn tc : Nat) (kd' : Int) (ng' : Bool) (la' : Option Addr) (ln' lc' : Nat) (tx' : ByteArray) (nm' : Int) (ia' : Option Addr) (im' ic' : Nat) (ta' : Option Addr) (tn' tc' : Nat) (ha : TermIn w (fun _ => True) false [.int .u8 kd, .bool ng, .slice la ln lc, .string tx, .int .i64 nm, .slice ia im ic, .slice ta tn tc] a) (hb : TermIn w (fun _ => True) false [.int .u8 kd', .bool ng', .slice la' ln' lc', .string tx', .int .i64 nm', .slice ia' im' ic', .slice ta' tn' tc'] b) :
    Calls Tryz.prog 4 #[.agg #[.int .u8 kd, .bool ng, .slice la ln lc, .string tx, .int .i64 nm, .slice ia im ic, .slice ta tn tc], .agg #[.int .u8 kd', .bool ng', .slice la' ln' lc', .string tx', .int .i64 nm', .slice ia' im' ic', .slice ta' tn' tc']] w fun e w' => e = .returned (.bool true) ∧ Keeps NoB w w' := by
  have hgk := right_of hoa hra; have hgl := right_of hob hrb
  have HGA := hide hgk.1; have HGB := hide hgl.1; have HK1A := hide hgk.2; have HK1B := hide hgl.2
  have hka1 : kd = 1 := (kind_cells ha).trans hgk.2
  have hkb1 : kd' = 1 := (kind_cells hb).trans hgl.2
  obtain ⟨e1, e2, e3, e4, hia⟩ := int_IA _ _ _ _ _ _ _ _ _ _ _ _ _ ha hgk.1 hka1
  obtain ⟨f1, f2, f3, f4, hib⟩ := int_IA _ _ _ _ _ _ _ _ _ _ _ _ _ hb hgl.1 hkb1
  clear e1 e2 e3 e4 f1 f2 f3 f4
  have hln := hib.limbs.len
  have hln0 : 0 < ln' := by
    have h0 : 0 < (dig (intV b).natAbs).length := dig_pos_len.2 (by omega)
    omega
  have hlb : ((ln' : Int) == 0) = false := by simp; omega
  have HROOM := hide hia.room
  have HY := hide hy
  clear hgk hgl hka1 hkb1 hia hib hln hy hln0
  have HK0 := hide (((Keeps.refl NoB w).alloc (.cells #[.int .u8 kd, .bool ng, .slice la ln lc, .string tx, .int .i64 nm, .slice ia im ic, .slice ta tn tc] 26)).alloc (.cells #[.int .u8 kd', .bool ng', .slice la' ln' lc', .string tx', .int .i64 nm', .slice ia' im' ic', .slice ta' tn' tc'] 26))
  have HA0 := hide (two_tblks w 26 26 #[.int .u8 kd, .bool ng, .slice la ln lc, .string tx, .int .i64 nm, .slice ia im ic, .slice ta tn tc] #[.int .u8 kd', .bool ng', .slice la' ln' lc', .string tx', .int .i64 nm', .slice ia' im' ic', .slice ta' tn' tc']).1; have HB0 := hide (two_tblks w 26 26 #[.int .u8 kd, .bool ng, .slice la ln lc, .string tx, .int .i64 nm, .slice ia im ic, .slice ta tn tc] #[.int .u8 kd', .bool ng', .slice la' ln' lc', .string tx', .int .i64 nm', .slice ia' im' ic', .slice ta' tn' tc']).2
  have HTA := hide ha; have HTB := hide hb; have HL := hide hL; have HKA := hide hK
  have HRA := hide (show ∀ W, Keeps NoB w W → Calls Tryz.prog 11 #[.agg #[.int .u8 kd, .bool ng, .slice la ln lc, .string tx, .int .i64 nm, .slice ia im ic, .slice ta tn tc]] W fun e w' => e = .returned (.bool true) ∧ Keeps NoB W w' from fun W hk => by
    obtain ⟨hl, hi, ht, e1, e2, e3, e4, e5, e6⟩ := limbs_of _ _ _ _ _ _ _ _ _ _ _ _ _ ha hoa
    have h := right_any kd nm ng la ia ta ln lc im ic tn tc tx _ W _ (hl.keep hk) hi ht
    rw [e1, e2, e3, e4, e5, e6, hra] at h
    rw [e1, e2, e3, e4, e5, e6]
    exact h)
  have HRB := hide (show ∀ W, Keeps NoB w W → Calls Tryz.prog 11 #[.agg #[.int .u8 kd', .bool ng', .slice la' ln' lc', .string tx', .int .i64 nm', .slice ia' im' ic', .slice ta' tn' tc']] W fun e w' => e = .returned (.bool true) ∧ Keeps NoB W w' from fun W hk => by
    obtain ⟨hl, hi, ht, e1, e2, e3, e4, e5, e6⟩ := limbs_of _ _ _ _ _ _ _ _ _ _ _ _ _ hb hob
    have h := right_any kd' nm' ng' la' ia' ta' ln' lc' im' ic' tn' tc' tx' _ W _ (hl.keep hk) hi ht
    rw [e1, e2, e3, e4, e5, e6, hrb] at h
    rw [e1, e2, e3, e4, e5, e6]
    exact h)
  clear ha hb hL hK hra hrb
  go_enter Tryz.func4, Tryz.ntmps4
  go_upto_region 1 with fail
  generalize (w.alloc (.cells #[.int .u8 kd, .bool ng, .slice la ln lc, .string tx, .int .i64 nm, .slice ia im ic, .slice ta tn tc] 26)).alloc (.cells #[.int .u8 kd', .bool ng', .slice la' ln' lc', .string tx', .int .i64 nm', .slice ia' im' ic', .slice ta' tn' tc'] 26) = w0 at *
  go_upto_region 5 with
    first
    | (go_at_call 5
       refine (awake_any w0 (HL.out.keep HK0.out) (HKA.out.keep HK0.out)).mono ?_
       rintro e w1 ⟨rfl, hk1⟩
       have HK1 := hide (HK0.out.trans' hk1 (fun _ _ => id) (fun _ _ => id) : Keeps NoB w w1)
       have HA1 := hide (HA0.out.keep hk1 id); have HB1 := hide (HB0.out.keep hk1 id)
       obtain ⟨x0, x1, x2, x3, x4, x5, x6⟩ := Blk.c7 (show Blk w1 (w.heap.size) _ #[.int .u8 kd, .bool ng, .slice la ln lc, .string tx, .int .i64 nm, .slice ia im ic, .slice ta tn tc] from HA1.out)
       obtain ⟨y0, y1, y2, y3, y4, y5, y6⟩ := Blk.c7 (show Blk w1 (w.heap.size + 1) _ #[.int .u8 kd', .bool ng', .slice la' ln' lc', .string tx', .int .i64 nm', .slice ia' im' ic', .slice ta' tn' tc'] from HB1.out)
       have M1 := hide True.intro
       clear hk1)
    | (go_at_call 11
       have hm := M1
       clear hm M1
       refine (HRA.out w1 HK1.out).mono ?_
       rintro e w3 ⟨rfl, hk3⟩
       have HK3 := hide (HK1.out.trans' hk3 (fun _ _ => id) (fun _ _ => id) : Keeps NoB w w3)
       have HA3 := hide (HA1.out.keep hk3 id); have HB3 := hide (HB1.out.keep hk3 id)
       clear x0 x1 x2 x3 x4 x5 x6 y0 y1 y2 y3 y4 y5 y6
       obtain ⟨x0, x1, x2, x3, x4, x5, x6⟩ := Blk.c7 (show Blk w3 (w.heap.size) _ #[.int .u8 kd, .bool ng, .slice la ln lc, .string tx, .int .i64 nm, .slice ia im ic, .slice ta tn tc] from HA3.out)
       obtain ⟨y0, y1, y2, y3, y4, y5, y6⟩ := Blk.c7 (show Blk w3 (w.heap.size + 1) _ #[.int .u8 kd', .bool ng', .slice la' ln' lc', .string tx', .int .i64 nm', .slice ia' im' ic', .slice ta' tn' tc'] from HB3.out)
       have M2 := hide True.intro
       clear hk3)
    | (go_at_call 11
       have hm := M2
       clear hm M2
       refine (HRB.out w3 HK3.out).mono ?_
       rintro e w4 ⟨rfl, hk4⟩
       have HK4 := hide (HK3.out.trans' hk4 (fun _ _ => id) (fun _ _ => id) : Keeps NoB w w4)
       have HA4 := hide (HA3.out.keep hk4 id); have HB4 := hide (HB3.out.keep hk4 id)
       clear x0 x1 x2 x3 x4 x5 x6 y0 y1 y2 y3 y4 y5 y6
       obtain ⟨x0, x1, x2, x3, x4, x5, x6⟩ := Blk.c7 (show Blk w4 (w.heap.size) _ #[.int .u8 kd, .bool ng, .slice la ln lc, .string tx, .int .i64 nm, .slice ia im ic, .slice ta tn tc] from HA4.out)
       obtain ⟨y0, y1, y2, y3, y4, y5, y6⟩ := Blk.c7 (show Blk w4 (w.heap.size + 1) _ #[.int .u8 kd', .bool ng', .slice la' ln' lc', .string tx', .int .i64 nm', .slice ia' im' ic', .slice ta' tn' tc'] from HB4.out)
       clear hk4)
    | fail
  have hqb : ((intV a).tdiv (intV b)) * intV b + ((intV a).tmod (intV b)) = intV a := by rw [Int.mul_comm]; exact Int.mul_tdiv_add_tmod _ _
  have HQB := hide hqb
  have HGQ := hide (intTm_good (Nat.lt_of_le_of_lt (quo_abs (intV a) (intV b)) HROOM.out)); have HGR := hide (intTm_good (Nat.lt_of_le_of_lt (rem_abs (intV a) (intV b)) HROOM.out))
  have hpr : (((intV a).tdiv (intV b)) * intV b).natAbs < Big := by
    refine Nat.lt_of_le_of_lt ?_ HROOM.out
    rw [Int.natAbs_mul, Int.natAbs_tdiv]
    exact Nat.div_mul_le_self _ _
  have HPR := hide hpr; have HGP := hide (intTm_good hpr)
  have HSA := hide (same_int a HGA.out HK1A.out HROOM.out)
  have HHS := hide (intTm_good HROOM.out)
  clear hqb hpr
  have HKb := HK4; have HAb := HA4; have HBb := HB4
  have HTAb := hide (TermIn.keep HK4.out (fun _ _ => id) _ _ HTA.out); have HTBb := hide (TermIn.keep HK4.out (fun _ _ => id) _ _ HTB.out)
  have HLb := hide (HL.out.keep HK4.out)
  have HKc := hide (Keeps.refl NoB w4)
  clear HK0 HK1 HK3 HK4 HA0 HB0 HA1 HA3 HA4 HB1 HB3 HB4 HTA HTB HL HKA HRA HRB x0 x1 x2 x3 x4 x5 x6 y0 y1 y2 y3 y4 y5 y6
  obtain ⟨af0, af1, af2, af3, af4, af5, af6⟩ := Blk.c7 (show Blk w4 (w.heap.size) _ #[.int .u8 kd, .bool ng, .slice la ln lc, .string tx, .int .i64 nm, .slice ia im ic, .slice ta tn tc] from HAb.out)
  obtain ⟨bf0, bf1, bf2, bf3, bf4, bf5, bf6⟩ := Blk.c7 (show Blk w4 (w.heap.size + 1) _ #[.int .u8 kd', .bool ng', .slice la' ln' lc', .string tx', .int .i64 nm', .slice ia' im' ic', .slice ta' tn' tc'] from HBb.out)
  go_upto_region 6 with
    first
    | (go_at_call 9
       refine (law_div _ _ HGA.out HGB.out HK1A.out HK1B.out HY.out _ (HLb.out.keep (HKc.out.alloc (.cells #[.int .u8 kd, .bool ng, .slice la ln lc, .string tx, .int .i64 nm, .slice ia im ic, .slice ta tn tc, .int .u8 kd', .bool ng', .slice la' ln' lc', .string tx', .int .i64 nm', .slice ia' im' ic', .slice ta' tn' tc'] 26))) _ _ _ _ _ _ _ _ _ _ _ _ _ _ _ _ _ _ _ _ _ _ _ _ _ _ _ _ (Blk.new _ 26 #[.int .u8 kd, .bool ng, .slice la ln lc, .string tx, .int .i64 nm, .slice ia im ic, .slice ta tn tc, .int .u8 kd', .bool ng', .slice la' ln' lc', .string tx', .int .i64 nm', .slice ia' im' ic', .slice ta' tn' tc']) (TermIn.keep (HKc.out.alloc (.cells #[.int .u8 kd, .bool ng, .slice la ln lc, .string tx, .int .i64 nm, .slice ia im ic, .slice ta tn tc, .int .u8 kd', .bool ng', .slice la' ln' lc', .string tx', .int .i64 nm', .slice ia' im' ic', .slice ta' tn' tc'] 26)) (fun _ _ => id) _ _ HTAb.out) (TermIn.keep (HKc.out.alloc (.cells #[.int .u8 kd, .bool ng, .slice la ln lc, .string tx, .int .i64 nm, .slice ia im ic, .slice ta tn tc, .int .u8 kd', .bool ng', .slice la' ln' lc', .string tx', .int .i64 nm', .slice ia' im' ic', .slice ta' tn' tc'] 26)) (fun _ _ => id) _ _ HTBb.out)).mono ?_
       rintro e wn ⟨kvq, gvq, lvq, lvnq, lvcq, svq, mvq, ivq, ivnq, ivcq, tvq, tvnq, tvcq, rfl, htn, hkn⟩
       have HTN := hide htn
       have hkm := (HKc.out.alloc (.cells #[.int .u8 kd, .bool ng, .slice la ln lc, .string tx, .int .i64 nm, .slice ia im ic, .slice ta tn tc, .int .u8 kd', .bool ng', .slice la' ln' lc', .string tx', .int .i64 nm', .slice ia' im' ic', .slice ta' tn' tc'] 26)).trans' hkn (fun _ _ => id) (fun _ _ => id)
       clear HKc
       have HKc := hide hkm
       clear hkm hkn htn
       clear af0 af1 af2 af3 af4 af5 af6 bf0 bf1 bf2 bf3 bf4 bf5 bf6)
    | fail
  have hkm := HKc.out.alloc (.cells #[.int .u8 kvq, .bool gvq, .slice lvq lvnq lvcq, .string svq, .int .i64 mvq, .slice ivq ivnq ivcq, .slice tvq tvnq tvcq] 26)
  have HQb := hide (Blk.new wn 26 #[.int .u8 kvq, .bool gvq, .slice lvq lvnq lvcq, .string svq, .int .i64 mvq, .slice ivq ivnq ivcq, .slice tvq tvnq tvcq])
  have HTQb := hide (TermIn.more (B' := fun _ => True) (fun _ _ _ => trivial) _ _ (TermIn.keep ((Keeps.refl NoB wn).alloc (.cells #[.int .u8 kvq, .bool gvq, .slice lvq lvnq lvcq, .string svq, .int .i64 mvq, .slice ivq ivnq ivcq, .slice tvq tvnq tvcq] 26)) (fun _ _ => id) _ _ HTN.out))
  clear HKc HTN
  have HKc := hide hkm
  clear hkm
  generalize wn.alloc (.cells #[.int .u8 kvq, .bool gvq, .slice lvq lvnq lvcq, .string svq, .int .i64 mvq, .slice ivq ivnq ivcq, .slice tvq tvnq tvcq] 26) = wq at *
  generalize wn.heap.size = gQ at *
  have hA := HAb.out.keep HKc.out id; have hB := HBb.out.keep HKc.out id; have hTA := TermIn.keep HKc.out (fun _ _ => id) _ _ HTAb.out; have hTB := TermIn.keep HKc.out (fun _ _ => id) _ _ HTBb.out; have hLL := HLb.out.keep HKc.out; have hKK := HKb.out.trans' HKc.out (fun _ _ => id) (fun _ _ => id)
  clear HAb HBb HTAb HTBb HLb HKb HKc
  have HAb := hide hA; have HBb := hide hB; have HTAb := hide hTA; have HTBb := hide hTB; have HLb := hide hLL; have HKb := hide hKK
  clear hA hB hTA hTB hLL hKK
  have HKc := hide (Keeps.refl NoB wq)
  obtain ⟨af0, af1, af2, af3, af4, af5, af6⟩ := Blk.c7 (show Blk wq (w.heap.size) _ #[.int .u8 kd, .bool ng, .slice la ln lc, .string tx, .int .i64 nm, .slice ia im ic, .slice ta tn tc] from HAb.out)
  obtain ⟨bf0, bf1, bf2, bf3, bf4, bf5, bf6⟩ := Blk.c7 (show Blk wq (w.heap.size + 1) _ #[.int .u8 kd', .bool ng', .slice la' ln' lc', .string tx', .int .i64 nm', .slice ia' im' ic', .slice ta' tn' tc'] from HBb.out)
  go_upto_region 7 with
    first
    | (go_at_call 9
       refine (law_rem _ _ HGA.out HGB.out HK1A.out HK1B.out HY.out _ (HLb.out.keep (HKc.out.alloc (.cells #[.int .u8 kd, .bool ng, .slice la ln lc, .string tx, .int .i64 nm, .slice ia im ic, .slice ta tn tc, .int .u8 kd', .bool ng', .slice la' ln' lc', .string tx', .int .i64 nm', .slice ia' im' ic', .slice ta' tn' tc'] 26))) _ _ _ _ _ _ _ _ _ _ _ _ _ _ _ _ _ _ _ _ _ _ _ _ _ _ _ _ (Blk.new _ 26 #[.int .u8 kd, .bool ng, .slice la ln lc, .string tx, .int .i64 nm, .slice ia im ic, .slice ta tn tc, .int .u8 kd', .bool ng', .slice la' ln' lc', .string tx', .int .i64 nm', .slice ia' im' ic', .slice ta' tn' tc']) (TermIn.keep (HKc.out.alloc (.cells #[.int .u8 kd, .bool ng, .slice la ln lc, .string tx, .int .i64 nm, .slice ia im ic, .slice ta tn tc, .int .u8 kd', .bool ng', .slice la' ln' lc', .string tx', .int .i64 nm', .slice ia' im' ic', .slice ta' tn' tc'] 26)) (fun _ _ => id) _ _ HTAb.out) (TermIn.keep (HKc.out.alloc (.cells #[.int .u8 kd, .bool ng, .slice la ln lc, .string tx, .int .i64 nm, .slice ia im ic, .slice ta tn tc, .int .u8 kd', .bool ng', .slice la' ln' lc', .string tx', .int .i64 nm', .slice ia' im' ic', .slice ta' tn' tc'] 26)) (fun _ _ => id) _ _ HTBb.out)).mono ?_
       rintro e wn ⟨kvr, gvr, lvr, lvnr, lvcr, svr, mvr, ivr, ivnr, ivcr, tvr, tvnr, tvcr, rfl, htn, hkn⟩
       have HTN := hide htn
       have hkm := (HKc.out.alloc (.cells #[.int .u8 kd, .bool ng, .slice la ln lc, .string tx, .int .i64 nm, .slice ia im ic, .slice ta tn tc, .int .u8 kd', .bool ng', .slice la' ln' lc', .string tx', .int .i64 nm', .slice ia' im' ic', .slice ta' tn' tc'] 26)).trans' hkn (fun _ _ => id) (fun _ _ => id)
       clear HKc
       have HKc := hide hkm
       clear hkm hkn htn
       clear af0 af1 af2 af3 af4 af5 af6 bf0 bf1 bf2 bf3 bf4 bf5 bf6)
    | fail
  have hkm := HKc.out.alloc (.cells #[.int .u8 kvr, .bool gvr, .slice lvr lvnr lvcr, .string svr, .int .i64 mvr, .slice ivr ivnr ivcr, .slice tvr tvnr tvcr] 26)
  have HRb := hide (Blk.new wn 26 #[.int .u8 kvr, .bool gvr, .slice lvr lvnr lvcr, .string svr, .int .i64 mvr, .slice ivr ivnr ivcr, .slice tvr tvnr tvcr])
  have HTRb := hide (TermIn.more (B' := fun _ => True) (fun _ _ _ => trivial) _ _ (TermIn.keep ((Keeps.refl NoB wn).alloc (.cells #[.int .u8 kvr, .bool gvr, .slice lvr lvnr lvcr, .string svr, .int .i64 mvr, .slice ivr ivnr ivcr, .slice tvr tvnr tvcr] 26)) (fun _ _ => id) _ _ HTN.out))
  clear HKc HTN
  have HKc := hide hkm
  clear hkm
  generalize wn.alloc (.cells #[.int .u8 kvr, .bool gvr, .slice lvr lvnr lvcr, .string svr, .int .i64 mvr, .slice ivr ivnr ivcr, .slice tvr tvnr tvcr] 26) = wr at *
  generalize wn.heap.size = gR at *
  have hA := HAb.out.keep HKc.out id; have hB := HBb.out.keep HKc.out id; have hTA := TermIn.keep HKc.out (fun _ _ => id) _ _ HTAb.out; have hTB := TermIn.keep HKc.out (fun _ _ => id) _ _ HTBb.out; have hLL := HLb.out.keep HKc.out; have hKK := HKb.out.trans' HKc.out (fun _ _ => id) (fun _ _ => id)
  have hQ := HQb.out.keep HKc.out id
  have hTQ := TermIn.keep HKc.out (fun _ _ => id) _ _ HTQb.out
  clear HAb HBb HTAb HTBb HLb HKb HKc HQb HTQb
  have HAb := hide hA; have HBb := hide hB; have HTAb := hide hTA; have HTBb := hide hTB; have HLb := hide hLL; have HKb := hide hKK
  have HQb := hide hQ
  have HTQb := hide hTQ
  clear hA hB hTA hTB hLL hKK hQ hTQ
  have HKc := hide (Keeps.refl NoB wr)
  obtain ⟨qf0, qf1, qf2, qf3, qf4, qf5, qf6⟩ := Blk.c7 (show Blk wr (gQ) _ #[.int .u8 kvq, .bool gvq, .slice lvq lvnq lvcq, .string svq, .int .i64 mvq, .slice ivq ivnq ivcq, .slice tvq tvnq tvcq] from HQb.out)
  obtain ⟨bf0, bf1, bf2, bf3, bf4, bf5, bf6⟩ := Blk.c7 (show Blk wr (w.heap.size + 1) _ #[.int .u8 kd', .bool ng', .slice la' ln' lc', .string tx', .int .i64 nm', .slice ia' im' ic', .slice ta' tn' tc'] from HBb.out)
  go_upto_region 10 with
    first
    | (go_at_call 9
       refine (law_times _ _ HGQ.out HGB.out rfl HK1B.out (by rw [intTm_V]; exact HPR.out) _ (HLb.out.keep (HKc.out.alloc (.cells #[.int .u8 kvq, .bool gvq, .slice lvq lvnq lvcq, .string svq, .int .i64 mvq, .slice ivq ivnq ivcq, .slice tvq tvnq tvcq, .int .u8 kd', .bool ng', .slice la' ln' lc', .string tx', .int .i64 nm', .slice ia' im' ic', .slice ta' tn' tc'] 26))) _ _ _ _ _ _ _ _ _ _ _ _ _ _ _ _ _ _ _ _ _ _ _ _ _ _ _ _ (Blk.new _ 26 #[.int .u8 kvq, .bool gvq, .slice lvq lvnq lvcq, .string svq, .int .i64 mvq, .slice ivq ivnq ivcq, .slice tvq tvnq tvcq, .int .u8 kd', .bool ng', .slice la' ln' lc', .string tx', .int .i64 nm', .slice ia' im' ic', .slice ta' tn' tc']) (TermIn.keep (HKc.out.alloc (.cells #[.int .u8 kvq, .bool gvq, .slice lvq lvnq lvcq, .string svq, .int .i64 mvq, .slice ivq ivnq ivcq, .slice tvq tvnq tvcq, .int .u8 kd', .bool ng', .slice la' ln' lc', .string tx', .int .i64 nm', .slice ia' im' ic', .slice ta' tn' tc'] 26)) (fun _ _ => id) _ _ HTQb.out) (TermIn.keep (HKc.out.alloc (.cells #[.int .u8 kvq, .bool gvq, .slice lvq lvnq lvcq, .string svq, .int .i64 mvq, .slice ivq ivnq ivcq, .slice tvq tvnq tvcq, .int .u8 kd', .bool ng', .slice la' ln' lc', .string tx', .int .i64 nm', .slice ia' im' ic', .slice ta' tn' tc'] 26)) (fun _ _ => id) _ _ HTBb.out)).mono ?_
       rintro e wn ⟨kvp, gvp, lvp, lvnp, lvcp, svp, mvp, ivp, ivnp, ivcp, tvp, tvnp, tvcp, rfl, htn, hkn⟩
       have HTN := hide htn
       have hkm := (HKc.out.alloc (.cells #[.int .u8 kvq, .bool gvq, .slice lvq lvnq lvcq, .string svq, .int .i64 mvq, .slice ivq ivnq ivcq, .slice tvq tvnq tvcq, .int .u8 kd', .bool ng', .slice la' ln' lc', .string tx', .int .i64 nm', .slice ia' im' ic', .slice ta' tn' tc'] 26)).trans' hkn (fun _ _ => id) (fun _ _ => id)
       clear HKc
       have HKc := hide hkm
       clear hkm hkn htn
       clear qf0 qf1 qf2 qf3 qf4 qf5 qf6 bf0 bf1 bf2 bf3 bf4 bf5 bf6)
    | fail
  have htp := HTN.out
  rw [intTm_V] at htp
  clear HTN
  have HTN := hide htp
  clear htp
  have hkm := HKc.out.alloc (.cells #[.int .u8 kvp, .bool gvp, .slice lvp lvnp lvcp, .string svp, .int .i64 mvp, .slice ivp ivnp ivcp, .slice tvp tvnp tvcp] 26)
  have HPb := hide (Blk.new wn 26 #[.int .u8 kvp, .bool gvp, .slice lvp lvnp lvcp, .string svp, .int .i64 mvp, .slice ivp ivnp ivcp, .slice tvp tvnp tvcp])
  have HTPb := hide (TermIn.more (B' := fun _ => True) (fun _ _ _ => trivial) _ _ (TermIn.keep ((Keeps.refl NoB wn).alloc (.cells #[.int .u8 kvp, .bool gvp, .slice lvp lvnp lvcp, .string svp, .int .i64 mvp, .slice ivp ivnp ivcp, .slice tvp tvnp tvcp] 26)) (fun _ _ => id) _ _ HTN.out))
  clear HKc HTN
  have HKc := hide hkm
  clear hkm
  generalize wn.alloc (.cells #[.int .u8 kvp, .bool gvp, .slice lvp lvnp lvcp, .string svp, .int .i64 mvp, .slice ivp ivnp ivcp, .slice tvp tvnp tvcp] 26) = wp at *
  generalize wn.heap.size = gP at *
  have hA := HAb.out.keep HKc.out id; have hB := HBb.out.keep HKc.out id; have hTA := TermIn.keep HKc.out (fun _ _ => id) _ _ HTAb.out; have hTB := TermIn.keep HKc.out (fun _ _ => id) _ _ HTBb.out; have hLL := HLb.out.keep HKc.out; have hKK := HKb.out.trans' HKc.out (fun _ _ => id) (fun _ _ => id)
  have hQ := HQb.out.keep HKc.out id
  have hTQ := TermIn.keep HKc.out (fun _ _ => id) _ _ HTQb.out
  have hR := HRb.out.keep HKc.out id
  have hTR := TermIn.keep HKc.out (fun _ _ => id) _ _ HTRb.out
  clear HAb HBb HTAb HTBb HLb HKb HKc HQb HTQb HRb HTRb
  have HAb := hide hA; have HBb := hide hB; have HTAb := hide hTA; have HTBb := hide hTB; have HLb := hide hLL; have HKb := hide hKK
  have HQb := hide hQ
  have HTQb := hide hTQ
  have HRb := hide hR
  have HTRb := hide hTR
  clear hA hB hTA hTB hLL hKK hQ hTQ hR hTR
  have HKc := hide (Keeps.refl NoB wp)
  obtain ⟨pf0, pf1, pf2, pf3, pf4, pf5, pf6⟩ := Blk.c7 (show Blk wp (gP) _ #[.int .u8 kvp, .bool gvp, .slice lvp lvnp lvcp, .string svp, .int .i64 mvp, .slice ivp ivnp ivcp, .slice tvp tvnp tvcp] from HPb.out)
  obtain ⟨rf0, rf1, rf2, rf3, rf4, rf5, rf6⟩ := Blk.c7 (show Blk wp (gR) _ #[.int .u8 kvr, .bool gvr, .slice lvr lvnr lvcr, .string svr, .int .i64 mvr, .slice ivr ivnr ivcr, .slice tvr tvnr tvcr] from HRb.out)
  go_upto_region 11 with
    first
    | (go_at_call 9
       refine (law_add _ _ HGP.out HGR.out rfl rfl (by rw [intTm_V, intTm_V, HQB.out]; exact HROOM.out) _ (HLb.out.keep (HKc.out.alloc (.cells #[.int .u8 kvp, .bool gvp, .slice lvp lvnp lvcp, .string svp, .int .i64 mvp, .slice ivp ivnp ivcp, .slice tvp tvnp tvcp, .int .u8 kvr, .bool gvr, .slice lvr lvnr lvcr, .string svr, .int .i64 mvr, .slice ivr ivnr ivcr, .slice tvr tvnr tvcr] 26))) _ _ _ _ _ _ _ _ _ _ _ _ _ _ _ _ _ _ _ _ _ _ _ _ _ _ _ _ (Blk.new _ 26 #[.int .u8 kvp, .bool gvp, .slice lvp lvnp lvcp, .string svp, .int .i64 mvp, .slice ivp ivnp ivcp, .slice tvp tvnp tvcp, .int .u8 kvr, .bool gvr, .slice lvr lvnr lvcr, .string svr, .int .i64 mvr, .slice ivr ivnr ivcr, .slice tvr tvnr tvcr]) (TermIn.keep (HKc.out.alloc (.cells #[.int .u8 kvp, .bool gvp, .slice lvp lvnp lvcp, .string svp, .int .i64 mvp, .slice ivp ivnp ivcp, .slice tvp tvnp tvcp, .int .u8 kvr, .bool gvr, .slice lvr lvnr lvcr, .string svr, .int .i64 mvr, .slice ivr ivnr ivcr, .slice tvr tvnr tvcr] 26)) (fun _ _ => id) _ _ HTPb.out) (TermIn.keep (HKc.out.alloc (.cells #[.int .u8 kvp, .bool gvp, .slice lvp lvnp lvcp, .string svp, .int .i64 mvp, .slice ivp ivnp ivcp, .slice tvp tvnp tvcp, .int .u8 kvr, .bool gvr, .slice lvr lvnr lvcr, .string svr, .int .i64 mvr, .slice ivr ivnr ivcr, .slice tvr tvnr tvcr] 26)) (fun _ _ => id) _ _ HTRb.out)).mono ?_
       rintro e wn ⟨kvs, gvs, lvs, lvns, lvcs, svs, mvs, ivs, ivns, ivcs, tvs, tvns, tvcs, rfl, htn, hkn⟩
       have HTN := hide htn
       have hkm := (HKc.out.alloc (.cells #[.int .u8 kvp, .bool gvp, .slice lvp lvnp lvcp, .string svp, .int .i64 mvp, .slice ivp ivnp ivcp, .slice tvp tvnp tvcp, .int .u8 kvr, .bool gvr, .slice lvr lvnr lvcr, .string svr, .int .i64 mvr, .slice ivr ivnr ivcr, .slice tvr tvnr tvcr] 26)).trans' hkn (fun _ _ => id) (fun _ _ => id)
       clear HKc
       have HKc := hide hkm
       clear hkm hkn htn
       clear pf0 pf1 pf2 pf3 pf4 pf5 pf6 rf0 rf1 rf2 rf3 rf4 rf5 rf6)
    | fail
  have hts := HTN.out
  rw [intTm_V, intTm_V, HQB.out] at hts
  clear HTN
  have HTN := hide hts
  clear hts
  have hkm := HKc.out.alloc (.cells #[.int .u8 kvs, .bool gvs, .slice lvs lvns lvcs, .string svs, .int .i64 mvs, .slice ivs ivns ivcs, .slice tvs tvns tvcs] 26)
  have HSb := hide (Blk.new wn 26 #[.int .u8 kvs, .bool gvs, .slice lvs lvns lvcs, .string svs, .int .i64 mvs, .slice ivs ivns ivcs, .slice tvs tvns tvcs])
  have HTSb := hide (TermIn.more (B' := fun _ => True) (fun _ _ _ => trivial) _ _ (TermIn.keep ((Keeps.refl NoB wn).alloc (.cells #[.int .u8 kvs, .bool gvs, .slice lvs lvns lvcs, .string svs, .int .i64 mvs, .slice ivs ivns ivcs, .slice tvs tvns tvcs] 26)) (fun _ _ => id) _ _ HTN.out))
  clear HKc HTN
  have HKc := hide hkm
  clear hkm
  generalize wn.alloc (.cells #[.int .u8 kvs, .bool gvs, .slice lvs lvns lvcs, .string svs, .int .i64 mvs, .slice ivs ivns ivcs, .slice tvs tvns tvcs] 26) = ws at *
  generalize wn.heap.size = gS at *
  have hA := HAb.out.keep HKc.out id; have hB := HBb.out.keep HKc.out id; have hTA := TermIn.keep HKc.out (fun _ _ => id) _ _ HTAb.out; have hTB := TermIn.keep HKc.out (fun _ _ => id) _ _ HTBb.out; have hLL := HLb.out.keep HKc.out; have hKK := HKb.out.trans' HKc.out (fun _ _ => id) (fun _ _ => id)
  clear HAb HBb HTAb HTBb HLb HKb HKc
  have HAb := hide hA; have HBb := hide hB; have HTAb := hide hTA; have HTBb := hide hTB; have HLb := hide hLL; have HKb := hide hKK
  clear hA hB hTA hTB hLL hKK
  have HKc := hide (Keeps.refl NoB ws)
  obtain ⟨sf0, sf1, sf2, sf3, sf4, sf5, sf6⟩ := Blk.c7 (show Blk ws (gS) _ #[.int .u8 kvs, .bool gvs, .slice lvs lvns lvcs, .string svs, .int .i64 mvs, .slice ivs ivns ivcs, .slice tvs tvns tvcs] from HSb.out)
  obtain ⟨af0, af1, af2, af3, af4, af5, af6⟩ := Blk.c7 (show Blk ws (w.heap.size) _ #[.int .u8 kd, .bool ng, .slice la ln lc, .string tx, .int .i64 nm, .slice ia im ic, .slice ta tn tc] from HAb.out)
  go_wp2_with
    first
    | (go_at_call 10
       refine (same_any _ a HHS.out.2 HGA.out.2 _ (fun _ => True) (fun _ => True) false false _ _ _ _ _ _ _ _ _ _ _ _ _ _ _ _ _ _ _ _ _ _ _ _ _ _ HTSb.out HTAb.out).mono ?_
       rintro e wz ⟨rfl, hkz⟩
       rw [HSA.out]
       have HKZ := hide (HKb.out.trans' hkz (fun _ _ => id) (fun _ _ => id) : Keeps NoB w wz)
       clear hkz)
    | fail
  go_ret
  exact ⟨rfl, HKZ.out⟩
end Go.Proofs.YthbbalkhmofndaaGreatDoor
