/- match.Guard. Printed by mkmatk.py. cores and terms that are made. Printed by mkmatc.py. -/
import Derived.Test.YtjdbjjjbgibpaaaGreatDoorMatGJn
namespace Go.Proofs.YtjdbjjjbgibpaaaGreatDoor
open Go.RowKit

def AllYes (w : World) (vb N : Nat) (ks : List Co) (ys : List Bool) : Prop := ys.length = ks.length ∧ ∀ (i : Nat) (k : Co) (b : Bool), ks[i]? = some k → ys[i]? = some b → YesV w vb k N b
theorem AllYes.keep {w w' : World} {vb N : Nat} {ks : List Co} {ys : List Bool} (h : AllYes w vb N ks ys) (hk : Keeps NoB w w') : AllYes w' vb N ks ys := ⟨h.1, fun i k b h1 h2 => (h.2 i k b h1 h2).keep hk⟩
set_option maxRecDepth 100000 in
set_option maxHeartbeats 4000000 in
theorem index_yes (w : World) (vb N : Nat) (ks : List Co) (ys : List Bool) (hy : AllYes w vb N ks ys) (kA : Option Addr) (rn rc : Nat) (kcss : List (List Value)) (hr : Reads w (fun j => j < N) false 11 kA rn kcss.flatten) (hc : CoresIn w (fun j => j < N) false kcss ks) (hroom : Roomy rn 160) :
    Calls Tryz.prog 57 #[.slice kA rn rc, .func (.func 33) #[] #[.pointer (some ⟨vb, 0, none⟩)]] w fun e w' => ∃ z : Int, e = .returned (.int .i64 z) ∧ decide (0 ≤ z) = ys.any id ∧ Keeps NoB w w' := by
  have hkl : ks.length = rn := by have := hr.1; rw [flat_len hc.lens.2, hc.lens.1] at this; omega
  have hn63 : rn ≤ 9223372036854775807 := by unfold Roomy at hroom; omega
  have HY := hide hy; have HR := hide hr; have HC := hide hc; have HKL := hide hkl
  clear hy hr hc hkl hroom
  go_enter Tryz.func57, Tryz.ntmps57
  go_wp2_with fail
  go_loopg [8] rn (fun g s8 wx => ∃ i : Nat, i ≤ rn ∧ g = rn - i ∧ s8 = .int .i64 i ∧ Hid (∀ j, j < i → ys[j]? = some false) ∧ Keeps NoB w wx)
  case atStart => exact ⟨0, Nat.zero_le _, rfl, rfl, hide (fun j hj => absurd hj (by omega)), Keeps.refl _ _⟩
  case round =>
    obtain ⟨i, hi, rfl, rfl, HF, hkw⟩ := hrel
    have HKW := hide hkw
    clear hkw
    have hi0 : (0 : Int) ≤ i := by omega
    by_cases hlt : i < rn
    · have hiz : (i : Int) < rn := by omega
      obtain ⟨kb, ko, kd, tx, nm, tk, ng, la, ln, lc, tt, tn, ia, im, ic, ta, tm, tc, ka, kn, kc, k, rfl, hk, _, hkc, f0, f1, f2, f3, f4, f5, f6, f7, f8, f9, f10⟩ := core_at (HR.out.keep HKW.out (fun _ _ => id)) (CoresIn.keep HKW.out (fun _ _ => id) _ _ HC.out) i hlt
      obtain ⟨b, hb⟩ : ∃ b, ys[i]? = some b := ⟨_, List.getElem?_eq_getElem (by have := HY.out.1; have := HKL.out; omega)⟩
      have HV := hide (HY.out.2 i k b hk hb); have HKC := hide hkc; have HB := hide hb
      clear hk hkc hb
      cases b with
      | false =>
        go_wp2_with
          first
          | (go_at_call 33
             refine (HV.out wr HKW.out _ _ _ _ _ _ _ _ _ _ _ _ _ _ _ _ _ _ _ HKC.out).mono ?_
             rintro e w2 ⟨rfl, hk2⟩
             have HK2 := hide (HKW.out.trans' hk2 (fun _ _ => id) (fun _ _ => id) : Keeps NoB w w2)
             clear hk2)
          | fail
        go_roundg (rn - (i + 1))
        case measure => omega
        case rel => exact ⟨i + 1, by omega, rfl, by go_num, hide (fun j hj => by rcases Nat.lt_succ_iff_lt_or_eq.1 hj with h | rfl; exact HF.out j h; exact HB.out), HK2.out⟩
      | true =>
        go_wp2_with
          first
          | (go_at_call 33
             refine (HV.out wr HKW.out _ _ _ _ _ _ _ _ _ _ _ _ _ _ _ _ _ _ _ HKC.out).mono ?_
             rintro e w2 ⟨rfl, hk2⟩
             have HK2 := hide (HKW.out.trans' hk2 (fun _ _ => id) (fun _ _ => id) : Keeps NoB w w2)
             clear hk2)
          | fail
        go_ret
        refine ⟨i, rfl, ?_, HK2.out⟩
        rw [decide_eq_true hi0]
        symm
        rw [List.any_eq_true]
        exact ⟨true, List.mem_of_getElem? HB.out, rfl⟩
    · obtain rfl : i = rn := by omega
      have hiz : ¬ (i : Int) < i := by omega
      go_wp2_with fail
      go_ret
      refine ⟨-1, rfl, ?_, HKW.out⟩
      rw [decide_eq_false (by omega)]
      symm
      rw [List.any_eq_false]
      intro b hb
      obtain ⟨j, hj, e⟩ := List.mem_iff_getElem.1 hb
      have := HF.out j (by have := HY.out.1; have := HKL.out; omega)
      rw [List.getElem?_eq_getElem hj, e] at this
      injection this with this
      simp [this]
theorem contains_yes (w : World) (vb N : Nat) (ks : List Co) (ys : List Bool) (hy : AllYes w vb N ks ys) (kA : Option Addr) (rn rc : Nat) (kcss : List (List Value)) (hr : Reads w (fun j => j < N) false 11 kA rn kcss.flatten) (hc : CoresIn w (fun j => j < N) false kcss ks) (hroom : Roomy rn 160) :
    Calls Tryz.prog 36 #[.slice kA rn rc, .func (.func 33) #[] #[.pointer (some ⟨vb, 0, none⟩)]] w fun e w' => e = .returned (.bool (ys.any id)) ∧ Keeps NoB w w' := by
  have HY := hide hy; have HR := hide hr; have HC := hide hc; have HRM := hide hroom
  clear hy hr hc hroom
  go_enter Tryz.func36, Tryz.ntmps36
  go_wp2_with
    first
    | (go_at_call 57
       refine (index_yes w vb N ks ys HY.out kA rn rc kcss HR.out HC.out HRM.out).mono ?_
       rintro e w2 ⟨z, rfl, hz, hk2⟩
       have HZ := hide hz; have HK2 := hide hk2
       clear hz hk2)
    | fail
  go_ret
  exact ⟨by rw [← HZ.out]; rfl, HK2.out⟩
/-- What a kid of a guard is to it. -/
def KidV (N : Nat) (w : World) (A : Option Addr) (n c : Nat) (D : Option Addr) (m d : Nat) (k : Co) (b : Bool) : Prop := (∃ t, GuardV N w A n c D m d k t false ∧ b = false) ∨ (∃ t, okT t ∧ GuardV N w A n c D m d k t true ∧ b = sameT t trueT)
theorem KidV.yes {N n c m d : Nat} {w w0 : World} {A D : Option Addr} {k : Co} {b : Bool} {vb : Nat} (h : KidV N w A n c D m d k b) (hk : Keeps NoB w w0) (hvb : Blk w0 vb 39 #[.slice A n c, .slice D m d]) : YesV w0 vb k N b := by
  rcases h with ⟨t, h1, rfl⟩ | ⟨t, ho, h1, rfl⟩
  · exact yes_no w0 vb hvb (h1.keep hk)
  · exact yes_any w0 vb ho hvb (h1.keep hk)
set_option maxRecDepth 100000 in
set_option maxHeartbeats 4000000 in
theorem guard_any (N : Nat) (A : Option Addr) (n c : Nat) (D : Option Addr) (d : Nat) (tx : ByteArray) (nm tk : Int) (ng : Bool) (la : Option Addr) (ln lc : Nat) (tt : ByteArray) (tn : Int) (ia : Option Addr) (im ic : Nat) (ta : Option Addr) (tm tc : Nat) (ka : Option Addr) (kn kc : Nat) (s : ByteArray) (z : Int) (t : Tm) (ks : List Co) (ys : List Bool) (w : World) (hn : n ≤ 9223372036854775807) (hl : ys.length = ks.length) (hv : ∀ (i : Nat) (k : Co) (b : Bool), ks[i]? = some k → ys[i]? = some b → KidV N w A n c D n d k b) (hg : CoreIn w (fun j => j < N) false [.int .u8 31, .string tx, .int .i64 nm, .int .u8 tk, .bool ng, .slice la ln lc, .string tt, .int .i64 tn, .slice ia im ic, .slice ta tm tc, .slice ka kn kc] (.mk 31 s z t ks)) :
    Calls Tryz.prog 23 #[.agg #[.int .u8 31, .string tx, .int .i64 nm, .int .u8 tk, .bool ng, .slice la ln lc, .string tt, .int .i64 tn, .slice ia im ic, .slice ta tm tc, .slice ka kn kc], .agg #[.slice A n c, .slice D n d]] w fun e w' => e = .returned (.bool (ks.isEmpty || ys.any id)) ∧ Keeps NoB w w' := by
  have HK0 := hide (((Keeps.refl NoB w).alloc (.cells #[.int .u8 31, .string tx, .int .i64 nm, .int .u8 tk, .bool ng, .slice la ln lc, .string tt, .int .i64 tn, .slice ia im ic, .slice ta tm tc, .slice ka kn kc] 34)).alloc (.cells #[.slice A n c, .slice D n d] 39))
  have HP0 := hide (two_tblks w 34 39 #[.int .u8 31, .string tx, .int .i64 nm, .int .u8 tk, .bool ng, .slice la ln lc, .string tt, .int .i64 tn, .slice ia im ic, .slice ta tm tc, .slice ka kn kc] #[.slice A n c, .slice D n d]).1; have HV0 := hide (two_tblks w 34 39 #[.int .u8 31, .string tx, .int .i64 nm, .int .u8 tk, .bool ng, .slice la ln lc, .string tt, .int .i64 tn, .slice ia im ic, .slice ta tm tc, .slice ka kn kc] #[.slice A n c, .slice D n d]).2
  obtain ⟨tr, kids, kcss, e, _, hr, hkr, hkc, hkl⟩ := hg.parts
  injection e with e1 e2 e3 e4 e5
  subst e5
  have HR := hide hkr; have HC := hide hkc; have HRM := hide hr; have HKL := hide hkl
  have HAY := hide (show AllYes ((w.alloc (.cells #[.int .u8 31, .string tx, .int .i64 nm, .int .u8 tk, .bool ng, .slice la ln lc, .string tt, .int .i64 tn, .slice ia im ic, .slice ta tm tc, .slice ka kn kc] 34)).alloc (.cells #[.slice A n c, .slice D n d] 39)) (w.heap.size + 1) N ks ys from ⟨hl, fun i k b h1 h2 => (hv i k b h1 h2).yes HK0.out HV0.out⟩)
  have hk63 : kn ≤ 9223372036854775807 := by unfold Roomy at hr; omega
  have HE := hide (show ks.isEmpty = decide (kn = 0) from by cases ks <;> simp at hkl ⊢ <;> omega)
  clear hg hv hl hr hkr hkc hkl e1 e2 e3 e4
  go_enter Tryz.func23, Tryz.ntmps23
  go_upto_region 1 with fail
  generalize (w.alloc (.cells #[.int .u8 31, .string tx, .int .i64 nm, .int .u8 tk, .bool ng, .slice la ln lc, .string tt, .int .i64 tn, .slice ia im ic, .slice ta tm tc, .slice ka kn kc] 34)).alloc (.cells #[.slice A n c, .slice D n d] 39) = w0 at *
  have v0 := HV0.out.cell 0
  have v1 := HV0.out.cell 1
  go_upto_region 4 with
    first
    | (go_at_call 26
       refine (vmade_any A n c D n d w0 hn hn).mono ?_
       rintro e w1 ⟨rfl, hk1⟩
       rw [decide_eq_true (rfl : n = n)]
       have HK1 := hide hk1; have HP1 := hide (HP0.out.keep hk1 id)
       have p0 := HP1.out.cell 0
       have p10 := HP1.out.cell 10
       clear hk1)
    | fail
  have HKW := hide (HK0.out.trans' HK1.out (fun _ _ => id) (fun _ _ => id) : Keeps NoB w w1)
  by_cases h0 : kn = 0
  · have hb : ((kn : Int) == 0) = true := by simp; omega
    have HE1 := hide (show (ks.isEmpty || ys.any id) = true from by rw [HE.out, decide_eq_true h0]; rfl)
    clear h0
    go_wp2_with fail
    go_ret
    exact ⟨by rw [HE1.out]; rfl, HKW.out⟩
  · have hb : ((kn : Int) == 0) = false := by simp; omega
    have HE1 := hide (show (ks.isEmpty || ys.any id) = ys.any id from by rw [HE.out, decide_eq_false h0]; rfl)
    clear h0
    go_wp2_with
      first
      | (go_at_call 36
         refine (contains_yes w1 (w.heap.size + 1) N ks ys (HAY.out.keep HK1.out) ka kn kc kcss (HR.out.keep HKW.out (fun _ _ => id)) (CoresIn.keep HKW.out (fun _ _ => id) _ _ HC.out) HRM.out).mono ?_
         rintro e w2 ⟨rfl, hk2⟩
         have HK2 := hide (HKW.out.trans' hk2 (fun _ _ => id) (fun _ _ => id) : Keeps NoB w w2)
         clear hk2)
      | fail
    go_ret
    exact ⟨by rw [HE1.out]; rfl, HK2.out⟩
end Go.Proofs.YtjdbjjjbgibpaaaGreatDoor
namespace Go.Proofs.YtjdbjjjbgibpaaaGreatDoor
open Go.RowKit

set_option maxRecDepth 100000 in
theorem num_core (k n : Int) (w : World) : Calls Tryz.prog 16 #[.int .u8 k, .int .i64 n] w fun e w' => e = .returned (.agg #[.int .u8 k, .string ⟨#[]⟩, .int .i64 n, .int .u8 0, .bool false, .slice none 0 0, .string ⟨#[]⟩, .int .i64 0, .slice none 0 0, .slice none 0 0, .slice none 0 0]) ∧ Keeps NoB w w' := by
  have HB := hide (Blk.new w 34 #[.int .u8 k, .string ⟨#[]⟩, .int .i64 n, .int .u8 0, .bool false, .slice none 0 0, .string ⟨#[]⟩, .int .i64 0, .slice none 0 0, .slice none 0 0, .slice none 0 0])
  go_enter Tryz.func16, Tryz.ntmps16
  go_wp2
  have HK := hide ((Keeps.refl NoB w).alloc (.cells #[.int .u8 k, .string ⟨#[]⟩, .int .i64 n, .int .u8 0, .bool false, .slice none 0 0, .string ⟨#[]⟩, .int .i64 0, .slice none 0 0, .slice none 0 0, .slice none 0 0] 34))
  generalize w.alloc (.cells #[.int .u8 k, .string ⟨#[]⟩, .int .i64 n, .int .u8 0, .bool false, .slice none 0 0, .string ⟨#[]⟩, .int .i64 0, .slice none 0 0, .slice none 0 0, .slice none 0 0] 34) = wf at *
  have d0 := HB.out.cell 0; have d1 := HB.out.cell 1; have d2 := HB.out.cell 2; have d3 := HB.out.cell 3; have d4 := HB.out.cell 4; have d5 := HB.out.cell 5; have d6 := HB.out.cell 6; have d7 := HB.out.cell 7; have d8 := HB.out.cell 8; have d9 := HB.out.cell 9; have d10 := HB.out.cell 10
  refine bodyPost_ret (v := .agg #[.int .u8 k, .string ⟨#[]⟩, .int .i64 n, .int .u8 0, .bool false, .slice none 0 0, .string ⟨#[]⟩, .int .i64 0, .slice none 0 0, .slice none 0 0, .slice none 0 0]) (by simp [results, Tryz.results16, go_sem, d0, d1, d2, d3, d4, d5, d6, d7, d8, d9, d10]) rfl ?_
  exact ⟨rfl, HK.out⟩
set_option maxRecDepth 100000 in
theorem of_core (k : Int) (A : Option Addr) (n c : Nat) (w : World) : Calls Tryz.prog 15 #[.int .u8 k, .slice A n c] w fun e w' => e = .returned (.agg #[.int .u8 k, .string ⟨#[]⟩, .int .i64 0, .int .u8 0, .bool false, .slice none 0 0, .string ⟨#[]⟩, .int .i64 0, .slice none 0 0, .slice none 0 0, .slice A n c]) ∧ Keeps NoB w w' := by
  have HB := hide (Blk.new w 34 #[.int .u8 k, .string ⟨#[]⟩, .int .i64 0, .int .u8 0, .bool false, .slice none 0 0, .string ⟨#[]⟩, .int .i64 0, .slice none 0 0, .slice none 0 0, .slice A n c])
  go_enter Tryz.func15, Tryz.ntmps15
  go_wp2
  have HK := hide ((Keeps.refl NoB w).alloc (.cells #[.int .u8 k, .string ⟨#[]⟩, .int .i64 0, .int .u8 0, .bool false, .slice none 0 0, .string ⟨#[]⟩, .int .i64 0, .slice none 0 0, .slice none 0 0, .slice A n c] 34))
  generalize w.alloc (.cells #[.int .u8 k, .string ⟨#[]⟩, .int .i64 0, .int .u8 0, .bool false, .slice none 0 0, .string ⟨#[]⟩, .int .i64 0, .slice none 0 0, .slice none 0 0, .slice A n c] 34) = wf at *
  have d0 := HB.out.cell 0; have d1 := HB.out.cell 1; have d2 := HB.out.cell 2; have d3 := HB.out.cell 3; have d4 := HB.out.cell 4; have d5 := HB.out.cell 5; have d6 := HB.out.cell 6; have d7 := HB.out.cell 7; have d8 := HB.out.cell 8; have d9 := HB.out.cell 9; have d10 := HB.out.cell 10
  refine bodyPost_ret (v := .agg #[.int .u8 k, .string ⟨#[]⟩, .int .i64 0, .int .u8 0, .bool false, .slice none 0 0, .string ⟨#[]⟩, .int .i64 0, .slice none 0 0, .slice none 0 0, .slice A n c]) (by simp [results, Tryz.results15, go_sem, d0, d1, d2, d3, d4, d5, d6, d7, d8, d9, d10]) rfl ?_
  exact ⟨rfl, HK.out⟩
set_option maxRecDepth 100000 in
theorem bif_core (s : ByteArray) (A : Option Addr) (n c : Nat) (w : World) : Calls Tryz.prog 21 #[.string s, .slice A n c] w fun e w' => e = .returned (.agg #[.int .u8 8, .string s, .int .i64 0, .int .u8 0, .bool false, .slice none 0 0, .string ⟨#[]⟩, .int .i64 0, .slice none 0 0, .slice none 0 0, .slice A n c]) ∧ Keeps NoB w w' := by
  have HB := hide (Blk.new w 34 #[.int .u8 8, .string s, .int .i64 0, .int .u8 0, .bool false, .slice none 0 0, .string ⟨#[]⟩, .int .i64 0, .slice none 0 0, .slice none 0 0, .slice A n c])
  go_enter Tryz.func21, Tryz.ntmps21
  go_wp2
  have HK := hide ((Keeps.refl NoB w).alloc (.cells #[.int .u8 8, .string s, .int .i64 0, .int .u8 0, .bool false, .slice none 0 0, .string ⟨#[]⟩, .int .i64 0, .slice none 0 0, .slice none 0 0, .slice A n c] 34))
  generalize w.alloc (.cells #[.int .u8 8, .string s, .int .i64 0, .int .u8 0, .bool false, .slice none 0 0, .string ⟨#[]⟩, .int .i64 0, .slice none 0 0, .slice none 0 0, .slice A n c] 34) = wf at *
  have d0 := HB.out.cell 0; have d1 := HB.out.cell 1; have d2 := HB.out.cell 2; have d3 := HB.out.cell 3; have d4 := HB.out.cell 4; have d5 := HB.out.cell 5; have d6 := HB.out.cell 6; have d7 := HB.out.cell 7; have d8 := HB.out.cell 8; have d9 := HB.out.cell 9; have d10 := HB.out.cell 10
  refine bodyPost_ret (v := .agg #[.int .u8 8, .string s, .int .i64 0, .int .u8 0, .bool false, .slice none 0 0, .string ⟨#[]⟩, .int .i64 0, .slice none 0 0, .slice none 0 0, .slice A n c]) (by simp [results, Tryz.results21, go_sem, d0, d1, d2, d3, d4, d5, d6, d7, d8, d9, d10]) rfl ?_
  exact ⟨rfl, HK.out⟩
set_option maxRecDepth 100000 in
theorem const_core (k : Int) (kd' : Int) (ng' : Bool) (la' : Option Addr) (ln' lc' : Nat) (tx' : ByteArray) (nm' : Int) (ia' : Option Addr) (im' ic' : Nat) (ta' : Option Addr) (tn' tc' : Nat) (w : World) : Calls Tryz.prog 22 #[.int .u8 k, .agg #[.int .u8 kd', .bool ng', .slice la' ln' lc', .string tx', .int .i64 nm', .slice ia' im' ic', .slice ta' tn' tc']] w fun e w' => e = .returned (.agg #[.int .u8 k, .string ⟨#[]⟩, .int .i64 0, .int .u8 kd', .bool ng', .slice la' ln' lc', .string tx', .int .i64 nm', .slice ia' im' ic', .slice ta' tn' tc', .slice none 0 0]) ∧ Keeps NoB w w' := by
  have HB := hide (two_tblks w 26 34 #[.int .u8 kd', .bool ng', .slice la' ln' lc', .string tx', .int .i64 nm', .slice ia' im' ic', .slice ta' tn' tc'] #[.int .u8 k, .string ⟨#[]⟩, .int .i64 0, .int .u8 kd', .bool ng', .slice la' ln' lc', .string tx', .int .i64 nm', .slice ia' im' ic', .slice ta' tn' tc', .slice none 0 0]).2
  have hb := (two_tblks w 26 34 #[.int .u8 kd', .bool ng', .slice la' ln' lc', .string tx', .int .i64 nm', .slice ia' im' ic', .slice ta' tn' tc'] #[.int .u8 0, .string ⟨#[]⟩, .int .i64 0, .int .u8 0, .bool false, .slice none 0 0, .string ⟨#[]⟩, .int .i64 0, .slice none 0 0, .slice none 0 0, .slice none 0 0]).1
  have t0 : ((w.alloc (.cells #[.int .u8 kd', .bool ng', .slice la' ln' lc', .string tx', .int .i64 nm', .slice ia' im' ic', .slice ta' tn' tc'] 26)).alloc (.cells #[.int .u8 0, .string ⟨#[]⟩, .int .i64 0, .int .u8 0, .bool false, .slice none 0 0, .string ⟨#[]⟩, .int .i64 0, .slice none 0 0, .slice none 0 0, .slice none 0 0] 34)).cell? ⟨w.heap.size, 0, none⟩ = some (.int .u8 kd') := hb.cell 0; have t1 : ((w.alloc (.cells #[.int .u8 kd', .bool ng', .slice la' ln' lc', .string tx', .int .i64 nm', .slice ia' im' ic', .slice ta' tn' tc'] 26)).alloc (.cells #[.int .u8 0, .string ⟨#[]⟩, .int .i64 0, .int .u8 0, .bool false, .slice none 0 0, .string ⟨#[]⟩, .int .i64 0, .slice none 0 0, .slice none 0 0, .slice none 0 0] 34)).cell? ⟨w.heap.size, 1, none⟩ = some (.bool ng') := hb.cell 1; have t2 : ((w.alloc (.cells #[.int .u8 kd', .bool ng', .slice la' ln' lc', .string tx', .int .i64 nm', .slice ia' im' ic', .slice ta' tn' tc'] 26)).alloc (.cells #[.int .u8 0, .string ⟨#[]⟩, .int .i64 0, .int .u8 0, .bool false, .slice none 0 0, .string ⟨#[]⟩, .int .i64 0, .slice none 0 0, .slice none 0 0, .slice none 0 0] 34)).cell? ⟨w.heap.size, 2, none⟩ = some (.slice la' ln' lc') := hb.cell 2; have t3 : ((w.alloc (.cells #[.int .u8 kd', .bool ng', .slice la' ln' lc', .string tx', .int .i64 nm', .slice ia' im' ic', .slice ta' tn' tc'] 26)).alloc (.cells #[.int .u8 0, .string ⟨#[]⟩, .int .i64 0, .int .u8 0, .bool false, .slice none 0 0, .string ⟨#[]⟩, .int .i64 0, .slice none 0 0, .slice none 0 0, .slice none 0 0] 34)).cell? ⟨w.heap.size, 3, none⟩ = some (.string tx') := hb.cell 3; have t4 : ((w.alloc (.cells #[.int .u8 kd', .bool ng', .slice la' ln' lc', .string tx', .int .i64 nm', .slice ia' im' ic', .slice ta' tn' tc'] 26)).alloc (.cells #[.int .u8 0, .string ⟨#[]⟩, .int .i64 0, .int .u8 0, .bool false, .slice none 0 0, .string ⟨#[]⟩, .int .i64 0, .slice none 0 0, .slice none 0 0, .slice none 0 0] 34)).cell? ⟨w.heap.size, 4, none⟩ = some (.int .i64 nm') := hb.cell 4; have t5 : ((w.alloc (.cells #[.int .u8 kd', .bool ng', .slice la' ln' lc', .string tx', .int .i64 nm', .slice ia' im' ic', .slice ta' tn' tc'] 26)).alloc (.cells #[.int .u8 0, .string ⟨#[]⟩, .int .i64 0, .int .u8 0, .bool false, .slice none 0 0, .string ⟨#[]⟩, .int .i64 0, .slice none 0 0, .slice none 0 0, .slice none 0 0] 34)).cell? ⟨w.heap.size, 5, none⟩ = some (.slice ia' im' ic') := hb.cell 5; have t6 : ((w.alloc (.cells #[.int .u8 kd', .bool ng', .slice la' ln' lc', .string tx', .int .i64 nm', .slice ia' im' ic', .slice ta' tn' tc'] 26)).alloc (.cells #[.int .u8 0, .string ⟨#[]⟩, .int .i64 0, .int .u8 0, .bool false, .slice none 0 0, .string ⟨#[]⟩, .int .i64 0, .slice none 0 0, .slice none 0 0, .slice none 0 0] 34)).cell? ⟨w.heap.size, 6, none⟩ = some (.slice ta' tn' tc') := hb.cell 6
  clear hb
  go_enter Tryz.func22, Tryz.ntmps22
  go_wp2
  have HK := hide (((Keeps.refl NoB w).alloc (.cells #[.int .u8 kd', .bool ng', .slice la' ln' lc', .string tx', .int .i64 nm', .slice ia' im' ic', .slice ta' tn' tc'] 26)).alloc (.cells #[.int .u8 k, .string ⟨#[]⟩, .int .i64 0, .int .u8 kd', .bool ng', .slice la' ln' lc', .string tx', .int .i64 nm', .slice ia' im' ic', .slice ta' tn' tc', .slice none 0 0] 34))
  clear t0 t1 t2 t3 t4 t5 t6
  generalize (w.alloc (.cells #[.int .u8 kd', .bool ng', .slice la' ln' lc', .string tx', .int .i64 nm', .slice ia' im' ic', .slice ta' tn' tc'] 26)).alloc (.cells #[.int .u8 k, .string ⟨#[]⟩, .int .i64 0, .int .u8 kd', .bool ng', .slice la' ln' lc', .string tx', .int .i64 nm', .slice ia' im' ic', .slice ta' tn' tc', .slice none 0 0] 34) = wf at *
  have d0 := HB.out.cell 0; have d1 := HB.out.cell 1; have d2 := HB.out.cell 2; have d3 := HB.out.cell 3; have d4 := HB.out.cell 4; have d5 := HB.out.cell 5; have d6 := HB.out.cell 6; have d7 := HB.out.cell 7; have d8 := HB.out.cell 8; have d9 := HB.out.cell 9; have d10 := HB.out.cell 10
  refine bodyPost_ret (v := .agg #[.int .u8 k, .string ⟨#[]⟩, .int .i64 0, .int .u8 kd', .bool ng', .slice la' ln' lc', .string tx', .int .i64 nm', .slice ia' im' ic', .slice ta' tn' tc', .slice none 0 0]) (by simp [results, Tryz.results22, go_sem, d0, d1, d2, d3, d4, d5, d6, d7, d8, d9, d10]) rfl ?_
  exact ⟨rfl, HK.out⟩
def PairP (w : World) (t u : Tm) (e : Ending) (w' : World) : Prop := ∃ g, e = .returned (.agg #[.int .u8 6, .bool false, .slice none 0 0, .string ⟨#[]⟩, .int .i64 0, .slice (some ⟨g, 0, none⟩) 2 2, .slice none 0 0]) ∧ TermIn w' (fun _ => True) false [.int .u8 6, .bool false, .slice none 0 0, .string ⟨#[]⟩, .int .i64 0, .slice (some ⟨g, 0, none⟩) 2 2, .slice none 0 0] (.mk 6 false [] ByteArray.empty 0 [t, u] []) ∧ Keeps NoB w w'
set_option maxRecDepth 100000 in
theorem pair_any (t u : Tm) (kd' : Int) (ng' : Bool) (la' : Option Addr) (ln' lc' : Nat) (tx' : ByteArray) (nm' : Int) (ia' : Option Addr) (im' ic' : Nat) (ta' : Option Addr) (tn' tc' : Nat) (kd2 : Int) (ng2 : Bool) (la2 : Option Addr) (ln2 lc2 : Nat) (tx2 : ByteArray) (nm2 : Int) (ia2 : Option Addr) (im2 ic2 : Nat) (ta2 : Option Addr) (tn2 tc2 : Nat) (w : World) (ht : TermIn w (fun _ => True) false [.int .u8 kd', .bool ng', .slice la' ln' lc', .string tx', .int .i64 nm', .slice ia' im' ic', .slice ta' tn' tc'] t) (hu : TermIn w (fun _ => True) false [.int .u8 kd2, .bool ng2, .slice la2 ln2 lc2, .string tx2, .int .i64 nm2, .slice ia2 im2 ic2, .slice ta2 tn2 tc2] u) : Calls Tryz.prog 19 #[.agg #[.int .u8 kd', .bool ng', .slice la' ln' lc', .string tx', .int .i64 nm', .slice ia' im' ic', .slice ta' tn' tc'], .agg #[.int .u8 kd2, .bool ng2, .slice la2 ln2 lc2, .string tx2, .int .i64 nm2, .slice ia2 im2 ic2, .slice ta2 tn2 tc2]] w (PairP w t u) := by
  have HA := hide (three_tblks w 26 26 26 #[.int .u8 kd', .bool ng', .slice la' ln' lc', .string tx', .int .i64 nm', .slice ia' im' ic', .slice ta' tn' tc'] #[.int .u8 kd2, .bool ng2, .slice la2 ln2 lc2, .string tx2, .int .i64 nm2, .slice ia2 im2 ic2, .slice ta2 tn2 tc2] #[.int .u8 0, .bool false, .slice none 0 0, .string ⟨#[]⟩, .int .i64 0, .slice none 0 0, .slice none 0 0]).1; have HB := hide (three_tblks w 26 26 26 #[.int .u8 kd', .bool ng', .slice la' ln' lc', .string tx', .int .i64 nm', .slice ia' im' ic', .slice ta' tn' tc'] #[.int .u8 kd2, .bool ng2, .slice la2 ln2 lc2, .string tx2, .int .i64 nm2, .slice ia2 im2 ic2, .slice ta2 tn2 tc2] #[.int .u8 0, .bool false, .slice none 0 0, .string ⟨#[]⟩, .int .i64 0, .slice none 0 0, .slice none 0 0]).2.1; have HC := hide (three_tblks w 26 26 26 #[.int .u8 kd', .bool ng', .slice la' ln' lc', .string tx', .int .i64 nm', .slice ia' im' ic', .slice ta' tn' tc'] #[.int .u8 kd2, .bool ng2, .slice la2 ln2 lc2, .string tx2, .int .i64 nm2, .slice ia2 im2 ic2, .slice ta2 tn2 tc2] #[.int .u8 0, .bool false, .slice none 0 0, .string ⟨#[]⟩, .int .i64 0, .slice none 0 0, .slice none 0 0]).2.2
  have HK := hide ((((Keeps.refl NoB w).alloc (.cells #[.int .u8 kd', .bool ng', .slice la' ln' lc', .string tx', .int .i64 nm', .slice ia' im' ic', .slice ta' tn' tc'] 26)).alloc (.cells #[.int .u8 kd2, .bool ng2, .slice la2 ln2 lc2, .string tx2, .int .i64 nm2, .slice ia2 im2 ic2, .slice ta2 tn2 tc2] 26)).alloc (.cells #[.int .u8 0, .bool false, .slice none 0 0, .string ⟨#[]⟩, .int .i64 0, .slice none 0 0, .slice none 0 0] 26))
  have HT := hide (TermIn.more (B' := fun k => k < w.heap.size) (fun k hk _ => hk) _ _ ht); have HU := hide (TermIn.more (B' := fun k => k < w.heap.size) (fun k hk _ => hk) _ _ hu)
  clear ht hu
  go_enter Tryz.func19, Tryz.ntmps19
  go_upto_region 1 with fail
  generalize ((w.alloc (.cells #[.int .u8 kd', .bool ng', .slice la' ln' lc', .string tx', .int .i64 nm', .slice ia' im' ic', .slice ta' tn' tc'] 26)).alloc (.cells #[.int .u8 kd2, .bool ng2, .slice la2 ln2 lc2, .string tx2, .int .i64 nm2, .slice ia2 im2 ic2, .slice ta2 tn2 tc2] 26)).alloc (.cells #[.int .u8 0, .bool false, .slice none 0 0, .string ⟨#[]⟩, .int .i64 0, .slice none 0 0, .slice none 0 0] 26) = w3 at *
  have t0 := HA.out.cell 0; have t1 := HA.out.cell 1; have t2 := HA.out.cell 2; have t3 := HA.out.cell 3; have t4 := HA.out.cell 4; have t5 := HA.out.cell 5; have t6 := HA.out.cell 6
  have u0 := HB.out.cell 0; have u1 := HB.out.cell 1; have u2 := HB.out.cell 2; have u3 := HB.out.cell 3; have u4 := HB.out.cell 4; have u5 := HB.out.cell 5; have u6 := HB.out.cell 6
  have HD := hide (Blk.new w3 26 #[.int .u8 kd', .bool ng', .slice la' ln' lc', .string tx', .int .i64 nm', .slice ia' im' ic', .slice ta' tn' tc', .int .u8 kd2, .bool ng2, .slice la2 ln2 lc2, .string tx2, .int .i64 nm2, .slice ia2 im2 ic2, .slice ta2 tn2 tc2])
  have HC4 := hide (HC.out.alloc (.cells #[.int .u8 kd', .bool ng', .slice la' ln' lc', .string tx', .int .i64 nm', .slice ia' im' ic', .slice ta' tn' tc', .int .u8 kd2, .bool ng2, .slice la2 ln2 lc2, .string tx2, .int .i64 nm2, .slice ia2 im2 ic2, .slice ta2 tn2 tc2] 26))
  have q0 : (w3.alloc (.cells #[.int .u8 kd', .bool ng', .slice la' ln' lc', .string tx', .int .i64 nm', .slice ia' im' ic', .slice ta' tn' tc', .int .u8 kd2, .bool ng2, .slice la2 ln2 lc2, .string tx2, .int .i64 nm2, .slice ia2 im2 ic2, .slice ta2 tn2 tc2] 26)).cell? ⟨w.heap.size + 1 + 1, 0, none⟩ = some (.int .u8 0) := HC4.out.cell 0; have q1 : (w3.alloc (.cells #[.int .u8 kd', .bool ng', .slice la' ln' lc', .string tx', .int .i64 nm', .slice ia' im' ic', .slice ta' tn' tc', .int .u8 kd2, .bool ng2, .slice la2 ln2 lc2, .string tx2, .int .i64 nm2, .slice ia2 im2 ic2, .slice ta2 tn2 tc2] 26)).cell? ⟨w.heap.size + 1 + 1, 1, none⟩ = some (.bool false) := HC4.out.cell 1; have q2 : (w3.alloc (.cells #[.int .u8 kd', .bool ng', .slice la' ln' lc', .string tx', .int .i64 nm', .slice ia' im' ic', .slice ta' tn' tc', .int .u8 kd2, .bool ng2, .slice la2 ln2 lc2, .string tx2, .int .i64 nm2, .slice ia2 im2 ic2, .slice ta2 tn2 tc2] 26)).cell? ⟨w.heap.size + 1 + 1, 2, none⟩ = some (.slice none 0 0) := HC4.out.cell 2; have q3 : (w3.alloc (.cells #[.int .u8 kd', .bool ng', .slice la' ln' lc', .string tx', .int .i64 nm', .slice ia' im' ic', .slice ta' tn' tc', .int .u8 kd2, .bool ng2, .slice la2 ln2 lc2, .string tx2, .int .i64 nm2, .slice ia2 im2 ic2, .slice ta2 tn2 tc2] 26)).cell? ⟨w.heap.size + 1 + 1, 3, none⟩ = some (.string ⟨#[]⟩) := HC4.out.cell 3; have q4 : (w3.alloc (.cells #[.int .u8 kd', .bool ng', .slice la' ln' lc', .string tx', .int .i64 nm', .slice ia' im' ic', .slice ta' tn' tc', .int .u8 kd2, .bool ng2, .slice la2 ln2 lc2, .string tx2, .int .i64 nm2, .slice ia2 im2 ic2, .slice ta2 tn2 tc2] 26)).cell? ⟨w.heap.size + 1 + 1, 4, none⟩ = some (.int .i64 0) := HC4.out.cell 4; have q5 : (w3.alloc (.cells #[.int .u8 kd', .bool ng', .slice la' ln' lc', .string tx', .int .i64 nm', .slice ia' im' ic', .slice ta' tn' tc', .int .u8 kd2, .bool ng2, .slice la2 ln2 lc2, .string tx2, .int .i64 nm2, .slice ia2 im2 ic2, .slice ta2 tn2 tc2] 26)).cell? ⟨w.heap.size + 1 + 1, 5, none⟩ = some (.slice none 0 0) := HC4.out.cell 5; have q6 : (w3.alloc (.cells #[.int .u8 kd', .bool ng', .slice la' ln' lc', .string tx', .int .i64 nm', .slice ia' im' ic', .slice ta' tn' tc', .int .u8 kd2, .bool ng2, .slice la2 ln2 lc2, .string tx2, .int .i64 nm2, .slice ia2 im2 ic2, .slice ta2 tn2 tc2] 26)).cell? ⟨w.heap.size + 1 + 1, 6, none⟩ = some (.slice none 0 0) := HC4.out.cell 6
  obtain ⟨f0, f1, f2, f3, f4, f5, f6⟩ := Blk.f7 (w := (w3.alloc (.cells #[.int .u8 kd', .bool ng', .slice la' ln' lc', .string tx', .int .i64 nm', .slice ia' im' ic', .slice ta' tn' tc', .int .u8 kd2, .bool ng2, .slice la2 ln2 lc2, .string tx2, .int .i64 nm2, .slice ia2 im2 ic2, .slice ta2 tn2 tc2] 26))) (g := w.heap.size + 1 + 1) HC4.out
  go_wp2_with fail
  have HK4 := hide (HK.out.alloc (.cells #[.int .u8 kd', .bool ng', .slice la' ln' lc', .string tx', .int .i64 nm', .slice ia' im' ic', .slice ta' tn' tc', .int .u8 kd2, .bool ng2, .slice la2 ln2 lc2, .string tx2, .int .i64 nm2, .slice ia2 im2 ic2, .slice ta2 tn2 tc2] 26))
  have hlt := HC.out.lt
  clear t0 u0 q0 f0 t1 u1 q1 f1 t2 u2 q2 f2 t3 u3 q3 f3 t4 u4 q4 f4 t5 u5 q5 f5 t6 u6 q6 f6
  generalize w3.alloc (.cells #[.int .u8 kd', .bool ng', .slice la' ln' lc', .string tx', .int .i64 nm', .slice ia' im' ic', .slice ta' tn' tc', .int .u8 kd2, .bool ng2, .slice la2 ln2 lc2, .string tx2, .int .i64 nm2, .slice ia2 im2 ic2, .slice ta2 tn2 tc2] 26) = w4 at *
  obtain ⟨g, hg⟩ : ∃ g, w3.heap.size = g := ⟨_, rfl⟩
  rw [hg] at HD
  simp only [hg]
  have hA := HC4.out.tput7 (.int .u8 6) (.bool false) (.slice none 0 0) (.string ⟨#[]⟩) (.int .i64 0) (.slice (some ⟨g, 0, none⟩) 2 2) (.slice none 0 0)
  have hk := keeps_tput7 w4 (w.heap.size + 1 + 1) (.int .u8 6) (.bool false) (.slice none 0 0) (.string ⟨#[]⟩) (.int .i64 0) (.slice (some ⟨g, 0, none⟩) 2 2) (.slice none 0 0)
  refine bodyPost_ret (results7 Tryz.f19 4 (by kernel_rfl) _ _ _ _ _ _ _ _ _ _ rfl hA) rfl ?_
  have hne : ¬ g = w.heap.size + 1 + 1 := by omega
  refine ⟨g, rfl, ?_, HK4.out.trans' hk (fun _ _ => id) (fun k hk e => by omega)⟩
  have hr := (two_tm_reads (xs := [.int .u8 kd', .bool ng', .slice la' ln' lc', .string tx', .int .i64 nm', .slice ia' im' ic', .slice ta' tn' tc']) (ys := [.int .u8 kd2, .bool ng2, .slice la2 ln2 lc2, .string tx2, .int .i64 nm2, .slice ia2 im2 ic2, .slice ta2 tn2 tc2]) HD.out rfl rfl).keep hk (fun k e e2 => hne (e.symm.trans e2))
  have h2 := two_tm_terms (TermIn.keep hk (fun k (h : k < w.heap.size) e => by omega) _ _ (TermIn.keep HK4.out (fun _ _ => id) _ _ HT.out)) (TermIn.keep hk (fun k (h : k < w.heap.size) e => by omega) _ _ (TermIn.keep HK4.out (fun _ _ => id) _ _ HU.out))
  exact copy_mid (la := none) (ln := 0) (lc := 0) (limbs := []) 6 false ⟨#[]⟩ 0 ⟨RoomC.zero _, ⟨by unfold Roomy; omega, Nat.le_refl _, by unfold maxLen; omega⟩, RoomC.zero _⟩ (Reads.zero _ _ _ _ _) (hr.more (fun _ _ _ => trivial)) (TermsIn.more (fun _ _ _ => trivial) _ _ h2) (dss := []) (Reads.zero _ _ _ _ _) (by unfold TermsIn; trivial)
end Go.Proofs.YtjdbjjjbgibpaaaGreatDoor
