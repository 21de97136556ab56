/- law11.awake. Printed by mkmatawk.py. -/
import Derived.Test.YtjdbjjjbgibpaaaGreatDoorMatConsJn
namespace Go.Proofs.YtjdbjjjbgibpaaaGreatDoor
open Go.RowKit

def bindC : Co := .mk 21 ⟨#[]⟩ 0 zeroTm []
def sameC : Co := .mk 22 ⟨#[]⟩ 0 zeroTm []
def patC2 : Co := .mk 24 ⟨#[]⟩ 0 zeroTm [bindC, sameC]
def aT : Tm := flatT 2 ⟨#[97]⟩ 0
def bT : Tm := flatT 2 ⟨#[98]⟩ 0
def pairT (t u : Tm) : Tm := .mk 6 false [] ByteArray.empty 0 [t, u] []
theorem leaf_in {w : World} (k n : Int) : CoreIn w TT false [.int .u8 k, .string ⟨#[]⟩, .int .i64 n, .int .u8 0, .bool false, .slice none 0 0, .string ⟨#[]⟩, .int .i64 0, .slice none 0 0, .slice none 0 0, .slice none 0 0] (.mk k ⟨#[]⟩ n zeroTm []) := by
  unfold CoreIn
  exact ⟨[.int .u8 0, .bool false, .slice none 0 0, .string ⟨#[]⟩, .int .i64 0, .slice none 0 0, .slice none 0 0], none, 0, 0, [], rfl, flat_in w TT false 0 ByteArray.empty 0, by unfold Roomy; omega, Reads.zero _ _ _ _ _, by unfold CoresIn; trivial⟩
theorem patC2_ok : okC patC2 := core_ok 24 0 _ (by omega) (by omega) (cores_ok_two (core_ok 21 0 _ (by omega) (by omega) cores_ok_nil) (core_ok 22 0 _ (by omega) (by omega) cores_ok_nil))
theorem flatT_ok2 (s : ByteArray) (h : s.size ≤ 140737488355328) : okT (flatT 2 s 0) := by
  unfold flatT okT; exact ⟨by omega, (fun _ h => by cases h), h, by omega, by unfold okTs; trivial, by unfold okTs; trivial⟩
theorem pairT_ok {t u : Tm} (ht : okT t) (hu : okT u) : okT (pairT t u) := by
  unfold pairT okT
  exact ⟨by omega, (fun _ h => by cases h), by show (0 : Nat) ≤ _; omega, by omega, by unfold okTs okTs okTs; exact ⟨ht, hu, trivial⟩, by unfold okTs; trivial⟩
theorem const_in (w : World) (k : Int) (s : ByteArray) : CoreIn w TT false [.int .u8 1, .string ⟨#[]⟩, .int .i64 0, .int .u8 k, .bool false, .slice none 0 0, .string s, .int .i64 0, .slice none 0 0, .slice none 0 0, .slice none 0 0] (.mk 1 ⟨#[]⟩ 0 (flatT k s 0) []) := by
  unfold CoreIn
  exact ⟨[.int .u8 k, .bool false, .slice none 0 0, .string s, .int .i64 0, .slice none 0 0, .slice none 0 0], none, 0, 0, [], rfl, flat_in w TT false k s 0, by unfold Roomy; omega, Reads.zero _ _ _ _ _, by unfold CoresIn; trivial⟩
theorem nil_right : rightT nilT = true := by kernel_rfl
theorem nil_split : splitT nilT = none := by kernel_rfl
theorem true_ok : okT trueT := flatT_ok2 _ (by decide)
theorem true_same : sameT trueT trueT = true := by kernel_rfl
theorem true_right : rightT trueT = true := by kernel_rfl
theorem nil_const {N n c m d : Nat} {w : World} {A D : Option Addr} (hN : N ≤ w.heap.size) : GuardV N w A n c D m d (.mk 1 ⟨#[]⟩ 0 nilT []) nilT true := by
  have h := gv_const (A := A) (n := n) (c := c) (D := D) (m := m) (d := d) hN ⟨#[]⟩ 0 nilT []
  rw [nil_right] at h; exact h
theorem true_const {N n c m d : Nat} {w : World} {A D : Option Addr} (hN : N ≤ w.heap.size) : GuardV N w A n c D m d (.mk 1 ⟨#[]⟩ 0 trueT []) trueT true := by
  have h := gv_const (A := A) (n := n) (c := c) (D := D) (m := m) (d := d) hN ⟨#[]⟩ 0 trueT []
  rw [true_right] at h; exact h
theorem same_aa : sameT aT aT = true := by kernel_rfl
theorem same_ab : sameT aT bT = false := by kernel_rfl
theorem right_aa : rightT (pairT aT aT) = true := by kernel_rfl
theorem match_aa : matchF patC2 (pairT aT aT) (newV 1) = some ⟨[true], [aT]⟩ := by
  unfold matchF
  rw [if_pos ⟨right_aa, rfl⟩]
  unfold patC2 matchN
  rw [if_neg (by decide), if_neg (by decide), if_neg (by decide), if_neg (by decide), if_pos rfl, if_pos (show (pairT aT aT).kind = 6 from rfl)]
  show rowsN [bindC, sameC] [aT, aT] (newV 1) = _
  rw [two_rows]
  have h1 : matchN bindC aT (newV 1) = some ⟨[true], [aT]⟩ := by unfold bindC matchN; rw [if_neg (by decide), if_pos rfl, if_neg (by unfold newV; decide)]; rfl
  rw [h1, Option.bind_some]
  unfold sameC matchN
  rw [if_neg (by decide), if_neg (by decide), if_pos rfl]
  show (if sameT aT aT = true then _ else _) = _
  rw [same_aa]
  rfl
theorem match_ab : matchF patC2 (pairT aT bT) (newV 1) = none := by
  unfold matchF
  split
  · unfold patC2 matchN
    rw [if_neg (by decide), if_neg (by decide), if_neg (by decide), if_neg (by decide), if_pos rfl, if_pos (show (pairT aT bT).kind = 6 from rfl)]
    show rowsN [bindC, sameC] [aT, bT] (newV 1) = _
    rw [two_rows]
    have h1 : matchN bindC aT (newV 1) = some ⟨[true], [aT]⟩ := by unfold bindC matchN; rw [if_neg (by decide), if_pos rfl, if_neg (by unfold newV; decide)]; rfl
    rw [h1, Option.bind_some]
    unfold sameC matchN
    rw [if_neg (by decide), if_neg (by decide), if_pos rfl]
    show (if sameT aT bT = true then _ else _) = _
    rw [same_ab]
    rfl
  · rfl
set_option maxRecDepth 100000 in
set_option maxHeartbeats 4000000 in
theorem awake_any (w : World) (hL : LaidK w) (hK : KindsAt w) : Calls Tryz.prog 5 #[] w fun e w' => e = .returned (.bool true) ∧ Keeps NoB w w' := by
  have HL := hide hL; have HKA := hide hK
  clear hL hK
  go_enter Tryz.func5, Tryz.ntmps5
  go_upto_region 2 with
    first
    | (go_at_call 16
       refine (num_core 21 0 _).mono ?_
       rintro e w1 ⟨rfl, hk1⟩
       have HK1 := hide hk1
       clear hk1)
    | (go_at_call 16
       refine (num_core 22 0 _).mono ?_
       rintro e w2 ⟨rfl, hk2⟩
       have HK2 := hide ((HK1.out.trans' hk2 (fun _ _ => id) (fun _ _ => id) : Keeps NoB w w2).alloc (.cells #[.int .u8 21, .string ⟨#[]⟩, .int .i64 0, .int .u8 0, .bool false, .slice none 0 0, .string ⟨#[]⟩, .int .i64 0, .slice none 0 0, .slice none 0 0, .slice none 0 0, .int .u8 22, .string ⟨#[]⟩, .int .i64 0, .int .u8 0, .bool false, .slice none 0 0, .string ⟨#[]⟩, .int .i64 0, .slice none 0 0, .slice none 0 0, .slice none 0 0] 34))
       have HS2 := hide (cores_two (Blk.new w2 34 #[.int .u8 21, .string ⟨#[]⟩, .int .i64 0, .int .u8 0, .bool false, .slice none 0 0, .string ⟨#[]⟩, .int .i64 0, .slice none 0 0, .slice none 0 0, .slice none 0 0, .int .u8 22, .string ⟨#[]⟩, .int .i64 0, .int .u8 0, .bool false, .slice none 0 0, .string ⟨#[]⟩, .int .i64 0, .slice none 0 0, .slice none 0 0, .slice none 0 0]) (xs := [.int .u8 21, .string ⟨#[]⟩, .int .i64 0, .int .u8 0, .bool false, .slice none 0 0, .string ⟨#[]⟩, .int .i64 0, .slice none 0 0, .slice none 0 0, .slice none 0 0]) (ys := [.int .u8 22, .string ⟨#[]⟩, .int .i64 0, .int .u8 0, .bool false, .slice none 0 0, .string ⟨#[]⟩, .int .i64 0, .slice none 0 0, .slice none 0 0, .slice none 0 0]) (p := bindC) (q := sameC) (leaf_in 21 0) (leaf_in 22 0))
       clear hk2 HK1)
    | (go_at_call 15
       refine (of_core 24 (some ⟨w2.heap.size, 0, none⟩) 2 2 _).mono ?_
       rintro e w3 ⟨rfl, hk3⟩
       have HK3 := hide ((HK2.out.trans' hk3 (fun _ _ => id) (fun _ _ => id) : Keeps NoB w w3).alloc (.cells #[.int .u8 24, .string ⟨#[]⟩, .int .i64 0, .int .u8 0, .bool false, .slice none 0 0, .string ⟨#[]⟩, .int .i64 0, .slice none 0 0, .slice none 0 0, .slice (some ⟨w2.heap.size, 0, none⟩) 2 2] 34))
       have HP3 := hide ((CoreV _).keep _ _ _ ((Keeps.refl NoB w3).alloc (.cells #[.int .u8 24, .string ⟨#[]⟩, .int .i64 0, .int .u8 0, .bool false, .slice none 0 0, .string ⟨#[]⟩, .int .i64 0, .slice none 0 0, .slice none 0 0, .slice (some ⟨w2.heap.size, 0, none⟩) 2 2] 34)) (core_kids 24 ⟨#[]⟩ 0 ((CoresV _).keep _ _ _ hk3 HS2.out)))
       have HB3 := hide (Blk.new w3 34 #[.int .u8 24, .string ⟨#[]⟩, .int .i64 0, .int .u8 0, .bool false, .slice none 0 0, .string ⟨#[]⟩, .int .i64 0, .slice none 0 0, .slice none 0 0, .slice (some ⟨w2.heap.size, 0, none⟩) 2 2])
       clear hk3 HS2 HK2)
    | fail
  generalize w2.heap.size = g0 at *
  generalize w3.alloc (.cells #[.int .u8 24, .string ⟨#[]⟩, .int .i64 0, .int .u8 0, .bool false, .slice none 0 0, .string ⟨#[]⟩, .int .i64 0, .slice none 0 0, .slice none 0 0, .slice (some ⟨g0, 0, none⟩) 2 2] 34) = w4 at *
  generalize w3.heap.size = g1 at *
  have HBX := hide (show Blk w4.drew g1 34 #[.int .u8 24, .string ⟨#[]⟩, .int .i64 0, .int .u8 0, .bool false, .slice none 0 0, .string ⟨#[]⟩, .int .i64 0, .slice none 0 0, .slice none 0 0, .slice (some ⟨g0, 0, none⟩) 2 2] from HB3.out); have HPX := hide ((CoreV _).keep _ _ _ ((Keeps.refl NoB w4).drew) HP3.out)
  refine order_store 10 9 (fun i => i == 8 || i == 11) [KF.eq (.agg #[.int .u8 24, .string ⟨#[]⟩, .int .i64 0, .int .u8 0, .bool false, .slice none 0 0, .string ⟨#[]⟩, .int .i64 0, .slice none 0 0, .slice none 0 0, .slice (some ⟨g0, 0, none⟩) 2 2]), KF.eq (.agg #[.int .u8 2, .bool false, .slice none 0 0, .string ⟨#[97]⟩, .int .i64 0, .slice none 0 0, .slice none 0 0]), KF.eq (.agg #[.int .u8 2, .bool false, .slice none 0 0, .string ⟨#[97]⟩, .int .i64 0, .slice none 0 0, .slice none 0 0]), TermV (pairT aT aT), VarsV (newV 1), MatchV (matchF patC2 (pairT aT aT) (newV 1)), MatchV (matchF patC2 (pairT aT aT) (newV 1)), VarsV ((matchF patC2 (pairT aT aT) (newV 1)).getD noV), KF.any, AllocV w4.drew.heap.size, KF.any, KF.any] [(fun _ => True), (fun _ => True), (fun _ => True), (fun _ => True), (fun _ => True), TupG (matchF patC2 (pairT aT aT) (newV 1)), TupG (matchF patC2 (pairT aT aT) (newV 1)), (fun _ => True), (· = .bool (matchF patC2 (pairT aT aT) (newV 1)).isSome), (fun _ => True), (fun _ => True), (· = .bool (matchF patC2 (pairT aT aT) (newV 1)).isSome)] (StoredV w4.drew ((matchF patC2 (pairT aT aT) (newV 1)).getD noV)) (fun xs => { tmps := #[.bool false, .pointer (some ⟨g1, 0, none⟩), xs 9, xs 11, undef, undef, undef, undef, undef, undef, .agg #[.int .u8 21, .string ⟨#[]⟩, .int .i64 0, .int .u8 0, .bool false, .slice none 0 0, .string ⟨#[]⟩, .int .i64 0, .slice none 0 0, .slice none 0 0, .slice none 0 0], .agg #[.int .u8 22, .string ⟨#[]⟩, .int .i64 0, .int .u8 0, .bool false, .slice none 0 0, .string ⟨#[]⟩, .int .i64 0, .slice none 0 0, .slice none 0 0, .slice none 0 0], .slice (some ⟨g0, 0, none⟩) 2 2, .agg #[.int .u8 24, .string ⟨#[]⟩, .int .i64 0, .int .u8 0, .bool false, .slice none 0 0, .string ⟨#[]⟩, .int .i64 0, .slice none 0 0, .slice none 0 0, .slice (some ⟨g0, 0, none⟩) 2 2], xs 6, xs 0, xs 1, xs 2, xs 3, xs 4, xs 5, xs 7, xs 8, undef, undef, undef, undef, undef, undef, undef, undef, undef, undef, undef, undef, undef, undef, undef, undef, undef, undef, undef, undef, undef, undef, undef, undef, undef, undef, undef, undef, undef, undef, undef, undef, undef, undef, undef, undef, undef, undef, undef, undef, undef, undef, undef, undef, undef, undef, undef, undef, undef, undef, undef, undef, undef, undef, undef, undef, undef, undef, undef, undef, undef, undef, undef, undef, undef, undef, undef, undef, undef, undef, undef, undef], defers := [] }) (fun _ => undef) (by kernel_rfl) (by kernel_rfl) (by kernel_rfl) (by kernel_rfl) rfl ?_ ?_ ?_ ?_
  · intro d xs wx i oi hoi his hds hdi hk hx hg hdep K hK
    have hi : i < 12 := by have h := (Array.getElem?_eq_some_iff.1 hoi).1; simpa using h
    have hcases : i = 0 ∨ i = 1 ∨ i = 2 ∨ i = 3 ∨ i = 4 ∨ i = 5 ∨ i = 6 ∨ i = 7 ∨ i = 8 ∨ i = 9 ∨ i = 11 := by omega
    have HX := hide hx; have HG := hide hg; have HKX := hide hk; have HDS := hide hds
    clear hx hg hk hds hdi his hi
    rcases hcases with rfl | rfl | rfl | rfl | rfl | rfl | rfl | rfl | rfl | rfl | rfl
    · simp at hoi
      subst hoi
      simp [Region.binds] at hdep
      have hB := HBX.out.keep HKX.out id
      have c0 := hB.cell 0; have c1 := hB.cell 1; have c2 := hB.cell 2; have c3 := hB.cell 3; have c4 := hB.cell 4; have c5 := hB.cell 5; have c6 := hB.cell 6; have c7 := hB.cell 7; have c8 := hB.cell 8; have c9 := hB.cell 9; have c10 := hB.cell 10
      clear hB
      go_simp
      exact hK _ _ (Keeps.refl _ _) rfl trivial
    · simp at hoi
      subst hoi
      simp [Region.binds] at hdep
      go_simp
      refine (law_atom ⟨#[97]⟩ _).mono ?_
      rintro e w' ⟨rfl, hk'⟩
      exact hK _ w' hk' rfl trivial
    · simp at hoi
      subst hoi
      simp [Region.binds] at hdep
      go_simp
      refine (law_atom ⟨#[97]⟩ _).mono ?_
      rintro e w' ⟨rfl, hk'⟩
      exact hK _ w' hk' rfl trivial
    · simp at hoi
      subst hoi
      simp [Region.binds] at hdep
      have e1 : xs 1 = .agg #[.int .u8 2, .bool false, .slice none 0 0, .string ⟨#[97]⟩, .int .i64 0, .slice none 0 0, .slice none 0 0] := (HX.out 1 (by decide) (by simp [hdep]))
      have e2 : xs 2 = .agg #[.int .u8 2, .bool false, .slice none 0 0, .string ⟨#[97]⟩, .int .i64 0, .slice none 0 0, .slice none 0 0] := (HX.out 2 (by decide) (by simp [hdep]))
      rw [e1, e2]
      go_simp
      refine (pair_any aT aT _ _ _ _ _ _ _ _ _ _ _ _ _ _ _ _ _ _ _ _ _ _ _ _ _ _ wx (flat_in _ _ _ _ _ _) (flat_in _ _ _ _ _ _)).mono ?_
      rintro e w' ⟨g, rfl, ht, hk'⟩
      have hI := hK _ w' hk' ⟨_, _, _, _, _, _, _, _, _, _, _, _, _, rfl, ht⟩ trivial
      simp only [updX, Nat.reduceEqDiff, reduceIte] at hI
      rw [e1, e2] at hI
      exact hI
    · simp at hoi
      subst hoi
      simp [Region.binds] at hdep
      go_simp
      refine (new_vars 1 (by omega) wx).mono ?_
      rintro e w' ⟨A, c, D, d1, css, rfl, hv, _, hk'⟩
      exact hK _ w' hk' ⟨_, _, _, _, _, _, _, rfl, hv.read, newV_ok 1, newV_made 1⟩ trivial
    · simp at hoi
      subst hoi
      simp [Region.binds] at hdep
      have e0 : xs 0 = .agg #[.int .u8 24, .string ⟨#[]⟩, .int .i64 0, .int .u8 0, .bool false, .slice none 0 0, .string ⟨#[]⟩, .int .i64 0, .slice none 0 0, .slice none 0 0, .slice (some ⟨g0, 0, none⟩) 2 2] := (HX.out 0 (by decide) (by simp [hdep]))
      have hP0 : CoreIn wx TT false [.int .u8 24, .string ⟨#[]⟩, .int .i64 0, .int .u8 0, .bool false, .slice none 0 0, .string ⟨#[]⟩, .int .i64 0, .slice none 0 0, .slice none 0 0, .slice (some ⟨g0, 0, none⟩) 2 2] patC2 := by
        obtain ⟨ck9, cx9, cn9, tk9, cg9, ca9, cl9, cc9, tt9, tz9, ja9, jm9, jc9, ua9, um9, uc9, ka9, kn9, kc9, e9, h9⟩ := (CoreV _).keep _ _ _ HKX.out HPX.out
        injection e9 with e9
        simp only [Array.mk.injEq, List.cons.injEq, Value.int.injEq, Value.bool.injEq, Value.slice.injEq, Value.string.injEq, true_and, and_true] at e9
        obtain ⟨rfl, rfl, rfl, rfl, rfl, ⟨rfl, rfl, rfl⟩, rfl, rfl, ⟨rfl, rfl, rfl⟩, ⟨rfl, rfl, rfl⟩, rfl, rfl, rfl⟩ := e9
        exact h9
      obtain ⟨kd3, ng3, la3, ln3, lc3, tx3, nm3, ia3, im3, ic3, ta3, tn3, tc3, e3, h3⟩ := (show (TermV (pairT aT aT)).say wx (xs 3) from (HX.out 3 (by decide) (by simp [hdep])))
      obtain ⟨A4, n4, c4, D4, m4, d4, css4, e4, h4, o4, m4'⟩ := (show (VarsV (newV 1)).say wx (xs 4) from (HX.out 4 (by decide) (by simp [hdep])))
      rw [e0, e3, e4]
      go_simp
      refine (match_top _ _ _ _ _ _ _ _ _ _ wx TT _ _ _ _ _ _ _ _ _ _ _ _ _ _ _ _ _ _ _ _ _ _ _ _ _ _ _ _ _ _ _ _ h4 o4 (pairT_ok (flatT_ok2 _ (by decide)) (flatT_ok2 _ (by decide))) patC2_ok hP0 h3).mono ?_
      rintro e w' ⟨A5, n5, c5, D5, m5, d5, css5, rfl, hv5, ho5, hm5, hk5⟩
      have hI := hK _ w' hk5 ⟨A5, n5, c5, D5, m5, d5, css5, rfl, hv5, ho5, hm5⟩ ⟨_, rfl⟩
      simp only [updX, Nat.reduceEqDiff, reduceIte] at hI
      rw [e0, e3, e4] at hI
      exact hI
    · simp at hoi
      subst hoi
      simp [Region.binds] at hdep
      have hm := (HX.out 5 (by decide) (by simp [hdep]))
      obtain ⟨x, e1⟩ := (show TupG (matchF patC2 (pairT aT aT) (newV 1)) (xs 5) from HG.out 5 (by decide) (by simp [hdep]))
      rw [e1]
      go_simp
      have hI := hK (xs 5) wx (Keeps.refl _ _) hm ⟨x, e1⟩
      simp only [updX, Nat.reduceEqDiff, reduceIte] at hI
      rw [e1] at hI
      exact hI
    · simp at hoi
      subst hoi
      simp [Region.binds] at hdep
      obtain ⟨A5, n5, c5, D5, m5, d5, css5, e1, hv5, ho5, hm5⟩ := (show (MatchV (matchF patC2 (pairT aT aT) (newV 1))).say wx (xs 6) from (HX.out 6 (by decide) (by simp [hdep])))
      rw [e1]
      go_simp
      have hI := hK _ wx (Keeps.refl _ _) ⟨A5, n5, c5, D5, m5, d5, css5, rfl, hv5, ho5, hm5⟩ trivial
      simp only [updX, Nat.reduceEqDiff, reduceIte] at hI
      rw [e1] at hI
      exact hI
    · simp at hoi
      subst hoi
      simp [Region.binds] at hdep
      obtain ⟨x, e1⟩ := (show TupG (matchF patC2 (pairT aT aT) (newV 1)) (xs 6) from HG.out 6 (by decide) (by simp [hdep]))
      rw [e1]
      go_simp
      have hI := hK _ wx (Keeps.refl _ _) trivial rfl
      simp only [updX, Nat.reduceEqDiff, reduceIte] at hI
      rw [e1] at hI
      exact hI
    · simp at hoi
      subst hoi
      simp [Region.binds] at hdep
      go_simp
      exact hK _ _ ((Keeps.refl NoB wx).alloc _) ⟨wx.heap.size, rfl, HKX.out.size, Blk.new wx 39 _⟩ trivial
    · simp at hoi
      subst hoi
      simp [Region.binds] at hdep
      exact absurd HDS.out (by simp [hdep])
  · intro d xs wx i oi hoi hli his hg hdep K hK
    have hcases : i = 8 ∨ i = 11 := by simpa using hli
    have HG := hide hg
    clear hg his hli
    rcases hcases with rfl | rfl
    · simp at hoi
      subst hoi
      simp [Region.binds] at hdep
      obtain ⟨x, e1⟩ := (show TupG (matchF patC2 (pairT aT aT) (newV 1)) (xs 6) from HG.out 6 (by decide) (by simp [hdep]))
      rw [e1]
      go_simp
      have hI := hK _ rfl
      simp only [updX, Nat.reduceEqDiff, reduceIte] at hI
      rw [e1] at hI
      exact hI
    · simp at hoi
      subst hoi
      simp [Region.binds] at hdep
      have e1 : xs 8 = .bool (matchF patC2 (pairT aT aT) (newV 1)).isSome := HG.out 8 (by decide) (by simp [hdep])
      rw [e1]
      go_simp
      have hI := hK _ rfl
      simp only [updX, Nat.reduceEqDiff, reduceIte] at hI
      rw [e1] at hI
      exact hI
  · intro d xs wx oi hoi hk hx hg hdep K hK
    have HX := hide hx; have HKX := hide hk
    clear hx hk hg
    simp at hoi
    subst hoi
    simp [Region.binds] at hdep
    obtain ⟨b, e9, hN, hb⟩ := (show (AllocV w4.drew.heap.size).say wx (xs 9) from (HX.out 9 (by decide) (by simp [hdep])))
    obtain ⟨A7, n7, c7, D7, m7, d7, css7, e7, hv7, ho7, hm7⟩ := (show (VarsV ((matchF patC2 (pairT aT aT) (newV 1)).getD noV)).say wx (xs 7) from (HX.out 7 (by decide) (by simp [hdep])))
    have z0 := hb.free 0; have z1 := hb.free 1
    have v0' := hb.cell 0; have v1' := hb.cell 1
    have hI := hK _ (by rw [e9]; exact stored_vars HKX.out hb hN hv7 ho7 hm7)
    simp only at hI
    rw [e7, e9] at hI ⊢
    clear hb hv7 ho7 hm7 hK
    go_simp
    exact hI
  · intro xs2 wx2 hG2 hH2
    obtain ⟨b2, e2, hN2, hk2, A2, n2, c2, D2, m2, d2, css2, hB2, hV2, ho2, hm2⟩ := hH2
    have e2' : xs2 11 = .bool true := (show xs2 11 = .bool (matchF patC2 (pairT aT aT) (newV 1)).isSome from hG2 11 (by decide) (by decide)).trans (by rw [match_aa]; rfl)
    rw [match_aa] at hV2 ho2 hm2
    have HB4 := hide (HB3.out.keep ((Keeps.refl NoB w4).drew.trans' hk2 (fun _ _ => id) (fun _ _ => id) : Keeps NoB w4 wx2) id)
    have HP4 := hide ((CoreV _).keep _ _ _ ((Keeps.refl NoB w4).drew.trans' hk2 (fun _ _ => id) (fun _ _ => id) : Keeps NoB w4 wx2) HP3.out)
    have HK4 := hide ((HK3.out.drew.trans' hk2 (fun _ _ => id) (fun _ _ => id)) : Keeps NoB w wx2)
    have HBV2 := hide hB2; have HVV2 := hide hV2
    clear hG2 hB2 hV2 ho2 hm2 hk2 hN2 HB3 HP3 HK3 HBX HPX
    dsimp only
    rw [e2, e2']
    clear e2 e2'
    go_upto_region 3 with fail
    have HBX := hide (show Blk wx2.drew g1 34 #[.int .u8 24, .string ⟨#[]⟩, .int .i64 0, .int .u8 0, .bool false, .slice none 0 0, .string ⟨#[]⟩, .int .i64 0, .slice none 0 0, .slice none 0 0, .slice (some ⟨g0, 0, none⟩) 2 2] from HB4.out); have HPX := hide ((CoreV _).keep _ _ _ ((Keeps.refl NoB wx2).drew) HP4.out)
    refine order_store 10 9 (fun i => i == 8 || i == 11) [KF.eq (.agg #[.int .u8 24, .string ⟨#[]⟩, .int .i64 0, .int .u8 0, .bool false, .slice none 0 0, .string ⟨#[]⟩, .int .i64 0, .slice none 0 0, .slice none 0 0, .slice (some ⟨g0, 0, none⟩) 2 2]), KF.eq (.agg #[.int .u8 2, .bool false, .slice none 0 0, .string ⟨#[97]⟩, .int .i64 0, .slice none 0 0, .slice none 0 0]), KF.eq (.agg #[.int .u8 2, .bool false, .slice none 0 0, .string ⟨#[98]⟩, .int .i64 0, .slice none 0 0, .slice none 0 0]), TermV (pairT aT bT), VarsV (newV 1), MatchV (matchF patC2 (pairT aT bT) (newV 1)), MatchV (matchF patC2 (pairT aT bT) (newV 1)), VarsV ((matchF patC2 (pairT aT bT) (newV 1)).getD noV), KF.any, AllocV wx2.drew.heap.size, KF.any, KF.any] [(fun _ => True), (fun _ => True), (fun _ => True), (fun _ => True), (fun _ => True), TupG (matchF patC2 (pairT aT bT) (newV 1)), TupG (matchF patC2 (pairT aT bT) (newV 1)), (fun _ => True), (· = .bool (matchF patC2 (pairT aT bT) (newV 1)).isSome), (fun _ => True), (fun _ => True), (· = .bool (matchF patC2 (pairT aT bT) (newV 1)).isSome)] (StoredV wx2.drew ((matchF patC2 (pairT aT bT) (newV 1)).getD noV)) (fun xs => { tmps := #[.bool false, .pointer (some ⟨g1, 0, none⟩), .pointer (some ⟨b2, 0, none⟩), .bool true, xs 9, xs 11, undef, undef, undef, undef, .agg #[.int .u8 21, .string ⟨#[]⟩, .int .i64 0, .int .u8 0, .bool false, .slice none 0 0, .string ⟨#[]⟩, .int .i64 0, .slice none 0 0, .slice none 0 0, .slice none 0 0], .agg #[.int .u8 22, .string ⟨#[]⟩, .int .i64 0, .int .u8 0, .bool false, .slice none 0 0, .string ⟨#[]⟩, .int .i64 0, .slice none 0 0, .slice none 0 0, .slice none 0 0], .slice (some ⟨g0, 0, none⟩) 2 2, .agg #[.int .u8 24, .string ⟨#[]⟩, .int .i64 0, .int .u8 0, .bool false, .slice none 0 0, .string ⟨#[]⟩, .int .i64 0, .slice none 0 0, .slice none 0 0, .slice (some ⟨g0, 0, none⟩) 2 2], xs2 6, xs2 0, xs2 1, xs2 2, xs2 3, xs2 4, xs2 5, xs2 7, xs2 8, xs 6, xs 0, xs 1, xs 2, xs 3, xs 4, xs 5, xs 7, xs 8, undef, undef, undef, undef, undef, undef, undef, undef, undef, undef, undef, undef, undef, undef, undef, undef, undef, undef, undef, undef, undef, undef, undef, undef, undef, undef, undef, undef, undef, undef, undef, undef, undef, undef, undef, undef, undef, undef, undef, undef, undef, undef, undef, undef, undef, undef, undef, undef, undef, undef, undef, undef, undef, undef, undef, undef, undef, undef, undef, undef, undef, undef, undef], defers := [] }) (fun _ => undef) (by kernel_rfl) (by kernel_rfl) (by kernel_rfl) (by kernel_rfl) rfl ?_ ?_ ?_ ?_
    · intro d xs wx i oi hoi his hds hdi hk hx hg hdep K hK
      have hi : i < 12 := by have h := (Array.getElem?_eq_some_iff.1 hoi).1; simpa using h
      have hcases : i = 0 ∨ i = 1 ∨ i = 2 ∨ i = 3 ∨ i = 4 ∨ i = 5 ∨ i = 6 ∨ i = 7 ∨ i = 8 ∨ i = 9 ∨ i = 11 := by omega
      have HX := hide hx; have HG := hide hg; have HKX := hide hk; have HDS := hide hds
      clear hx hg hk hds hdi his hi
      rcases hcases with rfl | rfl | rfl | rfl | rfl | rfl | rfl | rfl | rfl | rfl | rfl
      · simp at hoi
        subst hoi
        simp [Region.binds] at hdep
        have hB := HBX.out.keep HKX.out id
        have c0 := hB.cell 0; have c1 := hB.cell 1; have c2 := hB.cell 2; have c3 := hB.cell 3; have c4 := hB.cell 4; have c5 := hB.cell 5; have c6 := hB.cell 6; have c7 := hB.cell 7; have c8 := hB.cell 8; have c9 := hB.cell 9; have c10 := hB.cell 10
        clear hB
        go_simp
        exact hK _ _ (Keeps.refl _ _) rfl trivial
      · simp at hoi
        subst hoi
        simp [Region.binds] at hdep
        go_simp
        refine (law_atom ⟨#[97]⟩ _).mono ?_
        rintro e w' ⟨rfl, hk'⟩
        exact hK _ w' hk' rfl trivial
      · simp at hoi
        subst hoi
        simp [Region.binds] at hdep
        go_simp
        refine (law_atom ⟨#[98]⟩ _).mono ?_
        rintro e w' ⟨rfl, hk'⟩
        exact hK _ w' hk' rfl trivial
      · simp at hoi
        subst hoi
        simp [Region.binds] at hdep
        have e1 : xs 1 = .agg #[.int .u8 2, .bool false, .slice none 0 0, .string ⟨#[97]⟩, .int .i64 0, .slice none 0 0, .slice none 0 0] := (HX.out 1 (by decide) (by simp [hdep]))
        have e2 : xs 2 = .agg #[.int .u8 2, .bool false, .slice none 0 0, .string ⟨#[98]⟩, .int .i64 0, .slice none 0 0, .slice none 0 0] := (HX.out 2 (by decide) (by simp [hdep]))
        rw [e1, e2]
        go_simp
        refine (pair_any aT bT _ _ _ _ _ _ _ _ _ _ _ _ _ _ _ _ _ _ _ _ _ _ _ _ _ _ wx (flat_in _ _ _ _ _ _) (flat_in _ _ _ _ _ _)).mono ?_
        rintro e w' ⟨g, rfl, ht, hk'⟩
        have hI := hK _ w' hk' ⟨_, _, _, _, _, _, _, _, _, _, _, _, _, rfl, ht⟩ trivial
        simp only [updX, Nat.reduceEqDiff, reduceIte] at hI
        rw [e1, e2] at hI
        exact hI
      · simp at hoi
        subst hoi
        simp [Region.binds] at hdep
        go_simp
        refine (new_vars 1 (by omega) wx).mono ?_
        rintro e w' ⟨A, c, D, d1, css, rfl, hv, _, hk'⟩
        exact hK _ w' hk' ⟨_, _, _, _, _, _, _, rfl, hv.read, newV_ok 1, newV_made 1⟩ trivial
      · simp at hoi
        subst hoi
        simp [Region.binds] at hdep
        have e0 : xs 0 = .agg #[.int .u8 24, .string ⟨#[]⟩, .int .i64 0, .int .u8 0, .bool false, .slice none 0 0, .string ⟨#[]⟩, .int .i64 0, .slice none 0 0, .slice none 0 0, .slice (some ⟨g0, 0, none⟩) 2 2] := (HX.out 0 (by decide) (by simp [hdep]))
        have hP0 : CoreIn wx TT false [.int .u8 24, .string ⟨#[]⟩, .int .i64 0, .int .u8 0, .bool false, .slice none 0 0, .string ⟨#[]⟩, .int .i64 0, .slice none 0 0, .slice none 0 0, .slice (some ⟨g0, 0, none⟩) 2 2] patC2 := by
          obtain ⟨ck9, cx9, cn9, tk9, cg9, ca9, cl9, cc9, tt9, tz9, ja9, jm9, jc9, ua9, um9, uc9, ka9, kn9, kc9, e9, h9⟩ := (CoreV _).keep _ _ _ HKX.out HPX.out
          injection e9 with e9
          simp only [Array.mk.injEq, List.cons.injEq, Value.int.injEq, Value.bool.injEq, Value.slice.injEq, Value.string.injEq, true_and, and_true] at e9
          obtain ⟨rfl, rfl, rfl, rfl, rfl, ⟨rfl, rfl, rfl⟩, rfl, rfl, ⟨rfl, rfl, rfl⟩, ⟨rfl, rfl, rfl⟩, rfl, rfl, rfl⟩ := e9
          exact h9
        obtain ⟨kd3, ng3, la3, ln3, lc3, tx3, nm3, ia3, im3, ic3, ta3, tn3, tc3, e3, h3⟩ := (show (TermV (pairT aT bT)).say wx (xs 3) from (HX.out 3 (by decide) (by simp [hdep])))
        obtain ⟨A4, n4, c4, D4, m4, d4, css4, e4, h4, o4, m4'⟩ := (show (VarsV (newV 1)).say wx (xs 4) from (HX.out 4 (by decide) (by simp [hdep])))
        rw [e0, e3, e4]
        go_simp
        refine (match_top _ _ _ _ _ _ _ _ _ _ wx TT _ _ _ _ _ _ _ _ _ _ _ _ _ _ _ _ _ _ _ _ _ _ _ _ _ _ _ _ _ _ _ _ h4 o4 (pairT_ok (flatT_ok2 _ (by decide)) (flatT_ok2 _ (by decide))) patC2_ok hP0 h3).mono ?_
        rintro e w' ⟨A5, n5, c5, D5, m5, d5, css5, rfl, hv5, ho5, hm5, hk5⟩
        have hI := hK _ w' hk5 ⟨A5, n5, c5, D5, m5, d5, css5, rfl, hv5, ho5, hm5⟩ ⟨_, rfl⟩
        simp only [updX, Nat.reduceEqDiff, reduceIte] at hI
        rw [e0, e3, e4] at hI
        exact hI
      · simp at hoi
        subst hoi
        simp [Region.binds] at hdep
        have hm := (HX.out 5 (by decide) (by simp [hdep]))
        obtain ⟨x, e1⟩ := (show TupG (matchF patC2 (pairT aT bT) (newV 1)) (xs 5) from HG.out 5 (by decide) (by simp [hdep]))
        rw [e1]
        go_simp
        have hI := hK (xs 5) wx (Keeps.refl _ _) hm ⟨x, e1⟩
        simp only [updX, Nat.reduceEqDiff, reduceIte] at hI
        rw [e1] at hI
        exact hI
      · simp at hoi
        subst hoi
        simp [Region.binds] at hdep
        obtain ⟨A5, n5, c5, D5, m5, d5, css5, e1, hv5, ho5, hm5⟩ := (show (MatchV (matchF patC2 (pairT aT bT) (newV 1))).say wx (xs 6) from (HX.out 6 (by decide) (by simp [hdep])))
        rw [e1]
        go_simp
        have hI := hK _ wx (Keeps.refl _ _) ⟨A5, n5, c5, D5, m5, d5, css5, rfl, hv5, ho5, hm5⟩ trivial
        simp only [updX, Nat.reduceEqDiff, reduceIte] at hI
        rw [e1] at hI
        exact hI
      · simp at hoi
        subst hoi
        simp [Region.binds] at hdep
        obtain ⟨x, e1⟩ := (show TupG (matchF patC2 (pairT aT bT) (newV 1)) (xs 6) from HG.out 6 (by decide) (by simp [hdep]))
        rw [e1]
        go_simp
        have hI := hK _ wx (Keeps.refl _ _) trivial rfl
        simp only [updX, Nat.reduceEqDiff, reduceIte] at hI
        rw [e1] at hI
        exact hI
      · simp at hoi
        subst hoi
        simp [Region.binds] at hdep
        go_simp
        exact hK _ _ ((Keeps.refl NoB wx).alloc _) ⟨wx.heap.size, rfl, HKX.out.size, Blk.new wx 39 _⟩ trivial
      · simp at hoi
        subst hoi
        simp [Region.binds] at hdep
        exact absurd HDS.out (by simp [hdep])
    · intro d xs wx i oi hoi hli his hg hdep K hK
      have hcases : i = 8 ∨ i = 11 := by simpa using hli
      have HG := hide hg
      clear hg his hli
      rcases hcases with rfl | rfl
      · simp at hoi
        subst hoi
        simp [Region.binds] at hdep
        obtain ⟨x, e1⟩ := (show TupG (matchF patC2 (pairT aT bT) (newV 1)) (xs 6) from HG.out 6 (by decide) (by simp [hdep]))
        rw [e1]
        go_simp
        have hI := hK _ rfl
        simp only [updX, Nat.reduceEqDiff, reduceIte] at hI
        rw [e1] at hI
        exact hI
      · simp at hoi
        subst hoi
        simp [Region.binds] at hdep
        have e1 : xs 8 = .bool (matchF patC2 (pairT aT bT) (newV 1)).isSome := HG.out 8 (by decide) (by simp [hdep])
        rw [e1]
        go_simp
        have hI := hK _ rfl
        simp only [updX, Nat.reduceEqDiff, reduceIte] at hI
        rw [e1] at hI
        exact hI
    · intro d xs wx oi hoi hk hx hg hdep K hK
      have HX := hide hx; have HKX := hide hk
      clear hx hk hg
      simp at hoi
      subst hoi
      simp [Region.binds] at hdep
      obtain ⟨b, e9, hN, hb⟩ := (show (AllocV wx2.drew.heap.size).say wx (xs 9) from (HX.out 9 (by decide) (by simp [hdep])))
      obtain ⟨A7, n7, c7, D7, m7, d7, css7, e7, hv7, ho7, hm7⟩ := (show (VarsV ((matchF patC2 (pairT aT bT) (newV 1)).getD noV)).say wx (xs 7) from (HX.out 7 (by decide) (by simp [hdep])))
      have z0 := hb.free 0; have z1 := hb.free 1
      have v0' := hb.cell 0; have v1' := hb.cell 1
      have hI := hK _ (by rw [e9]; exact stored_vars HKX.out hb hN hv7 ho7 hm7)
      simp only at hI
      rw [e7, e9] at hI ⊢
      clear hb hv7 ho7 hm7 hK
      go_simp
      exact hI
    · intro xs3 wx3 hG3 hH3
      obtain ⟨b3, e3, hN3, hk3, A3, n3, c3, D3, m3, d3, css3, hB3, hV3, ho3, hm3⟩ := hH3
      have e3' : xs3 11 = .bool false := (show xs3 11 = .bool (matchF patC2 (pairT aT bT) (newV 1)).isSome from hG3 11 (by decide) (by decide)).trans (by rw [match_ab]; rfl)
      rw [match_ab] at hV3 ho3 hm3
      have HK5 := hide ((HK4.out.drew.trans' hk3 (fun _ _ => id) (fun _ _ => id)) : Keeps NoB w wx3)
      have HBV3 := hide (HBV2.out.keep ((Keeps.refl NoB wx2).drew.trans' hk3 (fun _ _ => id) (fun _ _ => id) : Keeps NoB wx2 wx3) id)
      have HVV3 := hide (HVV2.out.keep ((Keeps.refl NoB wx2).drew.trans' hk3 (fun _ _ => id) (fun _ _ => id) : Keeps NoB wx2 wx3) (fun _ _ => id))
      clear hG3 hB3 hV3 ho3 hm3 hk3 hN3 HB4 HP4 HK4 HBX HPX HBV2 HVV2
      dsimp only
      rw [e3, e3']
      clear e3 e3'
      go_upto_region 6 with
        first
        | (go_at_call 22
           refine (const_core 1 7 false none 0 0 ⟨#[]⟩ 0 none 0 0 none 0 0 _).mono ?_
           rintro e w5 ⟨rfl, hk5⟩
           have HK6 := hide ((HK5.out.trans' hk5 (fun _ _ => id) (fun _ _ => id) : Keeps NoB w w5).alloc (.cells #[.int .u8 1, .string ⟨#[]⟩, .int .i64 0, .int .u8 7, .bool false, .slice none 0 0, .string ⟨#[]⟩, .int .i64 0, .slice none 0 0, .slice none 0 0, .slice none 0 0] 34))
           have HKV6 := hide (hk5.alloc (.cells #[.int .u8 1, .string ⟨#[]⟩, .int .i64 0, .int .u8 7, .bool false, .slice none 0 0, .string ⟨#[]⟩, .int .i64 0, .slice none 0 0, .slice none 0 0, .slice none 0 0] 34))
           have HS6 := hide (cores_one (Blk.new w5 34 #[.int .u8 1, .string ⟨#[]⟩, .int .i64 0, .int .u8 7, .bool false, .slice none 0 0, .string ⟨#[]⟩, .int .i64 0, .slice none 0 0, .slice none 0 0, .slice none 0 0]) (xs := [.int .u8 1, .string ⟨#[]⟩, .int .i64 0, .int .u8 7, .bool false, .slice none 0 0, .string ⟨#[]⟩, .int .i64 0, .slice none 0 0, .slice none 0 0, .slice none 0 0]) (p := .mk 1 ⟨#[]⟩ 0 nilT []) (const_in _ 7 ⟨#[]⟩))
           clear hk5)
        | (go_at_call 21
           refine (bif_core ⟨#[104, 100]⟩ (some ⟨w5.heap.size, 0, none⟩) 1 1 _).mono ?_
           rintro e w6 ⟨rfl, hk6⟩
           have HK7 := hide ((HK6.out.trans' hk6 (fun _ _ => id) (fun _ _ => id) : Keeps NoB w w6).alloc (.cells #[.int .u8 8, .string ⟨#[104, 100]⟩, .int .i64 0, .int .u8 0, .bool false, .slice none 0 0, .string ⟨#[]⟩, .int .i64 0, .slice none 0 0, .slice none 0 0, .slice (some ⟨w5.heap.size, 0, none⟩) 1 1] 34))
           have HKV7 := hide ((HKV6.out.trans' hk6 (fun _ _ => id) (fun _ _ => id) : Keeps NoB wx3 w6).alloc (.cells #[.int .u8 8, .string ⟨#[104, 100]⟩, .int .i64 0, .int .u8 0, .bool false, .slice none 0 0, .string ⟨#[]⟩, .int .i64 0, .slice none 0 0, .slice none 0 0, .slice (some ⟨w5.heap.size, 0, none⟩) 1 1] 34))
           have HN7 := hide ((CoreV _).keep _ _ _ ((Keeps.refl NoB w6).alloc (.cells #[.int .u8 8, .string ⟨#[104, 100]⟩, .int .i64 0, .int .u8 0, .bool false, .slice none 0 0, .string ⟨#[]⟩, .int .i64 0, .slice none 0 0, .slice none 0 0, .slice (some ⟨w5.heap.size, 0, none⟩) 1 1] 34)) (core_kids 8 ⟨#[104, 100]⟩ 0 ((CoresV _).keep _ _ _ hk6 HS6.out)))
           have HNB7 := hide (Blk.new w6 34 #[.int .u8 8, .string ⟨#[104, 100]⟩, .int .i64 0, .int .u8 0, .bool false, .slice none 0 0, .string ⟨#[]⟩, .int .i64 0, .slice none 0 0, .slice none 0 0, .slice (some ⟨w5.heap.size, 0, none⟩) 1 1])
           clear hk6 HS6 HK6 HKV6)
        | (go_at_call 20
           refine (law_atom ⟨#[116, 114, 117, 101]⟩ _).mono ?_
           rintro e w7 ⟨rfl, hk7⟩
           have HK8 := hide (HK7.out.trans' hk7 (fun _ _ => id) (fun _ _ => id) : Keeps NoB w w7)
           have HKN8 := hide hk7
           clear hk7)
        | (go_at_call 22
           refine (const_core 1 2 false none 0 0 ⟨#[116, 114, 117, 101]⟩ 0 none 0 0 none 0 0 _).mono ?_
           rintro e w8 ⟨rfl, hk8⟩
           have HK9 := hide ((HK8.out.trans' hk8 (fun _ _ => id) (fun _ _ => id) : Keeps NoB w w8).alloc (.cells #[.int .u8 1, .string ⟨#[]⟩, .int .i64 0, .int .u8 2, .bool false, .slice none 0 0, .string ⟨#[116, 114, 117, 101]⟩, .int .i64 0, .slice none 0 0, .slice none 0 0, .slice none 0 0] 34))
           have HKN9 := hide ((HKN8.out.trans' hk8 (fun _ _ => id) (fun _ _ => id) : Keeps NoB _ w8).alloc (.cells #[.int .u8 1, .string ⟨#[]⟩, .int .i64 0, .int .u8 2, .bool false, .slice none 0 0, .string ⟨#[116, 114, 117, 101]⟩, .int .i64 0, .slice none 0 0, .slice none 0 0, .slice none 0 0] 34))
           have HYB9 := hide (Blk.new w8 34 #[.int .u8 1, .string ⟨#[]⟩, .int .i64 0, .int .u8 2, .bool false, .slice none 0 0, .string ⟨#[116, 114, 117, 101]⟩, .int .i64 0, .slice none 0 0, .slice none 0 0, .slice none 0 0])
           clear hk8)
        | fail
      generalize w5.heap.size = g5 at *
      generalize w6.alloc (.cells #[.int .u8 8, .string ⟨#[104, 100]⟩, .int .i64 0, .int .u8 0, .bool false, .slice none 0 0, .string ⟨#[]⟩, .int .i64 0, .slice none 0 0, .slice none 0 0, .slice (some ⟨g5, 0, none⟩) 1 1] 34) = wn at *
      generalize w6.heap.size = g6 at *
      generalize w8.alloc (.cells #[.int .u8 1, .string ⟨#[]⟩, .int .i64 0, .int .u8 2, .bool false, .slice none 0 0, .string ⟨#[116, 114, 117, 101]⟩, .int .i64 0, .slice none 0 0, .slice none 0 0, .slice none 0 0] 34) = w9 at *
      generalize w8.heap.size = g8 at *
      have HNB9 := hide (HNB7.out.keep HKN9.out id); have HN9 := hide ((CoreV _).keep _ _ _ HKN9.out HN7.out)
      have hkv9 := (HKV7.out.trans' HKN9.out (fun _ _ => id) (fun _ _ => id) : Keeps NoB wx3 w9)
      have HBV9 := hide (HBV3.out.keep hkv9 id); have HVV9 := hide (HVV3.out.keep hkv9 (fun _ _ => id))
      have HLA := hide (HL.out.keep HK9.out); have HKA9 := hide (HKA.out.keep HK9.out)
      clear hkv9 HNB7 HN7 HKV7 HKN9 HKN8 HK7 HK8 HK5 HBV3 HVV3
      have HNBX := hide (show Blk w9.drew g6 34 #[.int .u8 8, .string ⟨#[104, 100]⟩, .int .i64 0, .int .u8 0, .bool false, .slice none 0 0, .string ⟨#[]⟩, .int .i64 0, .slice none 0 0, .slice none 0 0, .slice (some ⟨g5, 0, none⟩) 1 1] from HNB9.out); have HYBX := hide (show Blk w9.drew g8 34 #[.int .u8 1, .string ⟨#[]⟩, .int .i64 0, .int .u8 2, .bool false, .slice none 0 0, .string ⟨#[116, 114, 117, 101]⟩, .int .i64 0, .slice none 0 0, .slice none 0 0, .slice none 0 0] from HYB9.out)
      refine order_facts [KF.eq (.agg #[.int .u8 8, .string ⟨#[104, 100]⟩, .int .i64 0, .int .u8 0, .bool false, .slice none 0 0, .string ⟨#[]⟩, .int .i64 0, .slice none 0 0, .slice none 0 0, .slice (some ⟨g5, 0, none⟩) 1 1]), CoresV [(.mk 8 ⟨#[104, 100]⟩ 0 zeroTm [.mk 1 ⟨#[]⟩ 0 nilT []])], CoreV (.mk 30 ⟨#[]⟩ 0 zeroTm [(.mk 8 ⟨#[104, 100]⟩ 0 zeroTm [.mk 1 ⟨#[]⟩ 0 nilT []])]), KF.eq (.agg #[.int .u8 1, .string ⟨#[]⟩, .int .i64 0, .int .u8 2, .bool false, .slice none 0 0, .string ⟨#[116, 114, 117, 101]⟩, .int .i64 0, .slice none 0 0, .slice none 0 0, .slice none 0 0]), CoresV [(.mk 1 ⟨#[]⟩ 0 trueT [])], CoreV (.mk 30 ⟨#[]⟩ 0 zeroTm [(.mk 1 ⟨#[]⟩ 0 trueT [])]), CoresV [(.mk 30 ⟨#[]⟩ 0 zeroTm [(.mk 8 ⟨#[104, 100]⟩ 0 zeroTm [.mk 1 ⟨#[]⟩ 0 nilT []])]), (.mk 30 ⟨#[]⟩ 0 zeroTm [(.mk 1 ⟨#[]⟩ 0 trueT [])])], CoreV (.mk 31 ⟨#[]⟩ 0 zeroTm [(.mk 30 ⟨#[]⟩ 0 zeroTm [(.mk 8 ⟨#[104, 100]⟩ 0 zeroTm [.mk 1 ⟨#[]⟩ 0 nilT []])]), (.mk 30 ⟨#[]⟩ 0 zeroTm [(.mk 1 ⟨#[]⟩ 0 trueT [])])]), KF.of (fun v => ∃ A c D d, v = .agg #[.slice A 0 c, .slice D 0 d]), KF.eq (.bool true), KF.eq (.bool true)] (fun xs => { tmps := #[.bool false, .pointer (some ⟨g1, 0, none⟩), .pointer (some ⟨b2, 0, none⟩), .bool true, .pointer (some ⟨b3, 0, none⟩), .bool false, .pointer (some ⟨g6, 0, none⟩), .pointer (some ⟨g8, 0, none⟩), xs 10, undef, .agg #[.int .u8 21, .string ⟨#[]⟩, .int .i64 0, .int .u8 0, .bool false, .slice none 0 0, .string ⟨#[]⟩, .int .i64 0, .slice none 0 0, .slice none 0 0, .slice none 0 0], .agg #[.int .u8 22, .string ⟨#[]⟩, .int .i64 0, .int .u8 0, .bool false, .slice none 0 0, .string ⟨#[]⟩, .int .i64 0, .slice none 0 0, .slice none 0 0, .slice none 0 0], .slice (some ⟨g0, 0, none⟩) 2 2, .agg #[.int .u8 24, .string ⟨#[]⟩, .int .i64 0, .int .u8 0, .bool false, .slice none 0 0, .string ⟨#[]⟩, .int .i64 0, .slice none 0 0, .slice none 0 0, .slice (some ⟨g0, 0, none⟩) 2 2], xs2 6, xs2 0, xs2 1, xs2 2, xs2 3, xs2 4, xs2 5, xs2 7, xs2 8, xs3 6, xs3 0, xs3 1, xs3 2, xs3 3, xs3 4, xs3 5, xs3 7, xs3 8, .agg #[.int .u8 7, .bool false, .slice none 0 0, .string ⟨#[]⟩, .int .i64 0, .slice none 0 0, .slice none 0 0], .agg #[.int .u8 1, .string ⟨#[]⟩, .int .i64 0, .int .u8 7, .bool false, .slice none 0 0, .string ⟨#[]⟩, .int .i64 0, .slice none 0 0, .slice none 0 0, .slice none 0 0], .slice (some ⟨g5, 0, none⟩) 1 1, .agg #[.int .u8 8, .string ⟨#[104, 100]⟩, .int .i64 0, .int .u8 0, .bool false, .slice none 0 0, .string ⟨#[]⟩, .int .i64 0, .slice none 0 0, .slice none 0 0, .slice (some ⟨g5, 0, none⟩) 1 1], .agg #[.int .u8 2, .bool false, .slice none 0 0, .string ⟨#[116, 114, 117, 101]⟩, .int .i64 0, .slice none 0 0, .slice none 0 0], .agg #[.int .u8 1, .string ⟨#[]⟩, .int .i64 0, .int .u8 2, .bool false, .slice none 0 0, .string ⟨#[116, 114, 117, 101]⟩, .int .i64 0, .slice none 0 0, .slice none 0 0, .slice none 0 0], xs 0, xs 1, xs 2, xs 3, xs 4, xs 5, xs 6, xs 7, xs 8, xs 9, undef, undef, undef, undef, undef, undef, undef, undef, undef, undef, undef, undef, undef, undef, undef, undef, undef, undef, undef, undef, undef, undef, undef, undef, undef, undef, undef, undef, undef, undef, undef, undef, undef, undef, undef, undef, undef, undef, undef, undef, undef, undef, undef, undef, undef, undef, undef], defers := [] }) (fun _ => undef) (by kernel_rfl) (by kernel_rfl) rfl ?_ ?_
      · intro d xs wx i oi hoi hdi hk hx hdep K hK
        have hi : i < 11 := by have h := (Array.getElem?_eq_some_iff.1 hoi).1; simpa using h
        have hcases : i = 0 ∨ i = 1 ∨ i = 2 ∨ i = 3 ∨ i = 4 ∨ i = 5 ∨ i = 6 ∨ i = 7 ∨ i = 8 ∨ i = 9 ∨ i = 10 := by omega
        have HX := hide hx; have HKX := hide hk
        clear hx hk hdi hi
        rcases hcases with rfl | rfl | rfl | rfl | rfl | rfl | rfl | rfl | rfl | rfl | rfl
        · simp at hoi
          subst hoi
          simp [Region.binds] at hdep
          have hB := HNBX.out.keep HKX.out id
          have c0 := hB.cell 0; have c1 := hB.cell 1; have c2 := hB.cell 2; have c3 := hB.cell 3; have c4 := hB.cell 4; have c5 := hB.cell 5; have c6 := hB.cell 6; have c7 := hB.cell 7; have c8 := hB.cell 8; have c9 := hB.cell 9; have c10 := hB.cell 10
          clear hB
          go_simp
          exact hK _ _ (Keeps.refl _ _) rfl
        · simp at hoi
          subst hoi
          simp [Region.binds] at hdep
          have e0 : xs 0 = .agg #[.int .u8 8, .string ⟨#[104, 100]⟩, .int .i64 0, .int .u8 0, .bool false, .slice none 0 0, .string ⟨#[]⟩, .int .i64 0, .slice none 0 0, .slice none 0 0, .slice (some ⟨g5, 0, none⟩) 1 1] := (HX.out 0 (by simp [hdep]))
          have h0 : CoreIn wx TT false [.int .u8 8, .string ⟨#[104, 100]⟩, .int .i64 0, .int .u8 0, .bool false, .slice none 0 0, .string ⟨#[]⟩, .int .i64 0, .slice none 0 0, .slice none 0 0, .slice (some ⟨g5, 0, none⟩) 1 1] (.mk 8 ⟨#[104, 100]⟩ 0 zeroTm [.mk 1 ⟨#[]⟩ 0 nilT []]) := by
            obtain ⟨ck9, cx9, cn9, tk9, cg9, ca9, cl9, cc9, tt9, tz9, ja9, jm9, jc9, ua9, um9, uc9, ka9, kn9, kc9, e9, h9⟩ := (CoreV _).keep _ _ _ HKX.out ((CoreV _).keep _ _ _ ((Keeps.refl NoB w9).drew) HN9.out)
            injection e9 with e9
            simp only [Array.mk.injEq, List.cons.injEq, Value.int.injEq, Value.bool.injEq, Value.slice.injEq, Value.string.injEq, true_and, and_true] at e9
            obtain ⟨rfl, rfl, rfl, rfl, rfl, ⟨rfl, rfl, rfl⟩, rfl, rfl, ⟨rfl, rfl, rfl⟩, ⟨rfl, rfl, rfl⟩, rfl, rfl, rfl⟩ := e9
            exact h9
          rw [e0]
          go_simp
          have hI := hK _ _ ((Keeps.refl NoB wx).alloc _) (cores_one (Blk.new wx 34 #[.int .u8 8, .string ⟨#[104, 100]⟩, .int .i64 0, .int .u8 0, .bool false, .slice none 0 0, .string ⟨#[]⟩, .int .i64 0, .slice none 0 0, .slice none 0 0, .slice (some ⟨g5, 0, none⟩) 1 1]) (xs := [.int .u8 8, .string ⟨#[104, 100]⟩, .int .i64 0, .int .u8 0, .bool false, .slice none 0 0, .string ⟨#[]⟩, .int .i64 0, .slice none 0 0, .slice none 0 0, .slice (some ⟨g5, 0, none⟩) 1 1]) (p := (.mk 8 ⟨#[104, 100]⟩ 0 zeroTm [.mk 1 ⟨#[]⟩ 0 nilT []])) (CoreIn.keep ((Keeps.refl NoB wx).alloc _) (fun _ _ => id) _ _ h0))
          simp only [updX, Nat.reduceEqDiff, reduceIte] at hI
          rw [e0] at hI
          exact hI
        · simp at hoi
          subst hoi
          simp [Region.binds] at hdep
          obtain ⟨A1, n1, c1, kcss, e1, h1⟩ := (show (CoresV [(.mk 8 ⟨#[104, 100]⟩ 0 zeroTm [.mk 1 ⟨#[]⟩ 0 nilT []])]).say wx (xs 1) from (HX.out 1 (by simp [hdep])))
          rw [e1]
          go_simp
          refine (of_core 30 A1 n1 c1 wx).mono ?_
          rintro e w' ⟨rfl, hk'⟩
          have hI := hK _ w' hk' (core_kids 30 ⟨#[]⟩ 0 ((CoresV [(.mk 8 ⟨#[104, 100]⟩ 0 zeroTm [.mk 1 ⟨#[]⟩ 0 nilT []])]).keep _ _ _ hk' ⟨A1, n1, c1, kcss, rfl, h1⟩))
          simp only [updX, Nat.reduceEqDiff, reduceIte] at hI
          rw [e1] at hI
          exact hI
        · simp at hoi
          subst hoi
          simp [Region.binds] at hdep
          have hB := HYBX.out.keep HKX.out id
          have c0 := hB.cell 0; have c1 := hB.cell 1; have c2 := hB.cell 2; have c3 := hB.cell 3; have c4 := hB.cell 4; have c5 := hB.cell 5; have c6 := hB.cell 6; have c7 := hB.cell 7; have c8 := hB.cell 8; have c9 := hB.cell 9; have c10 := hB.cell 10
          clear hB
          go_simp
          exact hK _ _ (Keeps.refl _ _) rfl
        · simp at hoi
          subst hoi
          simp [Region.binds] at hdep
          have e0 : xs 3 = .agg #[.int .u8 1, .string ⟨#[]⟩, .int .i64 0, .int .u8 2, .bool false, .slice none 0 0, .string ⟨#[116, 114, 117, 101]⟩, .int .i64 0, .slice none 0 0, .slice none 0 0, .slice none 0 0] := (HX.out 3 (by simp [hdep]))
          have h0 : CoreIn wx TT false [.int .u8 1, .string ⟨#[]⟩, .int .i64 0, .int .u8 2, .bool false, .slice none 0 0, .string ⟨#[116, 114, 117, 101]⟩, .int .i64 0, .slice none 0 0, .slice none 0 0, .slice none 0 0] (.mk 1 ⟨#[]⟩ 0 trueT []) := const_in _ 2 ⟨#[116, 114, 117, 101]⟩
          rw [e0]
          go_simp
          have hI := hK _ _ ((Keeps.refl NoB wx).alloc _) (cores_one (Blk.new wx 34 #[.int .u8 1, .string ⟨#[]⟩, .int .i64 0, .int .u8 2, .bool false, .slice none 0 0, .string ⟨#[116, 114, 117, 101]⟩, .int .i64 0, .slice none 0 0, .slice none 0 0, .slice none 0 0]) (xs := [.int .u8 1, .string ⟨#[]⟩, .int .i64 0, .int .u8 2, .bool false, .slice none 0 0, .string ⟨#[116, 114, 117, 101]⟩, .int .i64 0, .slice none 0 0, .slice none 0 0, .slice none 0 0]) (p := (.mk 1 ⟨#[]⟩ 0 trueT [])) (CoreIn.keep ((Keeps.refl NoB wx).alloc _) (fun _ _ => id) _ _ h0))
          simp only [updX, Nat.reduceEqDiff, reduceIte] at hI
          rw [e0] at hI
          exact hI
        · simp at hoi
          subst hoi
          simp [Region.binds] at hdep
          obtain ⟨A1, n1, c1, kcss, e1, h1⟩ := (show (CoresV [(.mk 1 ⟨#[]⟩ 0 trueT [])]).say wx (xs 4) from (HX.out 4 (by simp [hdep])))
          rw [e1]
          go_simp
          refine (of_core 30 A1 n1 c1 wx).mono ?_
          rintro e w' ⟨rfl, hk'⟩
          have hI := hK _ w' hk' (core_kids 30 ⟨#[]⟩ 0 ((CoresV [(.mk 1 ⟨#[]⟩ 0 trueT [])]).keep _ _ _ hk' ⟨A1, n1, c1, kcss, rfl, h1⟩))
          simp only [updX, Nat.reduceEqDiff, reduceIte] at hI
          rw [e1] at hI
          exact hI
        · simp at hoi
          subst hoi
          simp [Region.binds] at hdep
          obtain ⟨ck2, cx2, cn2, tk2, cg2, ca2, cl2, cc2, tt2, tz2, ja2, jm2, jc2, ua2, um2, uc2, ka2, kn2, kc2, e2, h2⟩ := (show (CoreV (.mk 30 ⟨#[]⟩ 0 zeroTm [(.mk 8 ⟨#[104, 100]⟩ 0 zeroTm [.mk 1 ⟨#[]⟩ 0 nilT []])])).say wx (xs 2) from (HX.out 2 (by simp [hdep])))
          obtain ⟨ck5, cx5, cn5, tk5, cg5, ca5, cl5, cc5, tt5, tz5, ja5, jm5, jc5, ua5, um5, uc5, ka5, kn5, kc5, e5, h5⟩ := (show (CoreV (.mk 30 ⟨#[]⟩ 0 zeroTm [(.mk 1 ⟨#[]⟩ 0 trueT [])])).say wx (xs 5) from (HX.out 5 (by simp [hdep])))
          rw [e2, e5]
          go_simp
          have hI := hK _ _ ((Keeps.refl NoB wx).alloc _) (cores_two (Blk.new wx 34 #[.int .u8 ck2, .string cx2, .int .i64 cn2, .int .u8 tk2, .bool cg2, .slice ca2 cl2 cc2, .string tt2, .int .i64 tz2, .slice ja2 jm2 jc2, .slice ua2 um2 uc2, .slice ka2 kn2 kc2, .int .u8 ck5, .string cx5, .int .i64 cn5, .int .u8 tk5, .bool cg5, .slice ca5 cl5 cc5, .string tt5, .int .i64 tz5, .slice ja5 jm5 jc5, .slice ua5 um5 uc5, .slice ka5 kn5 kc5]) (xs := [.int .u8 ck2, .string cx2, .int .i64 cn2, .int .u8 tk2, .bool cg2, .slice ca2 cl2 cc2, .string tt2, .int .i64 tz2, .slice ja2 jm2 jc2, .slice ua2 um2 uc2, .slice ka2 kn2 kc2]) (ys := [.int .u8 ck5, .string cx5, .int .i64 cn5, .int .u8 tk5, .bool cg5, .slice ca5 cl5 cc5, .string tt5, .int .i64 tz5, .slice ja5 jm5 jc5, .slice ua5 um5 uc5, .slice ka5 kn5 kc5]) (CoreIn.keep ((Keeps.refl NoB wx).alloc _) (fun _ _ => id) _ _ h2) (CoreIn.keep ((Keeps.refl NoB wx).alloc _) (fun _ _ => id) _ _ h5))
          simp only [updX, Nat.reduceEqDiff, reduceIte] at hI
          rw [e2, e5] at hI
          exact hI
        · simp at hoi
          subst hoi
          simp [Region.binds] at hdep
          obtain ⟨A1, n1, c1, kcss, e1, h1⟩ := (show (CoresV [(.mk 30 ⟨#[]⟩ 0 zeroTm [(.mk 8 ⟨#[104, 100]⟩ 0 zeroTm [.mk 1 ⟨#[]⟩ 0 nilT []])]), (.mk 30 ⟨#[]⟩ 0 zeroTm [(.mk 1 ⟨#[]⟩ 0 trueT [])])]).say wx (xs 6) from (HX.out 6 (by simp [hdep])))
          rw [e1]
          go_simp
          refine (of_core 31 A1 n1 c1 wx).mono ?_
          rintro e w' ⟨rfl, hk'⟩
          have hI := hK _ w' hk' (core_kids 31 ⟨#[]⟩ 0 ((CoresV [(.mk 30 ⟨#[]⟩ 0 zeroTm [(.mk 8 ⟨#[104, 100]⟩ 0 zeroTm [.mk 1 ⟨#[]⟩ 0 nilT []])]), (.mk 30 ⟨#[]⟩ 0 zeroTm [(.mk 1 ⟨#[]⟩ 0 trueT [])])]).keep _ _ _ hk' ⟨A1, n1, c1, kcss, rfl, h1⟩))
          simp only [updX, Nat.reduceEqDiff, reduceIte] at hI
          rw [e1] at hI
          exact hI
        · simp at hoi
          subst hoi
          simp [Region.binds] at hdep
          go_simp
          refine (new_vars 0 (by omega) wx).mono ?_
          rintro e w' ⟨A, c, D, d1, css, rfl, hv, _, hk'⟩
          exact hK _ w' hk' ⟨_, _, _, _, rfl⟩
        · simp at hoi
          subst hoi
          simp [Region.binds] at hdep
          obtain ⟨ck7, cx7, cn7, tk7, cg7, ca7, cl7, cc7, tt7, tz7, ja7, jm7, jc7, ua7, um7, uc7, ka7, kn7, kc7, e7, h7⟩ := (show (CoreV (.mk 31 ⟨#[]⟩ 0 zeroTm [(.mk 30 ⟨#[]⟩ 0 zeroTm [(.mk 8 ⟨#[104, 100]⟩ 0 zeroTm [.mk 1 ⟨#[]⟩ 0 nilT []])]), (.mk 30 ⟨#[]⟩ 0 zeroTm [(.mk 1 ⟨#[]⟩ 0 trueT [])])])).say wx (xs 7) from (HX.out 7 (by simp [hdep])))
          obtain ⟨A8, c8, D8, d8, e8⟩ := (show ∃ A c D d, xs 8 = .agg #[.slice A 0 c, .slice D 0 d] from (HX.out 8 (by simp [hdep])))
          have HLW := hide (HLA.out.keep ((Keeps.refl NoB w9).drew.trans' HKX.out (fun _ _ => id) (fun _ _ => id) : Keeps NoB w9 wx)); have HKW := hide (HKA9.out.keep ((Keeps.refl NoB w9).drew.trans' HKX.out (fun _ _ => id) (fun _ _ => id) : Keeps NoB w9 wx))
          obtain ⟨tr7, kids7, kcss7, ek7, _⟩ := h7.parts
          obtain rfl : (31 : Int) = ck7 := congrArg Co.kind ek7
          clear ek7
          rw [e7, e8]
          go_simp
          refine (guard_any wx.heap.size _ _ _ _ _ _ _ _ _ _ _ _ _ _ _ _ _ _ _ _ _ _ _ ⟨#[]⟩ 0 zeroTm [(.mk 30 ⟨#[]⟩ 0 zeroTm [(.mk 8 ⟨#[104, 100]⟩ 0 zeroTm [.mk 1 ⟨#[]⟩ 0 nilT []])]), (.mk 30 ⟨#[]⟩ 0 zeroTm [(.mk 1 ⟨#[]⟩ 0 trueT [])])] [false, true] wx (by omega) rfl (fun i k b h1 h2 => ?_) (CoreIn.more (fun k hk _ => hk) _ _ h7)).mono ?_
          · rcases i with _ | _ | i
            · injection h1 with h1; injection h2 with h2; subst h1 h2
              exact (.inl ⟨_, gv_all_no (Nat.le_refl _) _ _ _ _ _ _ (gv_hd (Nat.le_refl _) 0 zeroTm nilT _ HLW.out HKW.out nil_right nil_split (nil_const (Nat.le_refl _))), rfl⟩)
            · injection h1 with h1; injection h2 with h2; subst h1 h2
              exact (.inr ⟨trueT, true_ok, gv_all_one (Nat.le_refl _) _ _ _ _ _ (true_const (Nat.le_refl _)), true_same.symm⟩)
            · simp at h1
          rintro e w' ⟨rfl, hk'⟩
          have hI := hK _ w' hk' rfl
          simp only [updX, Nat.reduceEqDiff, reduceIte] at hI
          rw [e7, e8] at hI
          exact hI
        · simp at hoi
          subst hoi
          simp [Region.binds] at hdep
          have e9 : xs 9 = .bool true := (HX.out 9 (by simp [hdep]))
          rw [e9]
          go_simp
          have hI := hK _ wx (Keeps.refl _ _) rfl
          simp only [updX, Nat.reduceEqDiff, reduceIte] at hI
          rw [e9] at hI
          exact hI
      · intro xs6 wx6 hk6 hx6
        have e6 : xs6 10 = .bool true := hx6 10 (by decide)
        have HK10 := hide ((HK9.out.drew.trans' hk6 (fun _ _ => id) (fun _ _ => id)) : Keeps NoB w wx6)
        have hkw := ((Keeps.refl NoB w9).drew.trans' hk6 (fun _ _ => id) (fun _ _ => id) : Keeps NoB w9 wx6)
        have HBV := hide (HBV9.out.keep hkw id); have HVV := hide (HVV9.out.keep hkw (fun _ _ => id)); have HNB := hide (HNB9.out.keep hkw id); have HYB := hide (HYB9.out.keep hkw id)
        have hn := (CoreV _).keep _ _ _ hkw HN9.out
        have hno : CoreIn wx6 TT false [.int .u8 8, .string ⟨#[104, 100]⟩, .int .i64 0, .int .u8 0, .bool false, .slice none 0 0, .string ⟨#[]⟩, .int .i64 0, .slice none 0 0, .slice none 0 0, .slice (some ⟨g5, 0, none⟩) 1 1] (.mk 8 ⟨#[104, 100]⟩ 0 zeroTm [.mk 1 ⟨#[]⟩ 0 nilT []]) := by
          obtain ⟨ck9, cx9, cn9, tk9, cg9, ca9, cl9, cc9, tt9, tz9, ja9, jm9, jc9, ua9, um9, uc9, ka9, kn9, kc9, e9, h9⟩ := hn
          injection e9 with e9
          simp only [Array.mk.injEq, List.cons.injEq, Value.int.injEq, Value.bool.injEq, Value.slice.injEq, Value.string.injEq, true_and, and_true] at e9
          obtain ⟨rfl, rfl, rfl, rfl, rfl, ⟨rfl, rfl, rfl⟩, rfl, rfl, ⟨rfl, rfl, rfl⟩, ⟨rfl, rfl, rfl⟩, rfl, rfl, rfl⟩ := e9
          exact h9
        have HNO := hide hno
        have HLW := hide (HL.out.keep HK10.out); have HKW := hide (HKA.out.keep HK10.out)
        clear hx6 hk6 hkw hn hno HBV9 HVV9 HNB9 HYB9 HN9 HK9 HLA HKA9
        dsimp only
        rw [e6]
        clear e6
        have nn0 := HNB.out.cell 0; have nn1 := HNB.out.cell 1; have nn2 := HNB.out.cell 2; have nn3 := HNB.out.cell 3; have nn4 := HNB.out.cell 4; have nn5 := HNB.out.cell 5; have nn6 := HNB.out.cell 6; have nn7 := HNB.out.cell 7; have nn8 := HNB.out.cell 8; have nn9 := HNB.out.cell 9; have nn10 := HNB.out.cell 10
        have yy0 := HYB.out.cell 0; have yy1 := HYB.out.cell 1; have yy2 := HYB.out.cell 2; have yy3 := HYB.out.cell 3; have yy4 := HYB.out.cell 4; have yy5 := HYB.out.cell 5; have yy6 := HYB.out.cell 6; have yy7 := HYB.out.cell 7; have yy8 := HYB.out.cell 8; have yy9 := HYB.out.cell 9; have yy10 := HYB.out.cell 10
        have M1 := hide True.intro
        go_upto_region 8 with
          first
          | (go_at_call 15
             have hm := M1; clear hm M1
             refine (of_core 31 (some ⟨wx6.heap.size, 0, none⟩) 2 2 _).mono ?_
             rintro e w11 ⟨rfl, hk11⟩
             have hka : Keeps NoB wx6 (wx6.alloc (.cells #[.int .u8 8, .string ⟨#[104, 100]⟩, .int .i64 0, .int .u8 0, .bool false, .slice none 0 0, .string ⟨#[]⟩, .int .i64 0, .slice none 0 0, .slice none 0 0, .slice (some ⟨g5, 0, none⟩) 1 1, .int .u8 1, .string ⟨#[]⟩, .int .i64 0, .int .u8 2, .bool false, .slice none 0 0, .string ⟨#[116, 114, 117, 101]⟩, .int .i64 0, .slice none 0 0, .slice none 0 0, .slice none 0 0] 34)) := (Keeps.refl NoB wx6).alloc _
             have hc := core_kids 31 ⟨#[]⟩ 0 ((CoresV _).keep _ _ _ hk11 (cores_two (Blk.new wx6 34 #[.int .u8 8, .string ⟨#[104, 100]⟩, .int .i64 0, .int .u8 0, .bool false, .slice none 0 0, .string ⟨#[]⟩, .int .i64 0, .slice none 0 0, .slice none 0 0, .slice (some ⟨g5, 0, none⟩) 1 1, .int .u8 1, .string ⟨#[]⟩, .int .i64 0, .int .u8 2, .bool false, .slice none 0 0, .string ⟨#[116, 114, 117, 101]⟩, .int .i64 0, .slice none 0 0, .slice none 0 0, .slice none 0 0]) (xs := [.int .u8 8, .string ⟨#[104, 100]⟩, .int .i64 0, .int .u8 0, .bool false, .slice none 0 0, .string ⟨#[]⟩, .int .i64 0, .slice none 0 0, .slice none 0 0, .slice (some ⟨g5, 0, none⟩) 1 1]) (ys := [.int .u8 1, .string ⟨#[]⟩, .int .i64 0, .int .u8 2, .bool false, .slice none 0 0, .string ⟨#[116, 114, 117, 101]⟩, .int .i64 0, .slice none 0 0, .slice none 0 0, .slice none 0 0]) (p := (.mk 8 ⟨#[104, 100]⟩ 0 zeroTm [.mk 1 ⟨#[]⟩ 0 nilT []])) (q := (.mk 1 ⟨#[]⟩ 0 trueT [])) (CoreIn.keep hka (fun _ _ => id) _ _ HNO.out) (const_in _ 2 ⟨#[116, 114, 117, 101]⟩)))
             have HC11 := hide (core_lit hc)
             have HKL11 := hide (hka.trans' hk11 (fun _ _ => id) (fun _ _ => id) : Keeps NoB wx6 w11)
             clear hk11 hka hc
             have M2 := hide True.intro)
          | (go_at_call 15
             have hm := M2; clear hm M2
             refine (of_core 30 (some ⟨w11.heap.size, 0, none⟩) 1 1 _).mono ?_
             rintro e w12 ⟨rfl, hk12⟩
             have hka : Keeps NoB w11 (w11.alloc (.cells #[.int .u8 31, .string ⟨#[]⟩, .int .i64 0, .int .u8 0, .bool false, .slice none 0 0, .string ⟨#[]⟩, .int .i64 0, .slice none 0 0, .slice none 0 0, .slice (some ⟨wx6.heap.size, 0, none⟩) 2 2] 34)) := (Keeps.refl NoB w11).alloc _
             have hc := core_kids 30 ⟨#[]⟩ 0 ((CoresV _).keep _ _ _ hk12 (cores_one (Blk.new w11 34 #[.int .u8 31, .string ⟨#[]⟩, .int .i64 0, .int .u8 0, .bool false, .slice none 0 0, .string ⟨#[]⟩, .int .i64 0, .slice none 0 0, .slice none 0 0, .slice (some ⟨wx6.heap.size, 0, none⟩) 2 2]) (xs := [.int .u8 31, .string ⟨#[]⟩, .int .i64 0, .int .u8 0, .bool false, .slice none 0 0, .string ⟨#[]⟩, .int .i64 0, .slice none 0 0, .slice none 0 0, .slice (some ⟨wx6.heap.size, 0, none⟩) 2 2]) (p := (.mk 31 ⟨#[]⟩ 0 zeroTm [(.mk 8 ⟨#[104, 100]⟩ 0 zeroTm [.mk 1 ⟨#[]⟩ 0 nilT []]), (.mk 1 ⟨#[]⟩ 0 trueT [])])) (CoreIn.keep hka (fun _ _ => id) _ _ HC11.out)))
             have HC12 := hide (core_lit hc)
             have HKL12 := hide (HKL11.out.trans' (hka.trans' hk12 (fun _ _ => id) (fun _ _ => id) : Keeps NoB w11 w12) (fun _ _ => id) (fun _ _ => id) : Keeps NoB wx6 w12)
             clear hk12 hka hc HC11 HKL11
             have M3 := hide True.intro)
          | (go_at_call 15
             have hm := M3; clear hm M3
             refine (of_core 31 (some ⟨w12.heap.size, 0, none⟩) 1 1 _).mono ?_
             rintro e w13 ⟨rfl, hk13⟩
             have hka : Keeps NoB w12 (w12.alloc (.cells #[.int .u8 30, .string ⟨#[]⟩, .int .i64 0, .int .u8 0, .bool false, .slice none 0 0, .string ⟨#[]⟩, .int .i64 0, .slice none 0 0, .slice none 0 0, .slice (some ⟨w11.heap.size, 0, none⟩) 1 1] 34)) := (Keeps.refl NoB w12).alloc _
             have hc := core_kids 31 ⟨#[]⟩ 0 ((CoresV _).keep _ _ _ hk13 (cores_one (Blk.new w12 34 #[.int .u8 30, .string ⟨#[]⟩, .int .i64 0, .int .u8 0, .bool false, .slice none 0 0, .string ⟨#[]⟩, .int .i64 0, .slice none 0 0, .slice none 0 0, .slice (some ⟨w11.heap.size, 0, none⟩) 1 1]) (xs := [.int .u8 30, .string ⟨#[]⟩, .int .i64 0, .int .u8 0, .bool false, .slice none 0 0, .string ⟨#[]⟩, .int .i64 0, .slice none 0 0, .slice none 0 0, .slice (some ⟨w11.heap.size, 0, none⟩) 1 1]) (p := (.mk 30 ⟨#[]⟩ 0 zeroTm [(.mk 31 ⟨#[]⟩ 0 zeroTm [(.mk 8 ⟨#[104, 100]⟩ 0 zeroTm [.mk 1 ⟨#[]⟩ 0 nilT []]), (.mk 1 ⟨#[]⟩ 0 trueT [])])])) (CoreIn.keep hka (fun _ _ => id) _ _ HC12.out)))
             have HC13 := hide (core_lit hc)
             have HKL13 := hide (HKL12.out.trans' (hka.trans' hk13 (fun _ _ => id) (fun _ _ => id) : Keeps NoB w12 w13) (fun _ _ => id) (fun _ _ => id) : Keeps NoB wx6 w13)
             clear hk13 hka hc HC12 HKL12)
          | (go_at_call 11
             refine (new_vars 0 (by omega) _).mono ?_
             rintro e w14 ⟨A14, c14, D14, d14, css14, rfl, _, _, hk14⟩
             have HC14 := hide (CoreIn.keep hk14 (fun _ _ => id) _ _ HC13.out)
             have HKL14 := hide (HKL13.out.trans' hk14 (fun _ _ => id) (fun _ _ => id) : Keeps NoB wx6 w14)
             have HLW2 := hide (HLW.out.keep HKL14.out); have HKW2 := hide (HKW.out.keep HKL14.out)
             clear hk14 HC13 HKL13)
          | (go_at_call 23
             refine (guard_any w14.heap.size _ _ _ _ _ _ _ _ _ _ _ _ _ _ _ _ _ _ _ _ _ _ _ ⟨#[]⟩ 0 zeroTm [(.mk 30 ⟨#[]⟩ 0 zeroTm [(.mk 31 ⟨#[]⟩ 0 zeroTm [(.mk 8 ⟨#[104, 100]⟩ 0 zeroTm [.mk 1 ⟨#[]⟩ 0 nilT []]), (.mk 1 ⟨#[]⟩ 0 trueT [])])])] [false] w14 (by omega) rfl (fun i k b h1 h2 => (by
               rcases i with _ | i
               · injection h1 with h1; injection h2 with h2; subst h1 h2
                 exact .inl ⟨_, gv_all_no (Nat.le_refl _) _ _ _ _ _ _ (gv_any_no (Nat.le_refl _) _ _ _ _ _ _ (gv_hd (Nat.le_refl _) 0 zeroTm nilT _ HLW2.out HKW2.out nil_right nil_split (nil_const (Nat.le_refl _)))), rfl⟩
               · simp at h1)) (CoreIn.more (fun k hk _ => hk) _ _ HC14.out)).mono ?_
             rintro e w15 ⟨rfl, hk15⟩
             have HKL15 := hide (HKL14.out.trans' hk15 (fun _ _ => id) (fun _ _ => id) : Keeps NoB wx6 w15)
             clear hk15 HC14 HLW2 HKW2)
          | fail
        have hv := HVV.out.keep HKL15.out (fun _ _ => id)
        have hbv := HBV.out.keep HKL15.out id
        have HKF := hide (HK10.out.trans' HKL15.out (fun _ _ => id) (fun _ _ => id) : Keeps NoB w w15)
        obtain rfl : 1 = n2 := hv.nh
        obtain rfl : 1 = m2 := hv.nv
        obtain ⟨bb, bo, x0, rfl, hx0, hbc⟩ := bool_at hv.hb (i := 0) (by omega)
        injection hx0 with hx0
        subst hx0
        obtain ⟨tb, tp, kd9, ng9, la9, ln9, lc9, tx9, nm9, ia9, im9, ic9, ta9, tn9, tc9, t9, rfl, ht9, hti9, _, _, _, _, ft, _⟩ := cells_at hv.hv hv.ht 0 (by omega)
        injection ht9 with ht9
        subst ht9
        obtain ⟨_, _, _, _, _, _, _, _, _, _, _, _, _, he9, _, et9, _⟩ := hti9.cells
        simp only [List.cons.injEq, Value.string.injEq] at he9
        obtain rfl : tx9 = ⟨#[97]⟩ := he9.2.2.2.1.trans et9
        have d0 := hbv.cell 0
        have d1 := hbv.cell 1
        have hbc' : w15.cell? ⟨bb, bo, none⟩ = some (.bool true) := hbc
        have ft' : w15.cell? ⟨tb, tp + 3, none⟩ = some (.string ⟨#[97]⟩) := by simpa using ft
        clear hv hbv hti9 he9 et9 ft hbc HVV HBV HNB HYB HNO HLW HKW HKL15 nn0 yy0 nn1 yy1 nn2 yy2 nn3 yy3 nn4 yy4 nn5 yy5 nn6 yy6 nn7 yy7 nn8 yy8 nn9 yy9 nn10 yy10
        go_wp2_with
          first
          | (go_at_call 15
             refine (of_core 31 none 0 0 _).mono ?_
             rintro e w16 ⟨rfl, hk16⟩
             have HC16 := hide (core_lit (core_kids 31 ⟨#[]⟩ 0 ((CoresV _).keep _ _ _ hk16 (cores_none w15))))
             have HK16 := hide (HKF.out.trans' hk16 (fun _ _ => id) (fun _ _ => id) : Keeps NoB w w16)
             clear hk16)
          | (go_at_call 11
             refine (new_vars 0 (by omega) _).mono ?_
             rintro e w17 ⟨A17, c17, D17, d17, css17, rfl, _, _, hk17⟩
             have HC17 := hide (CoreIn.keep hk17 (fun _ _ => id) _ _ HC16.out)
             have HK17 := hide (HK16.out.trans' hk17 (fun _ _ => id) (fun _ _ => id) : Keeps NoB w w17)
             clear hk17)
          | (go_at_call 23
             refine (guard_any w17.heap.size _ _ _ _ _ _ _ _ _ _ _ _ _ _ _ _ _ _ _ _ _ _ _ ⟨#[]⟩ 0 zeroTm [] [] w17 (by omega) rfl (fun i k b h1 h2 => (by simp at h1)) (CoreIn.more (fun k hk _ => hk) _ _ HC17.out)).mono ?_
             rintro e w18 ⟨rfl, hk18⟩
             have HK18 := hide (HK17.out.trans' hk18 (fun _ _ => id) (fun _ _ => id) : Keeps NoB w w18)
             clear hk18)
          | fail
        go_ret
        exact ⟨rfl, HK18.out⟩
end Go.Proofs.YtjdbjjjbgibpaaaGreatDoor
