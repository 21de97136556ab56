/- Text of the reference. -/
import Derived.Test.YtfehciiidmgopaaROf
import Derived.Test.YtfehciiidmgopaaSame
namespace Go.Proofs.Ytfehciiidmgopaa
open Go.RowKit

theorem strOf_add (l m : List Nat) : strOf l ++ strOf m = strOf (l ++ m) := by
  unfold strOf
  apply ByteArray.ext
  simp [ByteArray.data_append]
theorem strOf_ne {l : List Nat} (h : l ≠ []) : ((strOf l).toList == []) = false := by
  have h2 : strOf l ≠ ByteArray.empty := fun e => by
    have h3 : (strOf l).size = 0 := by rw [e]; rfl
    unfold strOf at h3
    simp [ByteArray.size] at h3
    exact h h3
  have := strs_ne h2
  rw [Lib.toList_data ByteArray.empty] at this
  exact this
theorem up_bit (R k : Nat) : R / 2 ^ k = 2 * (R / 2 ^ (k + 1)) + (R.testBit k).toNat := by
  rw [Nat.toNat_testBit, Nat.pow_succ, ← Nat.div_div_eq_div_mul]; omega
theorem dd_last {N : Nat} {sl T : List Nat} (h : 0 < N) (e : (dd N).reverse ++ sl = T) : (dd (N / 10)).reverse ++ ((48 + N % 10) :: sl) = T := by
  rw [← e, dd_step h, List.reverse_cons, List.append_assoc]; rfl
theorem ten_bits {w : World} : BitsIn (w.alloc (.cells #[.bool false, .bool true, .bool false, .bool true] 4)) (fun k => k = w.heap.size) (some ⟨w.heap.size, 0, none⟩) 4 4 [false, true, false, true] :=
  RowB.bits (show RowB _ _ [false, true, false, true] from Blk.new w 4 #[.bool false, .bool true, .bool false, .bool true]) rfl (by unfold maxLen; omega)
theorem digit_run {w : World} {x : Nat} {v : Int} (hv : v = (x : Int)) (h : x < 256) : (convert 63 9 (.slice (some ⟨w.heap.size, 0, none⟩) 1 1)).run Try.prog (w.alloc (.cells #[.int .u8 v] 5)) = .ok (.string (strOf [x])) (w.alloc (.cells #[.int .u8 v] 5)) := by
  subst hv
  refine str_run (L := [x]) (Slab.mk' (by simp [u8s]) (Nat.le_refl _) (by unfold maxLen; omega) (Blk.new w 5 #[.int .u8 (x : Int)]) (by simp) (fun j hj => ?_)) (fun y hy => by simp at hy; omega)
  obtain rfl : j = 0 := by omega
  rfl
theorem strOf_size (l : List Nat) : (strOf l).size = l.length := by unfold strOf; simp [ByteArray.size]
set_option maxRecDepth 100000 in
theorem rtext_bad {w : World} {B : Nat → Prop} {cs : Array Value} (h : TermA w B false cs) :
    Calls Try.prog 19 #[.agg cs] w fun e w' => e = .returned (.string { data := #[] }) ∧ Keeps NoB w w' := by
  have HTA := hide h
  obtain ⟨kd, ng, la, ln, lc, tx, nm, ia, im, ic, ta, tm, tc, l, rfl, hl, hi, ht, hr⟩ := h
  have HR := hide ((HTA.out.keep ((Keeps.refl NoB w).alloc (.cells #[.int .u8 kd, .bool ng, .slice la ln lc, .string tx, .int .i64 nm, .slice ia im ic, .slice ta tm tc] 26))).rright)
  have HK0 := hide ((Keeps.refl NoB w).alloc (.cells #[.int .u8 kd, .bool ng, .slice la ln lc, .string tx, .int .i64 nm, .slice ia im ic, .slice ta tm tc] 26))
  clear hl hr
  go_enter Try.func19, Try.ntmps19
  go_wp2_with (go_at_call 33; refine HR.out.mono ?_; rintro e w1 ⟨rfl, hk1⟩)
  go_ret
  exact ⟨rfl, HK0.out.trans' hk1 (fun _ _ h => h) (fun _ _ h => h)⟩
set_option maxHeartbeats 2000000 in
set_option maxRecDepth 100000 in
theorem rtext_any (ng : Bool) (A ia ta : Option Addr) (n c ic tc : Nat) (z : Int) (w : World) (B : Nat → Prop) (h : IA w B ng A n c z) :
    Calls Try.prog 19 #[.agg #[.int .u8 1, .bool ng, .slice A n c, .string { data := #[] }, .int .i64 0, .slice ia 0 ic, .slice ta 0 tc]] w fun e w' => e = .returned (.string (txt z)) ∧ Keeps NoB w w' := by
  have HI := hide h
  have HTA := hide (h.term ia ta ic tc)
  have hb := h.bits
  have hsg := h.sign
  have HSG := hide hsg
  have HBIG := hide h.room
  clear h hsg
  have HX0 := hide (Blk.new w 26 #[.int .u8 1, .bool ng, .slice A n c, .string { data := #[] }, .int .i64 0, .slice ia 0 ic, .slice ta 0 tc])
  have HK0 := hide ((Keeps.refl NoB w).alloc (.cells #[.int .u8 1, .bool ng, .slice A n c, .string { data := #[] }, .int .i64 0, .slice ia 0 ic, .slice ta 0 tc] 26))
  go_enter Try.func19, Try.ntmps19
  go_wp2_with first | (go_at_call 33; refine ((HTA.out.keep HK0.out).rright).mono ?_; rintro e w1 ⟨rfl, hk1⟩; have HK1 := hide (HK0.out.trans' hk1 (fun _ _ => id) (fun _ _ => id)); have HX1 := hide (HX0.out.keep hk1 id); clear hk1 HX0 HK0; have x0 : w1.cell? ⟨w.heap.size, 0, none⟩ = some (.int .u8 1) := HX1.out.cell 0; have x1 : w1.cell? ⟨w.heap.size, 1, none⟩ = some (.bool ng) := HX1.out.cell 1; have x2 : w1.cell? ⟨w.heap.size, 2, none⟩ = some (.slice A n c) := HX1.out.cell 2; have x3 : w1.cell? ⟨w.heap.size, 3, none⟩ = some (.string { data := #[] }) := HX1.out.cell 3; have x4 : w1.cell? ⟨w.heap.size, 4, none⟩ = some (.int .i64 0) := HX1.out.cell 4; have x5 : w1.cell? ⟨w.heap.size, 5, none⟩ = some (.slice ia 0 ic) := HX1.out.cell 5; have x6 : w1.cell? ⟨w.heap.size, 6, none⟩ = some (.slice ta 0 tc) := HX1.out.cell 6) | (go_at_call 36; refine (bits_any _ _ _ _ _ _ _ _ _ w1 _ (HI.out.keep HK1.out)).mono ?_; rintro e w2 ⟨A1, n1, c1, rfl, hn1, hb1, hk2⟩; have HN1 := hide hn1; have HB1 := hide (hb1.more (B' := fun _ => True) (fun _ _ _ => trivial)); have HK2 := hide (HK1.out.trans' hk2 (fun _ _ => id) (fun _ _ => id)); have HX2 := hide (HX1.out.keep hk2 id); clear hn1 hb1 hk2 HK1 HX1 x0 x1 x2 x3 x4 x5 x6) | fail
  obtain ⟨T, hT⟩ : ∃ T, (dd z.natAbs).reverse = T := ⟨_, rfl⟩
  have HT := hide hT
  clear hT
  have H0 := hide (show (dd z.natAbs).reverse ++ [] = T from by rw [List.append_nil]; exact HT.out)
  have hTl : T.length ≤ 309 := by rw [← HT.out, List.length_reverse]; exact dd_len HBIG.out
  go_loopg [3, 4] z.natAbs (fun f lv sv wr => ∃ (N : Nat) (A : Option Addr) (m c : Nat) (sl : List Nat), lv = .slice A m c ∧ sv = .string (strOf sl) ∧ N ≤ f ∧ Hid (m = lenB N) ∧ m ≤ 1024 ∧ Hid (BitsIn wr (fun _ => True) A m c (digB N)) ∧ Hid ((dd N).reverse ++ sl = T) ∧ Hid (Keeps NoB w2 wr))
  case atStart => exact ⟨z.natAbs, _, _, _, [], rfl, rfl, Nat.le_refl _, HN1, by rw [HN1.out]; exact hb, HB1, H0, hide (Keeps.refl _ _)⟩
  case round =>
    obtain ⟨N, A, m, c, sl, rfl, rfl, hf, HM, hm, HB, HS, HK⟩ := hrel
    have hss : (strOf sl).size ≤ 309 := by
      rw [strOf_size]
      have h1 := congrArg List.length HS.out
      rw [List.length_append] at h1
      omega
    by_cases hN : 0 < N
    · have hm0 : 0 < m := by rw [HM.out]; exact lenB_pos.2 hN
      have hd0 : decide ((0 : Int) < (m : Int)) = true := decide_eq_true (by omega)
      have HP := hide (parts_any A (some ⟨wr.heap.size, 0, none⟩) m c 4 4 (digB N) [false, true, false, true] _ _ _ (HB.out.keep ((Keeps.refl NoB wr).alloc (.cells #[.bool false, .bool true, .bool false, .bool true] 4))) ten_bits (by omega) (by omega) (by decide))
      rw [natB_dig, show natB [false, true, false, true] = 10 from rfl] at HP
      have HKa := hide (HK.out.alloc (.cells #[.bool false, .bool true, .bool false, .bool true] 4))
      have HNX := hide (dd_last hN HS.out)
      have HNN := hide hN
      clear hN
      go_wp2_with (go_at_call 42; refine HP.out.mono ?_; rintro e w4 ⟨Aq, mq, cq, Ar, mr, cr, rfl, hmq, hmr, hbq, hbr, hk4⟩; have HBQ := hide (hbq.more (B' := fun _ => True) (fun _ _ _ => trivial)); have HBR := hide hbr; have HMQ := hide hmq; have HMR := hide hmr; have HK4 := hide (HKa.out.trans' hk4 (fun _ _ => id) (fun _ _ => id)); have hmr4 : mr ≤ 4 := (by rw [hmr]; exact lenB_le.2 (by omega)); clear hmq hmr hbq hbr hk4 HP HKa HB HK)
      go_loopw [7, 8] (fun dv iv wx => ∃ (k d : Nat), dv = .int .i64 (d : Int) ∧ iv = .int .i64 ((k : Int) - 1) ∧ k ≤ mr ∧ Hid (d = N % 10 / 2 ^ k) ∧ wx = w4) (fun _ iv _ => (intOf iv + 1).toNat)
      case atStart => exact ⟨mr, 0, rfl, rfl, Nat.le_refl _, hide (by rw [Nat.div_eq_of_lt]; exact lenB_le.1 (Nat.le_of_eq HMR.out.symm)), rfl⟩
      case round =>
        obtain ⟨k, d, rfl, rfl, hk, HD, rfl⟩ := hrel
        have hd10 : d < 10 := by rw [HD.out]; exact Nat.lt_of_le_of_lt (Nat.div_le_self _ _) (Nat.mod_lt _ (by decide))
        rcases k with _ | k
        · have hdd : d = N % 10 := by rw [HD.out, Nat.pow_zero, Nat.div_one]
          have q6 := digit_run (w := wr) (x := 48 + d) (v := 48 + (d : Int)) (by omega) (by omega)
          have hz1 : (strOf [48 + d]).size = 1 := strOf_size _
          have HST := hide (show (dd (N / 10)).reverse ++ ((48 + d) :: sl) = T from hdd ▸ HNX.out)
          have HSA := hide (strOf_add [48 + d] sl)
          have HKW := hide (HK4.out.alloc (.cells #[.int .u8 (48 + (d : Int))] 5))
          have HLT := hide (show N / 10 < gk from by have := HNN.out; omega)
          clear hdd
          go_wp2
          go_roundg (N / 10)
          case measure => exact HLT.out
          case rel => exact ⟨N / 10, Aq, mq, cq, (48 + d) :: sl, rfl, congrArg Value.string HSA.out, Nat.le_refl _, HMQ, by rw [HMQ.out]; exact Nat.le_trans (lenB_mono (Nat.div_le_self _ _)) (by rw [← HM.out]; exact hm), hide (HBQ.out.keep ((Keeps.refl NoB wr).alloc _)), HST, HKW⟩
        · have hk2 : ((k + 1 : Nat) : Int) - 1 = (k : Int) := by omega
          rw [hk2]
          have hk0 : (0 : Int) ≤ (k : Int) := by omega
          have hk1 : (k : Int) < (mr : Int) := by omega
          obtain ⟨b, o, rfl, hbb, hc⟩ := HBR.out.at (by omega)
          have q := hc k (by omega)
          rw [dig_bit] at q
          obtain ⟨bv, hbv⟩ : ∃ bv, (N % 10).testBit k = bv := ⟨_, rfl⟩
          have HU := hide (up_bit (N % 10) k)
          rw [hbv, ← HD.out] at HU
          rw [hbv] at q
          clear hc hbb hbv hk2
          cases bv with
          | false =>
            go_wp2
            go_roundw
            case rel => exact ⟨k, 2 * d, congrArg (Value.int .i64) (by omega), rfl, by omega, hide (by rw [HU.out]; rfl), trivial⟩
            case measure => simp [intOf]
          | true =>
            go_wp2
            go_roundw
            case rel => exact ⟨k, 2 * d + 1, congrArg (Value.int .i64) (by omega), rfl, by omega, hide (by rw [HU.out]; rfl), trivial⟩
            case measure => simp [intOf]
    · obtain rfl : N = 0 := by omega
      obtain rfl : m = 0 := HM.out
      have hsl : sl = T := by have := HS.out; unfold dd at this; rw [decs_zero] at this; exact this
      subst hsl
      have HXr := hide (HX2.out.keep HK.out id)
      have HKr := hide (HK2.out.trans' HK.out (fun _ _ => id) (fun _ _ => id))
      have x1 : wr.cell? ⟨w.heap.size, 1, none⟩ = some (.bool ng) := HXr.out.cell 1
      clear HM HB HS HK H0 HB1 HN1 HX2 HK2
      by_cases hz : z = 0
      · subst hz
        obtain rfl : ng = false := HSG.out
        have hs0 : sl = [] := by rw [← HT.out]; unfold dd; rw [show (0 : Int).natAbs = 0 from rfl, decs_zero]; rfl
        subst hs0
        have hb0 : ((strOf []).toList == []) = true := by rw [Lib.toList_data]; rfl
        go_wp2
        go_ret
        exact ⟨rfl, HKr.out⟩
      · have hne : sl ≠ [] := by
          rw [← HT.out]
          intro e
          have h1 := dd_pos (N := z.natAbs) (by omega)
          rw [List.reverse_eq_nil_iff.1 e] at h1
          exact absurd h1 (by decide)
        have hb0 := strOf_ne hne
        have HZ := hide hz
        clear hne hz
        cases hng : ng with
        | true =>
          subst hng
          have hneg : z < 0 := of_decide_eq_true HSG.out.symm
          have HE := hide (show (ByteArray.mk #[45]) ++ strOf sl = txt z from by
            show strOf [45] ++ strOf sl = _
            rw [strOf_add]; unfold txt txtL; rw [if_pos hneg, if_neg HZ.out, HT.out])
          clear hneg
          go_wp2
          go_ret
          exact ⟨by rw [← HE.out]; rfl, HKr.out⟩
        | false =>
          subst hng
          have hneg : ¬ z < 0 := of_decide_eq_false HSG.out.symm
          have HE := hide (show strOf sl = txt z from by unfold txt txtL; rw [if_neg hneg, if_neg HZ.out, HT.out]; rfl)
          clear hneg
          go_wp2
          go_ret
          exact ⟨by rw [← HE.out]; rfl, HKr.out⟩
end Go.Proofs.Ytfehciiidmgopaa
