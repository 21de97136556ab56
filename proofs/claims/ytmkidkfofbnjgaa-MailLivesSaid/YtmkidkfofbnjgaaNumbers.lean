/- pigeonholelaw12: MailNumbers. -/
import Derived.Test.YtmkidkfofbnjgaaInv
namespace Go.Proofs.Ytmkidkfofbnjgaa
open Go.RowKit

set_option maxRecDepth 100000 in
theorem put_full {w wr : World} {b r i j : Nat} {us vs : List Tm} {P : Nat → Prop} (h : PInv w wr b r us vs i j P) (hl : us.length = 1024) (v0 v1 v2 v3 v4 v5 v6 : Value) :
    Calls Try.prog 10 #[.pointer (some ⟨b, 0, none⟩), .agg #[v0, v1, v2, v3, v4, v5, v6]] wr fun e w' => e = .returned (.int .i64 5) ∧ PInv w w' b r us vs i j P ∧ Keeps NoB wr w' := by
  have hk := (Keeps.refl NoB wr).alloc (.cells #[v0, v1, v2, v3, v4, v5, v6] 33)
  have HP := hide (h.fresh hk)
  have HK := hide hk
  obtain ⟨sv, L, A, c, css, h1, h2, _⟩ := HP.out
  obtain ⟨A', c', rfl, _⟩ := ownsRow_mk h1.one.box.row
  have hL : L.length = 1024 := by rw [← List.length_map (·.t), h2]; exact hl
  have k0 : (wr.alloc (.cells #[v0, v1, v2, v3, v4, v5, v6] 33)).cell? ⟨b, 0, none⟩ = some (.slice A' L.length c') := h1.one.box.blk.cell 0
  have k2 : (wr.alloc (.cells #[v0, v1, v2, v3, v4, v5, v6] 33)).cell? ⟨b, 2, none⟩ = some (.bool true) := h1.one.box.blk.cell 2
  rw [hL] at k0
  clear h hk h1 h2 hL
  go_enter Try.func10, Try.ntmps10
  go_wp2_with (go_at_call 32; refine (known_at b true _ k2).mono ?_; rintro e w' ⟨rfl, rfl⟩)
  go_ret
  exact ⟨rfl, HP.out, HK.out⟩
theorem len_p {w wr : World} {b r i j : Nat} {us vs : List Tm} {P : Nat → Prop} (h : PInv w wr b r us vs i j P) {n : Int} (hl : (us.length : Int) = n) :
    Calls Try.prog 13 #[.pointer (some ⟨b, 0, none⟩)] wr fun e w' => e = .returned (.int .i64 n) ∧ wr = w' := by
  obtain ⟨sv, L, A, c, css, h1, h2, _⟩ := h
  exact len_box' b sv L i n wr h1.one.box (by rw [← hl, ← h2, List.length_map])

def numsT (k : Nat) : List Tm := (List.range k).map fun (i : Nat) => flatT 5 ⟨#[]⟩ (i : Int)
theorem numsT_succ (k : Nat) : numsT (k + 1) = numsT k ++ [flatT 5 ⟨#[]⟩ (k : Int)] := by unfold numsT; rw [List.range_succ, List.map_append]; rfl
theorem numsT_len (k : Nat) : (numsT k).length = k := by simp [numsT]

theorem pinv_new (w : World) : PInv w ((w.alloc (.cells #[.slice none 0 0, .int .i64 0, .bool true] 61)).alloc (.cells #[.slice none 0 0, .int .i64 0] 27)) w.heap.size (w.heap.size + 1) [] [] 0 0 NoB :=
  ⟨_, [], _, _, [], pair_new w w (Keeps.refl _ _), rfl, fun _ h => h.elim⟩

/-- The take rounds' state. -/
def RoundsAt (w wr : World) (b r i : Nat) (P : Nat → Prop) : Prop := ∃ us q, PInv w wr b r us us q q P ∧ us.length ≤ 1024 ∧ (i = 0 → q = 0 ∧ us.length = 1024) ∧ (0 < i → us.length < 1024)
def SkipsAt (w wr : World) (b r i k : Nat) (us : List Tm) (P : Nat → Prop) : Prop := ∃ q, PInv w wr b r us us q q P ∧ (i = 0 → k = 0 → q = 0)
theorem take_less {us us' : List Tm} {q q' i : Nat} {t : Tm} {code : Int} (h : TakeAt us q t code us' q') (hl : us.length ≤ 1024) (h0 : i = 0 → q = 0 ∧ us.length = 1024) (h1 : 0 < i → us.length < 1024) : us'.length < 1024 := by
  rcases h with ⟨_, ht, rfl, _⟩ | ⟨_, hi, _, rfl, _⟩
  · have := (List.getElem?_eq_some_iff.1 ht).1
    rw [List.length_eraseIdx_of_lt this]; omega
  · rcases Nat.eq_zero_or_pos i with e | e
    · have := h0 e; omega
    · exact h1 e

set_option maxRecDepth 100000 in
set_option maxHeartbeats 8000000 in
theorem mail_numbers (w : World) : Calls Try.prog 3 #[] w fun e w' => e = .returned (.bool true) ∧ Keeps NoB w w' := by
  go_enter Try.func3, Try.ntmps3
  go_wp2_with (go_at_call 9; refine (new_any _).mono ?_; rintro e w' ⟨rfl, rfl⟩)
  have HP := hide (pinv_new w)
  generalize (w.alloc (.cells #[.slice none 0 0, .int .i64 0, .bool true] 61)).alloc (.cells #[.slice none 0 0, .int .i64 0] 27) = w1 at *
  generalize w.heap.size + 1 = r at *
  generalize w.heap.size = b at *
  go_loopg [3] 1024 (fun g s wr => ∃ k : Nat, k ≤ 1024 ∧ g = 1024 - k ∧ s = .int .i64 k ∧ PInv w wr b r (numsT k) (numsT k) 0 0 NoB)
  case atStart => exact ⟨0, Nat.zero_le _, rfl, rfl, HP.out⟩
  case round =>
    obtain ⟨k, hk, rfl, rfl, hinv⟩ := hrel
    have HI := hide hinv
    clear hinv HP
    by_cases hlt : k < 1024
    · have hk1 : (k : Int) < 1024 := by omega
      go_wp2_with fail
      refine (put_p HI.out (by rw [numsT_len]; exact hlt) (flat_in wr (fun _ => True) false 5 ⟨#[]⟩ k)).mono ?_
      rintro e wA ⟨rfl, h1, _⟩
      have HA := hide h1
      clear h1
      go_wp2_with fail
      refine (ref_put_p HA.out (by rw [numsT_len]; exact hlt) (flat_in wA _ false 5 ⟨#[]⟩ k)).mono ?_
      rintro e wB ⟨rfl, h1, _⟩
      have HB := hide (show PInv w wB b r (numsT (k + 1)) (numsT (k + 1)) 0 0 NoB from by rw [numsT_succ]; exact h1)
      clear h1
      go_wp2_with fail
      go_roundg (1024 - (k + 1))
      case measure => omega
      case rel => exact ⟨k + 1, by omega, rfl, by go_num, HB.out⟩
    · obtain rfl : k = 1024 := by omega
      have hk1 : ¬ ((1024 : Nat) : Int) < 1024 := by omega
      have HN := hide (numsT_len 1024)
      generalize numsT 1024 = us at *
      go_wp2_with fail
      refine (letter_any ⟨#[97]⟩ _).mono ?_
      rintro e wA ⟨rfl, hkA⟩
      have HA := hide (HI.out.fresh hkA)
      clear hkA
      go_wp2_with fail
      refine (put_full HA.out HN.out _ _ _ _ _ _ _).mono ?_
      rintro e wB ⟨rfl, h1, _⟩
      have HB := hide h1
      clear h1 HI HA
      go_wp2_with (go_at_call 13; refine (len_p HB.out (n := 1024) (by rw [HN.out]; rfl)).mono ?_; rintro e w' ⟨rfl, rfl⟩)
      have HC := hide (HB.out.more ((Keeps.refl NoB wB).alloc (.cells #[.int .i64 0, .int .i64 1, .int .i64 1021, .int .i64 500, .int .i64 0, .int .i64 1019] 3)))
      have HSK := hide (Blk.new wB 3 #[.int .i64 0, .int .i64 1, .int .i64 1021, .int .i64 500, .int .i64 0, .int .i64 1019])
      have hPs : (fun k => NoB k ∨ wB.heap.size ≤ k ∧ k < (wB.alloc (.cells #[.int .i64 0, .int .i64 1, .int .i64 1021, .int .i64 500, .int .i64 0, .int .i64 1019] 3)).heap.size) wB.heap.size := .inr ⟨Nat.le_refl _, HSK.out.lt⟩
      have HPS := hide hPs
      clear hPs HB
      generalize (fun k => NoB k ∨ wB.heap.size ≤ k ∧ k < (wB.alloc (.cells #[.int .i64 0, .int .i64 1, .int .i64 1021, .int .i64 500, .int .i64 0, .int .i64 1019] 3)).heap.size) = P at *
      generalize wB.alloc (.cells #[.int .i64 0, .int .i64 1, .int .i64 1021, .int .i64 500, .int .i64 0, .int .i64 1019] 3) = wC at *
      generalize wB.heap.size = sb at *
      go_loopg [5] 6 (fun g s wr => ∃ i : Nat, i ≤ 6 ∧ g = 6 - i ∧ s = .int .i64 i ∧ RoundsAt w wr b r i P ∧ Keeps (fun k => ¬ P k) wC wr)
      case atStart => exact ⟨0, Nat.zero_le _, rfl, rfl, ⟨us, 0, HC.out, Nat.le_of_eq HN.out, fun _ => ⟨rfl, HN.out⟩, fun h => absurd h (by omega)⟩, Keeps.refl _ _⟩
      case round =>
        obtain ⟨i, hi6, rfl, rfl, ⟨vs, q0, hinv, hv1, hv2, hv3⟩, hkp⟩ := hrel
        have HI := hide hinv; have HV1 := hide hv1; have HV2 := hide hv2; have HV3 := hide hv3; have HKP := hide hkp
        clear hinv hv1 hv2 hv3 hkp HC HN
        by_cases hlt : i < 6
        · have hi1 : (i : Int) < 6 := by omega
          have hi0 : (0 : Int) ≤ i := by omega
          obtain ⟨s, hs, hs0, hs1⟩ : ∃ s : Nat, (#[.int .i64 0, .int .i64 1, .int .i64 1021, .int .i64 500, .int .i64 0, .int .i64 1019] : Array Value)[i]? = some (.int .i64 s) ∧ (i = 0 → s = 0) ∧ s ≤ 1021 := by
            rcases (by omega : i = 0 ∨ i = 1 ∨ i = 2 ∨ i = 3 ∨ i = 4 ∨ i = 5) with rfl | rfl | rfl | rfl | rfl | rfl
            · exact ⟨0, rfl, fun _ => rfl, by omega⟩
            · exact ⟨1, rfl, fun h => (by omega), by omega⟩
            · exact ⟨1021, rfl, fun h => (by omega), by omega⟩
            · exact ⟨500, rfl, fun h => (by omega), by omega⟩
            · exact ⟨0, rfl, fun h => (by omega), by omega⟩
            · exact ⟨1019, rfl, fun h => (by omega), by omega⟩
          have HS := hide hs; have HS0 := hide hs0
          clear hs hs0
          go_wp2_with fail
          go_loopg [6] s (fun g s6 wx => ∃ k : Nat, k ≤ s ∧ g = s - k ∧ s6 = .int .i64 k ∧ SkipsAt w wx b r i k vs P ∧ Keeps (fun k => ¬ P k) wC wx)
          case atStart => exact ⟨0, Nat.zero_le _, rfl, rfl, ⟨q0, HI.out, fun h _ => (HV2.out h).1⟩, HKP.out⟩
          case round =>
            obtain ⟨k, hks, rfl, rfl, ⟨q, hinv, hq0⟩, hkp⟩ := hrel
            have HI := hide hinv; have HQ0 := hide hq0; have HKP := hide hkp
            have c0 : wr.cell? ⟨sb, i, none⟩ = some (.int .i64 s) := by rw [(HSK.out.keep hkp (fun h => h HPS.out)).cell i]; exact HS.out
            clear hinv hq0 hkp
            by_cases hlt2 : k < s
            · have hk1 : (k : Int) < s := by omega
              obtain ⟨code, q', hsk⟩ := skipAt_any vs q
              have HSA := hide hsk
              have hcc : (code != code) = false := by simp
              clear hsk
              go_wp2_with fail
              refine (skip_p HI.out HV1.out HSA.out).mono ?_
              rintro e wA ⟨rfl, h1, h2⟩
              have HA := hide h1
              have HKA := hide (HKP.out.trans' h2 (fun _ _ h => h) (fun _ _ h => h) : Keeps (fun k => ¬ P k) wC wA)
              clear h1 h2 HI HKP c0
              go_wp2_with fail
              refine (ref_skip_p HA.out HV1.out HSA.out).mono ?_
              rintro e wB ⟨rfl, h1, h2⟩
              have HB := hide h1
              have HKB := hide (HKA.out.trans' h2 (fun _ _ h => h) (fun _ _ h => h) : Keeps (fun k => ¬ P k) wC wB)
              clear h1 h2 HA HKA
              go_wp2_with fail
              go_roundg (s - (k + 1))
              case measure => omega
              case rel => exact ⟨k + 1, by omega, rfl, by go_num, ⟨q', HB.out, fun _ h => absurd h (Nat.succ_ne_zero k)⟩, HKB.out⟩
            · obtain rfl : s = k := by omega
              have hk1 : ¬ (s : Int) < s := by omega
              obtain ⟨t, code, us', q', htk⟩ := takeAt_any vs q
              have HTK := hide htk
              have HLS := hide (take_less htk HV1.out (fun h => ⟨HQ0.out h (HS0.out h), (HV2.out h).2⟩) HV3.out)
              have hcc : (code != code) = false := by simp
              clear htk
              go_wp2_with fail
              refine (take_p HI.out HV1.out HTK.out).mono ?_
              rintro e wA ⟨kd, ng, la, ln, lc, tx, nm, ia, im, ic, ta, tn, tc, T, rfl, hT, h1, h2, _⟩
              have hka := (Keeps.refl NoB wA).alloc (.cells #[.int .u8 kd, .bool ng, .slice la ln lc, .string tx, .int .i64 nm, .slice ia im ic, .slice ta tn tc] 33)
              have HA := hide (h1.more hka)
              have HKA := hide (HKP.out.trans' h2 (fun _ _ h => h) (fun _ _ h => h) : Keeps (fun k => ¬ P k) wC wA)
              have HBA := hide (Blk.new wA 33 #[.int .u8 kd, .bool ng, .slice la ln lc, .string tx, .int .i64 nm, .slice ia im ic, .slice ta tn tc])
              obtain ⟨_, _, _, _, _, _, _, _, _, _, _, _, _, e, -, -, hnm⟩ := hT.cells
              simp only [List.cons.injEq, Value.int.injEq, true_and] at e
              obtain ⟨-, -, -, -, e4, -⟩ := e
              have HNM := hide (e4.trans hnm)
              clear e4 hnm hT h1 h2 hka HI HKP c0
              go_wp2_with fail
              refine (ref_take_p HA.out HV1.out HTK.out).mono ?_
              rintro e wB ⟨kd', ng', la', ln', lc', tx', nm', ia', im', ic', ta', tn', tc', rfl, hT, h1, h2⟩
              have hka := (Keeps.refl NoB wB).alloc (.cells #[.int .u8 kd', .bool ng', .slice la' ln' lc', .string tx', .int .i64 nm', .slice ia' im' ic', .slice ta' tn' tc'] 33)
              have HB := hide ((h1.fresh hka).less (P' := P) (fun k h => .inl (.inl h)))
              have HKB := hide (((HKA.out.alloc (.cells #[.int .u8 kd, .bool ng, .slice la ln lc, .string tx, .int .i64 nm, .slice ia im ic, .slice ta tn tc] 33)).trans' h2 (fun _ _ h => h) (fun _ _ h hp => h (.inl (.inl hp))) : Keeps (fun k => ¬ P k) wC wB).alloc (.cells #[.int .u8 kd', .bool ng', .slice la' ln' lc', .string tx', .int .i64 nm', .slice ia' im' ic', .slice ta' tn' tc'] 33))
              have hblk := (HBA.out.keep h2 (fun h => h (.inr ⟨Nat.le_refl _, HBA.out.lt⟩))).alloc (.cells #[.int .u8 kd', .bool ng', .slice la' ln' lc', .string tx', .int .i64 nm', .slice ia' im' ic', .slice ta' tn' tc'] 33)
              have x4 : (wB.alloc (.cells #[.int .u8 kd', .bool ng', .slice la' ln' lc', .string tx', .int .i64 nm', .slice ia' im' ic', .slice ta' tn' tc'] 33)).cell? ⟨wA.heap.size, 4, none⟩ = some (.int .i64 nm) := hblk.cell 4
              have y4 : (wB.alloc (.cells #[.int .u8 kd', .bool ng', .slice la' ln' lc', .string tx', .int .i64 nm', .slice ia' im' ic', .slice ta' tn' tc'] 33)).cell? ⟨wB.heap.size, 4, none⟩ = some (.int .i64 nm') := (Blk.new wB 33 #[.int .u8 kd', .bool ng', .slice la' ln' lc', .string tx', .int .i64 nm', .slice ia' im' ic', .slice ta' tn' tc']).cell 4
              obtain ⟨_, _, _, _, _, _, _, _, _, _, _, _, _, e, -, -, hnm⟩ := hT.cells
              simp only [List.cons.injEq, Value.int.injEq, true_and] at e
              obtain ⟨-, -, -, -, e4, -⟩ := e
              have hnn : (nm != nm') = false := by rw [HNM.out, e4, hnm]; simp
              clear e4 hnm hT h1 h2 hka hblk HA HKA HBA
              go_wp2_with fail
              refine (like_p HB.out (Nat.le_of_lt HLS.out)).mono ?_
              rintro e wD ⟨rfl, h1, h2⟩
              have HD := hide h1
              have HKD := hide (HKB.out.trans' h2 (fun _ _ h => h) (fun _ _ h => h.elim) : Keeps (fun k => ¬ P k) wC wD)
              clear h1 h2 HB HKB x4 y4
              go_wp2_with fail
              go_roundg (6 - (i + 1))
              case measure => omega
              case rel => exact ⟨i + 1, by omega, rfl, by go_num, ⟨us', q', HD.out, Nat.le_of_lt HLS.out, fun h => absurd h (by omega), fun _ => HLS.out⟩, HKD.out⟩
        · obtain rfl : i = 6 := by omega
          have hi1 : ¬ ((6 : Nat) : Int) < 6 := by omega
          have HL := hide (HV3.out (by omega))
          have HI := hide (HI.out.less (P' := NoB) (fun _ h => h.elim))
          clear HV1 HV2 HV3 HKP HSK
          go_wp2_with fail
          refine (letter_any ⟨#[98]⟩ _).mono ?_
          rintro e wA ⟨rfl, hkA⟩
          have HA := hide (HI.out.fresh hkA)
          clear hkA
          go_wp2_with fail
          refine (put_p HA.out HL.out (flat_in wA (fun _ => True) false 2 ⟨#[98]⟩ 0)).mono ?_
          rintro e wB ⟨rfl, h1, _⟩
          have HB := hide h1
          clear h1 HI HA
          go_wp2_with fail
          refine (letter_any ⟨#[98]⟩ _).mono ?_
          rintro e wD ⟨rfl, hkA⟩
          have HD := hide (HB.out.fresh hkA)
          clear hkA
          go_wp2_with fail
          refine (ref_put_p HD.out HL.out (flat_in wD _ false 2 ⟨#[98]⟩ 0)).mono ?_
          rintro e wE ⟨rfl, h1, _⟩
          have HE := hide h1
          have HL2 := hide (show (vs ++ [flatT 2 ⟨#[98]⟩ 0]).length ≤ 1024 from by rw [List.length_append]; exact HL.out)
          generalize vs ++ [flatT 2 ⟨#[98]⟩ 0] = xs at *
          clear h1 HB HD
          go_wp2_with fail
          refine (like_p HE.out HL2.out).mono ?_
          rintro e wF ⟨rfl, h1, _⟩
          have HF := hide h1
          clear h1 HE
          go_wp2_with fail
          go_loopg [] (xs.length + 1 - q0) (fun g wr => ∃ q, g = xs.length + 1 - q ∧ PInv w wr b r xs xs q q NoB)
          case atStart => exact ⟨q0, rfl, HF.out⟩
          case round =>
            obtain ⟨q, hg, hinv⟩ := hrel
            have HI := hide hinv; have HG := hide hg
            clear hinv hg HF
            by_cases hql : q < xs.length
            · have hb0 : ((0 : Int) == 0) = true := by simp
              go_wp2_with fail
              refine (skip_p HI.out HL2.out (.inl ⟨rfl, hql, rfl⟩)).mono ?_
              rintro e wA ⟨rfl, h1, _⟩
              have HA := hide h1
              clear h1 HI
              go_wp2_with fail
              refine (ref_skip_p HA.out HL2.out (.inl ⟨rfl, hql, rfl⟩)).mono ?_
              rintro e wB ⟨rfl, h1, _⟩
              have HB := hide h1
              clear h1 HA
              go_wp2_with fail
              have HG2 := HG.out
              go_roundg (xs.length + 1 - (q + 1))
              case measure => omega
              case rel => exact ⟨q + 1, rfl, HB.out⟩
            · have hql2 : xs.length ≤ q := by omega
              go_wp2_with fail
              refine (skip_p HI.out HL2.out (.inr ⟨rfl, hql2, rfl⟩)).mono ?_
              rintro e wA ⟨rfl, h1, _⟩
              have HA := hide h1
              clear h1 HI
              go_wp2_with fail
              refine (take_p HA.out HL2.out (.inr ⟨rfl, hql2, rfl, rfl, rfl⟩)).mono ?_
              rintro e wB ⟨kd, ng, la, ln, lc, tx, nm, ia, im, ic, ta, tn, tc, T, rfl, hT, h1, h2, _⟩
              have HB := hide ((h1.fresh ((Keeps.refl NoB wB).alloc (.cells #[.int .u8 kd, .bool ng, .slice la ln lc, .string tx, .int .i64 nm, .slice ia im ic, .slice ta tn tc] 33))).less (P' := NoB) (fun _ h => h.elim))
              clear hT h1 h2 HA
              go_wp2_with fail
              refine (ref_skip_p HB.out HL2.out (.inr ⟨rfl, hql2, rfl⟩)).mono ?_
              rintro e wD ⟨rfl, h1, _⟩
              have HD := hide h1
              clear h1 HB
              go_wp2_with fail
              refine (like_p HD.out HL2.out).mono ?_
              rintro e wE ⟨rfl, h1, _⟩
              have HE := hide h1
              clear h1 HD
              go_wp2_with fail
              refine (awake_any wE).mono ?_
              rintro e wF ⟨rfl, hk⟩
              have HF := hide (HE.out.keep.trans' (Keeps.of_below hk NoB) (fun _ _ => id) (fun _ _ => id) : Keeps NoB w wF)
              clear hk HE
              go_wp2_with fail
              go_ret
              exact ⟨rfl, HF.out⟩
end Go.Proofs.Ytmkidkfofbnjgaa
