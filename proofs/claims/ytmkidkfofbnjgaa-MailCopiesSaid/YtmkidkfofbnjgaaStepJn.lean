/- pigeonholekit: Pick: the rest, never below nought. pigeonholelaw12: MailNumbers. One step, by the program and by the document: the answers are the same. -/
import Derived.Test.YtmkidkfofbnjgaaRows
import Derived.Test.YtmkidkfofbnjgaaSeqJn
import Derived.WalkKit
import Derived.WalkLawsBesides
import Derived.Test.YtmkidkfofbnjgaaInvJn
import Derived.Test.YtmkidkfofbnjgaaOverJn
namespace Go.Proofs.Ytmkidkfofbnjgaa
open Go.RowKit

theorem tmod_facts (a n : Int) (hn : 1 ≤ n) : a % n = (a.tmod n) % n ∧ a.tmod n < n ∧ -n < a.tmod n := by
  refine ⟨?_, Int.tmod_lt_of_pos a (by omega), ?_⟩
  · conv => lhs; rw [← Int.tmod_add_mul_tdiv a n]
    rw [Int.add_mul_emod_self_left]
  · have := Int.tmod_lt_of_pos (-a) (b := n) (by omega)
    rw [Int.neg_tmod] at this
    omega

set_option maxRecDepth 100000 in
theorem pick_any (a n : Int) (hn : 1 ≤ n) (hn2 : n ≤ 9223372036854775807) (w : World) : Calls Try.prog 22 #[.int .i64 a, .int .i64 n] w fun e w' => e = .returned (.int .i64 (a % n)) ∧ w = w' := by
  have hf := hide (tmod_facts a n hn)
  by_cases h : a.tmod n < 0
  · have hb : wrap64 (a.tmod n + n) = a.tmod n + n := by have := hf.out; unfold wrap64; omega
    have e : a % n = a.tmod n + n := by
      rw [hf.out.1, ← Int.add_emod_right, Int.emod_eq_of_lt (by have := hf.out; omega) (by omega)]
    have HE := hide e; clear e
    go_enter Try.func22, Try.ntmps22
    go_wp2
    go_ret
    exact ⟨by rw [HE.out, hb]; rfl, rfl⟩
  · have h0 : 0 ≤ a.tmod n := by omega
    have e : a % n = a.tmod n := by
      rw [hf.out.1, Int.emod_eq_of_lt h0 hf.out.2.1]
    have HE := hide e; clear e
    clear h
    go_enter Try.func22, Try.ntmps22
    go_wp2
    go_ret
    exact ⟨by rw [HE.out]; rfl, rfl⟩
end Go.Proofs.Ytmkidkfofbnjgaa
namespace Go.Proofs.Ytmkidkfofbnjgaa
open Go.RowKit

set_option maxRecDepth 100000 in
theorem put_full {w wr : World} {b r i j : Nat} {us vs : List Tm} {P : Nat → Prop} (h : PInv w wr b r us vs i j P) (hl : us.length = 1024) (v0 v1 v2 v3 v4 v5 v6 : Value) :
    Calls Try.prog 10 #[.pointer (some ⟨b, 0, none⟩), .agg #[v0, v1, v2, v3, v4, v5, v6]] wr fun e w' => e = .returned (.int .i64 5) ∧ PInv w w' b r us vs i j P ∧ Keeps NoB wr w' := by
  have hk := (Keeps.refl NoB wr).alloc (.cells #[v0, v1, v2, v3, v4, v5, v6] 33)
  have HP := hide (h.fresh hk)
  have HK := hide hk
  obtain ⟨sv, L, A, c, css, h1, h2, _⟩ := HP.out
  obtain ⟨A', c', rfl, _⟩ := ownsRow_mk h1.one.box.row
  have hL : L.length = 1024 := by rw [← List.length_map (·.t), h2]; exact hl
  have k0 : (wr.alloc (.cells #[v0, v1, v2, v3, v4, v5, v6] 33)).cell? ⟨b, 0, none⟩ = some (.slice A' L.length c') := h1.one.box.blk.cell 0
  have k2 : (wr.alloc (.cells #[v0, v1, v2, v3, v4, v5, v6] 33)).cell? ⟨b, 2, none⟩ = some (.bool true) := h1.one.box.blk.cell 2
  rw [hL] at k0
  clear h hk h1 h2 hL
  go_enter Try.func10, Try.ntmps10
  go_wp2_with (go_at_call 32; refine (known_at b true _ k2).mono ?_; rintro e w' ⟨rfl, rfl⟩)
  go_ret
  exact ⟨rfl, HP.out, HK.out⟩
theorem len_p {w wr : World} {b r i j : Nat} {us vs : List Tm} {P : Nat → Prop} (h : PInv w wr b r us vs i j P) {n : Int} (hl : (us.length : Int) = n) :
    Calls Try.prog 13 #[.pointer (some ⟨b, 0, none⟩)] wr fun e w' => e = .returned (.int .i64 n) ∧ wr = w' := by
  obtain ⟨sv, L, A, c, css, h1, h2, _⟩ := h
  exact len_box' b sv L i n wr h1.one.box (by rw [← hl, ← h2, List.length_map])

def numsT (k : Nat) : List Tm := (List.range k).map fun (i : Nat) => flatT 5 ⟨#[]⟩ (i : Int)
theorem numsT_succ (k : Nat) : numsT (k + 1) = numsT k ++ [flatT 5 ⟨#[]⟩ (k : Int)] := by unfold numsT; rw [List.range_succ, List.map_append]; rfl
theorem numsT_len (k : Nat) : (numsT k).length = k := by simp [numsT]

theorem pinv_new (w : World) : PInv w ((w.alloc (.cells #[.slice none 0 0, .int .i64 0, .bool true] 61)).alloc (.cells #[.slice none 0 0, .int .i64 0] 27)) w.heap.size (w.heap.size + 1) [] [] 0 0 NoB :=
  ⟨_, [], _, _, [], pair_new w w (Keeps.refl _ _), rfl, fun _ h => h.elim⟩

/-- The take rounds' state. -/
def RoundsAt (w wr : World) (b r i : Nat) (P : Nat → Prop) : Prop := ∃ us q, PInv w wr b r us us q q P ∧ us.length ≤ 1024 ∧ (i = 0 → q = 0 ∧ us.length = 1024) ∧ (0 < i → us.length < 1024)
def SkipsAt (w wr : World) (b r i k : Nat) (us : List Tm) (P : Nat → Prop) : Prop := ∃ q, PInv w wr b r us us q q P ∧ (i = 0 → k = 0 → q = 0)
theorem take_less {us us' : List Tm} {q q' i : Nat} {t : Tm} {code : Int} (h : TakeAt us q t code us' q') (hl : us.length ≤ 1024) (h0 : i = 0 → q = 0 ∧ us.length = 1024) (h1 : 0 < i → us.length < 1024) : us'.length < 1024 := by
  rcases h with ⟨_, ht, rfl, _⟩ | ⟨_, hi, _, rfl, _⟩
  · have := (List.getElem?_eq_some_iff.1 ht).1
    rw [List.length_eraseIdx_of_lt this]; omega
  · rcases Nat.eq_zero_or_pos i with e | e
    · have := h0 e; omega
    · exact h1 e

set_option maxRecDepth 100000 in
set_option maxHeartbeats 8000000 in
theorem mail_numbers (w : World) : Calls Try.prog 3 #[] w fun e w' => e = .returned (.bool true) ∧ Keeps NoB w w' := by
  go_enter Try.func3, Try.ntmps3
  go_wp2_with (go_at_call 9; refine (new_any _).mono ?_; rintro e w' ⟨rfl, rfl⟩)
  have HP := hide (pinv_new w)
  generalize (w.alloc (.cells #[.slice none 0 0, .int .i64 0, .bool true] 61)).alloc (.cells #[.slice none 0 0, .int .i64 0] 27) = w1 at *
  generalize w.heap.size + 1 = r at *
  generalize w.heap.size = b at *
  go_loopg [3] 1024 (fun g s wr => ∃ k : Nat, k ≤ 1024 ∧ g = 1024 - k ∧ s = .int .i64 k ∧ PInv w wr b r (numsT k) (numsT k) 0 0 NoB)
  case atStart => exact ⟨0, Nat.zero_le _, rfl, rfl, HP.out⟩
  case round =>
    obtain ⟨k, hk, rfl, rfl, hinv⟩ := hrel
    have HI := hide hinv
    clear hinv HP
    by_cases hlt : k < 1024
    · have hk1 : (k : Int) < 1024 := by omega
      go_wp2_with fail
      refine (put_p HI.out (by rw [numsT_len]; exact hlt) (flat_in wr (fun _ => True) false 5 ⟨#[]⟩ k)).mono ?_
      rintro e wA ⟨rfl, h1, _⟩
      have HA := hide h1
      clear h1
      go_wp2_with fail
      refine (ref_put_p HA.out (by rw [numsT_len]; exact hlt) (flat_in wA _ false 5 ⟨#[]⟩ k)).mono ?_
      rintro e wB ⟨rfl, h1, _⟩
      have HB := hide (show PInv w wB b r (numsT (k + 1)) (numsT (k + 1)) 0 0 NoB from by rw [numsT_succ]; exact h1)
      clear h1
      go_wp2_with fail
      go_roundg (1024 - (k + 1))
      case measure => omega
      case rel => exact ⟨k + 1, by omega, rfl, by go_num, HB.out⟩
    · obtain rfl : k = 1024 := by omega
      have hk1 : ¬ ((1024 : Nat) : Int) < 1024 := by omega
      have HN := hide (numsT_len 1024)
      generalize numsT 1024 = us at *
      go_wp2_with fail
      refine (letter_any ⟨#[97]⟩ _).mono ?_
      rintro e wA ⟨rfl, hkA⟩
      have HA := hide (HI.out.fresh hkA)
      clear hkA
      go_wp2_with fail
      refine (put_full HA.out HN.out _ _ _ _ _ _ _).mono ?_
      rintro e wB ⟨rfl, h1, _⟩
      have HB := hide h1
      clear h1 HI HA
      go_wp2_with (go_at_call 13; refine (len_p HB.out (n := 1024) (by rw [HN.out]; rfl)).mono ?_; rintro e w' ⟨rfl, rfl⟩)
      have HC := hide (HB.out.more ((Keeps.refl NoB wB).alloc (.cells #[.int .i64 0, .int .i64 1, .int .i64 1021, .int .i64 500, .int .i64 0, .int .i64 1019] 3)))
      have HSK := hide (Blk.new wB 3 #[.int .i64 0, .int .i64 1, .int .i64 1021, .int .i64 500, .int .i64 0, .int .i64 1019])
      have hPs : (fun k => NoB k ∨ wB.heap.size ≤ k ∧ k < (wB.alloc (.cells #[.int .i64 0, .int .i64 1, .int .i64 1021, .int .i64 500, .int .i64 0, .int .i64 1019] 3)).heap.size) wB.heap.size := .inr ⟨Nat.le_refl _, HSK.out.lt⟩
      have HPS := hide hPs
      clear hPs HB
      generalize (fun k => NoB k ∨ wB.heap.size ≤ k ∧ k < (wB.alloc (.cells #[.int .i64 0, .int .i64 1, .int .i64 1021, .int .i64 500, .int .i64 0, .int .i64 1019] 3)).heap.size) = P at *
      generalize wB.alloc (.cells #[.int .i64 0, .int .i64 1, .int .i64 1021, .int .i64 500, .int .i64 0, .int .i64 1019] 3) = wC at *
      generalize wB.heap.size = sb at *
      go_loopg [5] 6 (fun g s wr => ∃ i : Nat, i ≤ 6 ∧ g = 6 - i ∧ s = .int .i64 i ∧ RoundsAt w wr b r i P ∧ Keeps (fun k => ¬ P k) wC wr)
      case atStart => exact ⟨0, Nat.zero_le _, rfl, rfl, ⟨us, 0, HC.out, Nat.le_of_eq HN.out, fun _ => ⟨rfl, HN.out⟩, fun h => absurd h (by omega)⟩, Keeps.refl _ _⟩
      case round =>
        obtain ⟨i, hi6, rfl, rfl, ⟨vs, q0, hinv, hv1, hv2, hv3⟩, hkp⟩ := hrel
        have HI := hide hinv; have HV1 := hide hv1; have HV2 := hide hv2; have HV3 := hide hv3; have HKP := hide hkp
        clear hinv hv1 hv2 hv3 hkp HC HN
        by_cases hlt : i < 6
        · have hi1 : (i : Int) < 6 := by omega
          have hi0 : (0 : Int) ≤ i := by omega
          obtain ⟨s, hs, hs0, hs1⟩ : ∃ s : Nat, (#[.int .i64 0, .int .i64 1, .int .i64 1021, .int .i64 500, .int .i64 0, .int .i64 1019] : Array Value)[i]? = some (.int .i64 s) ∧ (i = 0 → s = 0) ∧ s ≤ 1021 := by
            rcases (by omega : i = 0 ∨ i = 1 ∨ i = 2 ∨ i = 3 ∨ i = 4 ∨ i = 5) with rfl | rfl | rfl | rfl | rfl | rfl
            · exact ⟨0, rfl, fun _ => rfl, by omega⟩
            · exact ⟨1, rfl, fun h => (by omega), by omega⟩
            · exact ⟨1021, rfl, fun h => (by omega), by omega⟩
            · exact ⟨500, rfl, fun h => (by omega), by omega⟩
            · exact ⟨0, rfl, fun h => (by omega), by omega⟩
            · exact ⟨1019, rfl, fun h => (by omega), by omega⟩
          have HS := hide hs; have HS0 := hide hs0
          clear hs hs0
          go_wp2_with fail
          go_loopg [6] s (fun g s6 wx => ∃ k : Nat, k ≤ s ∧ g = s - k ∧ s6 = .int .i64 k ∧ SkipsAt w wx b r i k vs P ∧ Keeps (fun k => ¬ P k) wC wx)
          case atStart => exact ⟨0, Nat.zero_le _, rfl, rfl, ⟨q0, HI.out, fun h _ => (HV2.out h).1⟩, HKP.out⟩
          case round =>
            obtain ⟨k, hks, rfl, rfl, ⟨q, hinv, hq0⟩, hkp⟩ := hrel
            have HI := hide hinv; have HQ0 := hide hq0; have HKP := hide hkp
            have c0 : wr.cell? ⟨sb, i, none⟩ = some (.int .i64 s) := by rw [(HSK.out.keep hkp (fun h => h HPS.out)).cell i]; exact HS.out
            clear hinv hq0 hkp
            by_cases hlt2 : k < s
            · have hk1 : (k : Int) < s := by omega
              obtain ⟨code, q', hsk⟩ := skipAt_any vs q
              have HSA := hide hsk
              have hcc : (code != code) = false := by simp
              clear hsk
              go_wp2_with fail
              refine (skip_p HI.out HV1.out HSA.out).mono ?_
              rintro e wA ⟨rfl, h1, h2⟩
              have HA := hide h1
              have HKA := hide (HKP.out.trans' h2 (fun _ _ h => h) (fun _ _ h => h) : Keeps (fun k => ¬ P k) wC wA)
              clear h1 h2 HI HKP c0
              go_wp2_with fail
              refine (ref_skip_p HA.out HV1.out HSA.out).mono ?_
              rintro e wB ⟨rfl, h1, h2⟩
              have HB := hide h1
              have HKB := hide (HKA.out.trans' h2 (fun _ _ h => h) (fun _ _ h => h) : Keeps (fun k => ¬ P k) wC wB)
              clear h1 h2 HA HKA
              go_wp2_with fail
              go_roundg (s - (k + 1))
              case measure => omega
              case rel => exact ⟨k + 1, by omega, rfl, by go_num, ⟨q', HB.out, fun _ h => absurd h (Nat.succ_ne_zero k)⟩, HKB.out⟩
            · obtain rfl : s = k := by omega
              have hk1 : ¬ (s : Int) < s := by omega
              obtain ⟨t, code, us', q', htk⟩ := takeAt_any vs q
              have HTK := hide htk
              have HLS := hide (take_less htk HV1.out (fun h => ⟨HQ0.out h (HS0.out h), (HV2.out h).2⟩) HV3.out)
              have hcc : (code != code) = false := by simp
              clear htk
              go_wp2_with fail
              refine (take_p HI.out HV1.out HTK.out).mono ?_
              rintro e wA ⟨kd, ng, la, ln, lc, tx, nm, ia, im, ic, ta, tn, tc, T, rfl, hT, h1, h2, _⟩
              have hka := (Keeps.refl NoB wA).alloc (.cells #[.int .u8 kd, .bool ng, .slice la ln lc, .string tx, .int .i64 nm, .slice ia im ic, .slice ta tn tc] 33)
              have HA := hide (h1.more hka)
              have HKA := hide (HKP.out.trans' h2 (fun _ _ h => h) (fun _ _ h => h) : Keeps (fun k => ¬ P k) wC wA)
              have HBA := hide (Blk.new wA 33 #[.int .u8 kd, .bool ng, .slice la ln lc, .string tx, .int .i64 nm, .slice ia im ic, .slice ta tn tc])
              obtain ⟨_, _, _, _, _, _, _, _, _, _, _, _, _, e, -, -, hnm⟩ := hT.cells
              simp only [List.cons.injEq, Value.int.injEq, true_and] at e
              obtain ⟨-, -, -, -, e4, -⟩ := e
              have HNM := hide (e4.trans hnm)
              clear e4 hnm hT h1 h2 hka HI HKP c0
              go_wp2_with fail
              refine (ref_take_p HA.out HV1.out HTK.out).mono ?_
              rintro e wB ⟨kd', ng', la', ln', lc', tx', nm', ia', im', ic', ta', tn', tc', rfl, hT, h1, h2⟩
              have hka := (Keeps.refl NoB wB).alloc (.cells #[.int .u8 kd', .bool ng', .slice la' ln' lc', .string tx', .int .i64 nm', .slice ia' im' ic', .slice ta' tn' tc'] 33)
              have HB := hide ((h1.fresh hka).less (P' := P) (fun k h => .inl (.inl h)))
              have HKB := hide (((HKA.out.alloc (.cells #[.int .u8 kd, .bool ng, .slice la ln lc, .string tx, .int .i64 nm, .slice ia im ic, .slice ta tn tc] 33)).trans' h2 (fun _ _ h => h) (fun _ _ h hp => h (.inl (.inl hp))) : Keeps (fun k => ¬ P k) wC wB).alloc (.cells #[.int .u8 kd', .bool ng', .slice la' ln' lc', .string tx', .int .i64 nm', .slice ia' im' ic', .slice ta' tn' tc'] 33))
              have hblk := (HBA.out.keep h2 (fun h => h (.inr ⟨Nat.le_refl _, HBA.out.lt⟩))).alloc (.cells #[.int .u8 kd', .bool ng', .slice la' ln' lc', .string tx', .int .i64 nm', .slice ia' im' ic', .slice ta' tn' tc'] 33)
              have x4 : (wB.alloc (.cells #[.int .u8 kd', .bool ng', .slice la' ln' lc', .string tx', .int .i64 nm', .slice ia' im' ic', .slice ta' tn' tc'] 33)).cell? ⟨wA.heap.size, 4, none⟩ = some (.int .i64 nm) := hblk.cell 4
              have y4 : (wB.alloc (.cells #[.int .u8 kd', .bool ng', .slice la' ln' lc', .string tx', .int .i64 nm', .slice ia' im' ic', .slice ta' tn' tc'] 33)).cell? ⟨wB.heap.size, 4, none⟩ = some (.int .i64 nm') := (Blk.new wB 33 #[.int .u8 kd', .bool ng', .slice la' ln' lc', .string tx', .int .i64 nm', .slice ia' im' ic', .slice ta' tn' tc']).cell 4
              obtain ⟨_, _, _, _, _, _, _, _, _, _, _, _, _, e, -, -, hnm⟩ := hT.cells
              simp only [List.cons.injEq, Value.int.injEq, true_and] at e
              obtain ⟨-, -, -, -, e4, -⟩ := e
              have hnn : (nm != nm') = false := by rw [HNM.out, e4, hnm]; simp
              clear e4 hnm hT h1 h2 hka hblk HA HKA HBA
              go_wp2_with fail
              refine (like_p HB.out (Nat.le_of_lt HLS.out)).mono ?_
              rintro e wD ⟨rfl, h1, h2⟩
              have HD := hide h1
              have HKD := hide (HKB.out.trans' h2 (fun _ _ h => h) (fun _ _ h => h.elim) : Keeps (fun k => ¬ P k) wC wD)
              clear h1 h2 HB HKB x4 y4
              go_wp2_with fail
              go_roundg (6 - (i + 1))
              case measure => omega
              case rel => exact ⟨i + 1, by omega, rfl, by go_num, ⟨us', q', HD.out, Nat.le_of_lt HLS.out, fun h => absurd h (by omega), fun _ => HLS.out⟩, HKD.out⟩
        · obtain rfl : i = 6 := by omega
          have hi1 : ¬ ((6 : Nat) : Int) < 6 := by omega
          have HL := hide (HV3.out (by omega))
          have HI := hide (HI.out.less (P' := NoB) (fun _ h => h.elim))
          clear HV1 HV2 HV3 HKP HSK
          go_wp2_with fail
          refine (letter_any ⟨#[98]⟩ _).mono ?_
          rintro e wA ⟨rfl, hkA⟩
          have HA := hide (HI.out.fresh hkA)
          clear hkA
          go_wp2_with fail
          refine (put_p HA.out HL.out (flat_in wA (fun _ => True) false 2 ⟨#[98]⟩ 0)).mono ?_
          rintro e wB ⟨rfl, h1, _⟩
          have HB := hide h1
          clear h1 HI HA
          go_wp2_with fail
          refine (letter_any ⟨#[98]⟩ _).mono ?_
          rintro e wD ⟨rfl, hkA⟩
          have HD := hide (HB.out.fresh hkA)
          clear hkA
          go_wp2_with fail
          refine (ref_put_p HD.out HL.out (flat_in wD _ false 2 ⟨#[98]⟩ 0)).mono ?_
          rintro e wE ⟨rfl, h1, _⟩
          have HE := hide h1
          have HL2 := hide (show (vs ++ [flatT 2 ⟨#[98]⟩ 0]).length ≤ 1024 from by rw [List.length_append]; exact HL.out)
          generalize vs ++ [flatT 2 ⟨#[98]⟩ 0] = xs at *
          clear h1 HB HD
          go_wp2_with fail
          refine (like_p HE.out HL2.out).mono ?_
          rintro e wF ⟨rfl, h1, _⟩
          have HF := hide h1
          clear h1 HE
          go_wp2_with fail
          go_loopg [] (xs.length + 1 - q0) (fun g wr => ∃ q, g = xs.length + 1 - q ∧ PInv w wr b r xs xs q q NoB)
          case atStart => exact ⟨q0, rfl, HF.out⟩
          case round =>
            obtain ⟨q, hg, hinv⟩ := hrel
            have HI := hide hinv; have HG := hide hg
            clear hinv hg HF
            by_cases hql : q < xs.length
            · have hb0 : ((0 : Int) == 0) = true := by simp
              go_wp2_with fail
              refine (skip_p HI.out HL2.out (.inl ⟨rfl, hql, rfl⟩)).mono ?_
              rintro e wA ⟨rfl, h1, _⟩
              have HA := hide h1
              clear h1 HI
              go_wp2_with fail
              refine (ref_skip_p HA.out HL2.out (.inl ⟨rfl, hql, rfl⟩)).mono ?_
              rintro e wB ⟨rfl, h1, _⟩
              have HB := hide h1
              clear h1 HA
              go_wp2_with fail
              have HG2 := HG.out
              go_roundg (xs.length + 1 - (q + 1))
              case measure => omega
              case rel => exact ⟨q + 1, rfl, HB.out⟩
            · have hql2 : xs.length ≤ q := by omega
              go_wp2_with fail
              refine (skip_p HI.out HL2.out (.inr ⟨rfl, hql2, rfl⟩)).mono ?_
              rintro e wA ⟨rfl, h1, _⟩
              have HA := hide h1
              clear h1 HI
              go_wp2_with fail
              refine (take_p HA.out HL2.out (.inr ⟨rfl, hql2, rfl, rfl, rfl⟩)).mono ?_
              rintro e wB ⟨kd, ng, la, ln, lc, tx, nm, ia, im, ic, ta, tn, tc, T, rfl, hT, h1, h2, _⟩
              have HB := hide ((h1.fresh ((Keeps.refl NoB wB).alloc (.cells #[.int .u8 kd, .bool ng, .slice la ln lc, .string tx, .int .i64 nm, .slice ia im ic, .slice ta tn tc] 33))).less (P' := NoB) (fun _ h => h.elim))
              clear hT h1 h2 HA
              go_wp2_with fail
              refine (ref_skip_p HB.out HL2.out (.inr ⟨rfl, hql2, rfl⟩)).mono ?_
              rintro e wD ⟨rfl, h1, _⟩
              have HD := hide h1
              clear h1 HB
              go_wp2_with fail
              refine (like_p HD.out HL2.out).mono ?_
              rintro e wE ⟨rfl, h1, _⟩
              have HE := hide h1
              clear h1 HD
              go_wp2_with fail
              refine (awake_any wE).mono ?_
              rintro e wF ⟨rfl, hk⟩
              have HF := hide (HE.out.keep.trans' (Keeps.of_below hk NoB) (fun _ _ => id) (fun _ _ => id) : Keeps NoB w wF)
              clear hk HE
              go_wp2_with fail
              go_ret
              exact ⟨rfl, HF.out⟩
end Go.Proofs.Ytmkidkfofbnjgaa
namespace Go.Proofs.Ytmkidkfofbnjgaa
open Go.RowKit


theorem PInv.setAt {w wr : World} {b r i j : Nat} {us vs : List Tm} {P : Nat → Prop} (h : PInv w wr b r us vs i j P) : PInv w (wr.setCell ⟨r, 1, none⟩ (.int .i64 0)) b r us vs i 0 P ∧ Keeps (fun k => ¬ P k) wr (wr.setCell ⟨r, 1, none⟩ (.int .i64 0)) := by
  obtain ⟨sv, L, A, c, css, h1, h2, h3⟩ := h
  have hk : Keeps (fun k => k = r) wr (wr.setCell ⟨r, 1, none⟩ (.int .i64 0)) := (Keeps.refl (fun k => k = r) wr).setCell (p := ⟨r, 1, none⟩) (.inl rfl) _
  have hk2 := hk.mono (fp' := refFp r A) (fun _ _ e => .inl e)
  have hr : RefAt (wr.setCell ⟨r, 1, none⟩ (.int .i64 0)) r A c css vs (fun k => k < w.heap.size) 0 :=
    ⟨h1.ref.blk.put 1 _, h1.ref.row.keep hk (fun k hk e => h1.ref.sep (e ▸ hk)), TermsIn.keep hk (fun k hk e => by have := h1.hr; omega) _ _ h1.ref.ok⟩
  exact ⟨⟨sv, L, A, c, css, h1.doc hk2 hr (Moved.same _ _), h2, fun k hk => ⟨(h3 k hk).1, Nat.lt_of_lt_of_le (h3 k hk).2.1 hk2.size, (h3 k hk).2.2⟩⟩, hk2.mono (fun k _ hf hp => (h3 k hp).2.2.2.1 hf)⟩
theorem takeAt_len {us us' : List Tm} {i i' : Nat} {t : Tm} {code : Int} (h : TakeAt us i t code us' i') : us'.length ≤ us.length := by
  rcases h with ⟨_, _, rfl, _⟩ | ⟨_, _, _, rfl, _⟩
  · have := List.length_eraseIdx_le us i; omega
  · exact Nat.le_refl _

theorem sizes_erase : ∀ (us : List Tm) (i : Nat), Tm.size.sizes (us.eraseIdx i) ≤ Tm.size.sizes us
  | [], _ => Nat.le_refl _
  | _ :: us, 0 => by rw [List.eraseIdx_cons_zero, Tm.size.sizes]; omega
  | _ :: us, i + 1 => by rw [List.eraseIdx_cons_succ, Tm.size.sizes, Tm.size.sizes]; have := sizes_erase us i; omega
/-- What is left of some, and what came behind them. -/
structure LessT (us us0 : List Tm) (t : Tm) : Prop where
  mem : ∀ u ∈ us, u ∈ us0 ∨ u = t
  sum : Tm.size.sizes us ≤ Tm.size.sizes us0 + t.size + 1
theorem LessT.same (us : List Tm) (t : Tm) : LessT us us t := ⟨fun _ h => .inl h, by omega⟩
theorem LessT.take {us us' : List Tm} {i i' : Nat} {t u : Tm} {code : Int} (h : TakeAt us i t code us' i') : LessT us' us u := by
  rcases h with ⟨_, _, rfl, _⟩ | ⟨_, _, _, rfl, _⟩
  · exact ⟨fun u hu => .inl (List.mem_of_mem_eraseIdx hu), by have := sizes_erase us i; omega⟩
  · exact LessT.same _ _
theorem LessT.snoc (us : List Tm) (t : Tm) : LessT (us ++ [t]) us t := by
  refine ⟨fun u hu => ?_, by rw [sizes_app]; simp only [Tm.size.sizes]; omega⟩
  rcases List.mem_append.1 hu with h | h
  · exact .inl h
  · exact .inr (List.mem_singleton.1 h)

def StepPost (w wr : World) (b r : Nat) (us0 : List Tm) (t : Tm) (P : Nat → Prop) (e : Ending) (w' : World) : Prop :=
  ∃ us q, e = .returned (.bool true) ∧ PInv w w' b r us us q q P ∧ us.length ≤ us0.length + 1 ∧ LessT us us0 t ∧ Keeps (fun k => ¬ P k) wr w'

set_option maxRecDepth 100000 in
set_option maxHeartbeats 4000000 in
theorem step_any (w wr : World) (b r q : Nat) (us : List Tm) (P : Nat → Prop) (h : PInv w wr b r us us q q P) (hl : us.length ≤ 1000) (op : Int) (kd nm : Int) (ng : Bool) (la ia ta : Option Addr) (ln lc im ic tn tc : Nat) (tx : ByteArray) (t : Tm) (ht : TermIn w (fun k => k < w.heap.size) false [.int .u8 kd, .bool ng, .slice la ln lc, .string tx, .int .i64 nm, .slice ia im ic, .slice ta tn tc] t) (hsm : smallT t) :
    Calls Try.prog 21 #[.pointer (some ⟨b, 0, none⟩), .pointer (some ⟨r, 0, none⟩), .agg #[.int .i64 op, .int .u8 kd, .bool ng, .slice la ln lc, .string tx, .int .i64 nm, .slice ia im ic, .slice ta tn tc]] wr (StepPost w wr b r us t P) := by
  have hka := (Keeps.refl NoB wr).alloc (.cells #[.int .i64 op, .int .u8 kd, .bool ng, .slice la ln lc, .string tx, .int .i64 nm, .slice ia im ic, .slice ta tn tc] 46)
  have hp := h.more hka
  have HX := hide (Blk.new wr 46 #[.int .i64 op, .int .u8 kd, .bool ng, .slice la ln lc, .string tx, .int .i64 nm, .slice ia im ic, .slice ta tn tc])
  obtain ⟨P1, hP1⟩ : ∃ P1 : Nat → Prop, P1 = fun k => P k ∨ wr.heap.size ≤ k ∧ k < (wr.alloc (.cells #[.int .i64 op, .int .u8 kd, .bool ng, .slice la ln lc, .string tx, .int .i64 nm, .slice ia im ic, .slice ta tn tc] 46)).heap.size := ⟨_, rfl⟩
  have HPX := hide (show P1 wr.heap.size from by rw [hP1]; exact .inr ⟨Nat.le_refl _, HX.out.lt⟩)
  have HPP := hide (show ∀ k, P k → P1 k from by rw [hP1]; exact fun k h => .inl h)
  rw [← hP1] at hp
  have HP := hide hp; have HT := hide ht; have HSM := hide hsm; have HKA := hide hka
  have hl2 : us.length ≤ 1024 := by omega
  have x0 : (wr.alloc (.cells #[.int .i64 op, .int .u8 kd, .bool ng, .slice la ln lc, .string tx, .int .i64 nm, .slice ia im ic, .slice ta tn tc] 46)).cell? ⟨wr.heap.size, 0, none⟩ = some (.int .i64 op) := HX.out.cell 0
  clear h hka hp hP1 ht hsm
  go_enter Try.func21, Try.ntmps21
  go_upto_block 0 with
    first
    | (go_at_call 22
       refine (pick_any op 9 (by omega) (by omega) _).mono ?_
       rintro e w' ⟨rfl, rfl⟩)
    | fail
  clear x0
  generalize wr.alloc (.cells #[.int .i64 op, .int .u8 kd, .bool ng, .slice la ln lc, .string tx, .int .i64 nm, .slice ia im ic, .slice ta tn tc] 46) = W0 at *
  generalize wr.heap.size = xb at *
  have hr0 : 0 ≤ op % 9 := Int.emod_nonneg _ (by omega)
  generalize op % 9 = z at *
  have HFIN := hide (fun (w2 : World) (us2 : List Tm) (q2 : Nat) (hp2 : PInv w w2 b r us2 us2 q2 q2 P1) (hl2 : us2.length ≤ us.length + 1) (hm2 : LessT us2 us t) (hk : Keeps (fun k => ¬ P1 k) W0 w2) => (show StepPost w wr b r us t P (.returned (.bool true)) w2 from
    ⟨us2, q2, rfl, hp2.less HPP.out, hl2, hm2, HKA.out.trans' hk (fun _ _ h => h.elim) (fun k _ h hp => h (HPP.out k hp))⟩))
  rcases (by omega : z = 0 ∨ (z = 1 ∨ z = 2) ∨ (z = 3 ∨ z = 4) ∨ 5 ≤ z) with rfl | hz | hz | hz
  · go_wp2_with fail
    refine (begin_p HP.out).mono ?_
    rintro e w2 ⟨rfl, hp2, hk2⟩
    have HP2 := hide hp2; have HK2 := hide hk2
    obtain ⟨A, c, _, c1, f1⟩ := hp2.rcell
    clear hp2 hk2
    go_wp2_with fail
    go_ret
    obtain ⟨hp3, hk3⟩ := HP2.out.setAt
    exact HFIN.out _ us 0 hp3 (by omega) (LessT.same _ _) (HK2.out.trans' hk3 (fun _ _ h => h) (fun _ _ h => h))
  · obtain ⟨code, q', hsk⟩ := skipAt_any us q
    have HSK := hide hsk
    have hcc : (code == code) = true := by simp
    clear hsk
    rcases hz with rfl | rfl
    · go_wp2_with fail
      refine (skip_p HP.out hl2 HSK.out).mono ?_
      rintro e w2 ⟨rfl, hp2, hk2⟩
      have HP2 := hide hp2; have HK2 := hide hk2
      clear hp2 hk2
      go_wp2_with fail
      refine (ref_skip_p HP2.out hl2 HSK.out).mono ?_
      rintro e w3 ⟨rfl, hp3, hk3⟩
      have HP3 := hide hp3; have HK3 := hide hk3
      clear hp3 hk3
      go_wp2_with fail
      go_ret
      exact HFIN.out _ us q' HP3.out (by omega) (LessT.same _ _) (HK2.out.trans' HK3.out (fun _ _ h => h) (fun _ _ h => h))
    · go_wp2_with fail
      refine (skip_p HP.out hl2 HSK.out).mono ?_
      rintro e w2 ⟨rfl, hp2, hk2⟩
      have HP2 := hide hp2; have HK2 := hide hk2
      clear hp2 hk2
      go_wp2_with fail
      refine (ref_skip_p HP2.out hl2 HSK.out).mono ?_
      rintro e w3 ⟨rfl, hp3, hk3⟩
      have HP3 := hide hp3; have HK3 := hide hk3
      clear hp3 hk3
      go_wp2_with fail
      go_ret
      exact HFIN.out _ us q' HP3.out (by omega) (LessT.same _ _) (HK2.out.trans' HK3.out (fun _ _ h => h) (fun _ _ h => h))
  · obtain ⟨t', code, us', q', htk⟩ := takeAt_any us q
    have HTK := hide htk; have HTKL := hide (takeAt_len htk)
    have hcc : (code == code) = true := by simp
    clear htk
    rcases hz with rfl | rfl
    · go_wp2_with fail
      refine (take_p HP.out hl2 HTK.out).mono ?_
      rintro e wA ⟨kd', ng', la', ln', lc', tx', nm', ia', im', ic', ta', tn', tc', T, rfl, hT, h1, h2, hd⟩
      have hka := (Keeps.refl NoB wA).alloc (.cells #[.int .u8 kd', .bool ng', .slice la' ln' lc', .string tx', .int .i64 nm', .slice ia' im' ic', .slice ta' tn' tc'] 33)
      have HBA := hide (Blk.new wA 33 #[.int .u8 kd', .bool ng', .slice la' ln' lc', .string tx', .int .i64 nm', .slice ia' im' ic', .slice ta' tn' tc'])
      obtain ⟨P2, hP2⟩ : ∃ P2 : Nat → Prop, P2 = fun k => (P1 k ∨ T k) ∨ wA.heap.size ≤ k ∧ k < (wA.alloc (.cells #[.int .u8 kd', .bool ng', .slice la' ln' lc', .string tx', .int .i64 nm', .slice ia' im' ic', .slice ta' tn' tc'] 33)).heap.size := ⟨_, rfl⟩
      have hpa := h1.more hka
      rw [← hP2] at hpa
      have HP2 := hide (show P2 wA.heap.size ∧ (∀ k, P1 k → P2 k) ∧ ∀ k, T k → P2 k from by rw [hP2]; exact ⟨.inr ⟨Nat.le_refl _, HBA.out.lt⟩, fun k h => .inl (.inl h), fun k h => .inl (.inr h)⟩)
      have HA := hide hpa; have HKA2 := hide (h2.alloc (.cells #[.int .u8 kd', .bool ng', .slice la' ln' lc', .string tx', .int .i64 nm', .slice ia' im' ic', .slice ta' tn' tc'] 33)); have HD := hide hd
      have HTA := hide (TermIn.keep hka (fun _ _ => id) _ _ hT)
      clear hP2 hpa hT h1 h2 hd hka
      go_wp2_with fail
      refine (ref_take_p HA.out hl2 HTK.out).mono ?_
      rintro e wB ⟨kd'', ng'', la'', ln'', lc'', tx'', nm'', ia'', im'', ic'', ta'', tn'', tc'', rfl, hT, h1, h2⟩
      have hka := (Keeps.refl NoB wB).alloc (.cells #[.int .u8 kd'', .bool ng'', .slice la'' ln'' lc'', .string tx'', .int .i64 nm'', .slice ia'' im'' ic'', .slice ta'' tn'' tc''] 33)
      have HB := hide (h1.fresh hka)
      have HKB := hide ((HKA2.out.trans' h2 (fun _ _ h => h) (fun k _ h hp => h (HP2.out.2.1 k hp)) : Keeps (fun k => ¬ P1 k) W0 wB).alloc (.cells #[.int .u8 kd'', .bool ng'', .slice la'' ln'' lc'', .string tx'', .int .i64 nm'', .slice ia'' im'' ic'', .slice ta'' tn'' tc''] 33))
      have HTB := hide (TermIn.keep hka (fun _ _ => id) _ _ hT)
      have HTA2 := hide (TermIn.keep hka (fun _ _ => id) _ _ (TermIn.keep h2 (fun k hk h => h (HP2.out.2.2 k hk)) _ _ HTA.out))
      have HBA2 := hide ((HBA.out.keep h2 (fun h => h HP2.out.1)).alloc (.cells #[.int .u8 kd'', .bool ng'', .slice la'' ln'' lc'', .string tx'', .int .i64 nm'', .slice ia'' im'' ic'', .slice ta'' tn'' tc''] 33))
      have HBB := hide (Blk.new wB 33 #[.int .u8 kd'', .bool ng'', .slice la'' ln'' lc'', .string tx'', .int .i64 nm'', .slice ia'' im'' ic'', .slice ta'' tn'' tc''])
      have x0 : (wB.alloc (.cells #[.int .u8 kd'', .bool ng'', .slice la'' ln'' lc'', .string tx'', .int .i64 nm'', .slice ia'' im'' ic'', .slice ta'' tn'' tc''] 33)).cell? ⟨wA.heap.size, 0, none⟩ = some (.int .u8 kd') := HBA2.out.cell 0
      have x1 : (wB.alloc (.cells #[.int .u8 kd'', .bool ng'', .slice la'' ln'' lc'', .string tx'', .int .i64 nm'', .slice ia'' im'' ic'', .slice ta'' tn'' tc''] 33)).cell? ⟨wA.heap.size, 1, none⟩ = some (.bool ng') := HBA2.out.cell 1
      have x2 : (wB.alloc (.cells #[.int .u8 kd'', .bool ng'', .slice la'' ln'' lc'', .string tx'', .int .i64 nm'', .slice ia'' im'' ic'', .slice ta'' tn'' tc''] 33)).cell? ⟨wA.heap.size, 2, none⟩ = some (.slice la' ln' lc') := HBA2.out.cell 2
      have x3 : (wB.alloc (.cells #[.int .u8 kd'', .bool ng'', .slice la'' ln'' lc'', .string tx'', .int .i64 nm'', .slice ia'' im'' ic'', .slice ta'' tn'' tc''] 33)).cell? ⟨wA.heap.size, 3, none⟩ = some (.string tx') := HBA2.out.cell 3
      have x4 : (wB.alloc (.cells #[.int .u8 kd'', .bool ng'', .slice la'' ln'' lc'', .string tx'', .int .i64 nm'', .slice ia'' im'' ic'', .slice ta'' tn'' tc''] 33)).cell? ⟨wA.heap.size, 4, none⟩ = some (.int .i64 nm') := HBA2.out.cell 4
      have x5 : (wB.alloc (.cells #[.int .u8 kd'', .bool ng'', .slice la'' ln'' lc'', .string tx'', .int .i64 nm'', .slice ia'' im'' ic'', .slice ta'' tn'' tc''] 33)).cell? ⟨wA.heap.size, 5, none⟩ = some (.slice ia' im' ic') := HBA2.out.cell 5
      have x6 : (wB.alloc (.cells #[.int .u8 kd'', .bool ng'', .slice la'' ln'' lc'', .string tx'', .int .i64 nm'', .slice ia'' im'' ic'', .slice ta'' tn'' tc''] 33)).cell? ⟨wA.heap.size, 6, none⟩ = some (.slice ta' tn' tc') := HBA2.out.cell 6
      have y0 : (wB.alloc (.cells #[.int .u8 kd'', .bool ng'', .slice la'' ln'' lc'', .string tx'', .int .i64 nm'', .slice ia'' im'' ic'', .slice ta'' tn'' tc''] 33)).cell? ⟨wB.heap.size, 0, none⟩ = some (.int .u8 kd'') := HBB.out.cell 0
      have y1 : (wB.alloc (.cells #[.int .u8 kd'', .bool ng'', .slice la'' ln'' lc'', .string tx'', .int .i64 nm'', .slice ia'' im'' ic'', .slice ta'' tn'' tc''] 33)).cell? ⟨wB.heap.size, 1, none⟩ = some (.bool ng'') := HBB.out.cell 1
      have y2 : (wB.alloc (.cells #[.int .u8 kd'', .bool ng'', .slice la'' ln'' lc'', .string tx'', .int .i64 nm'', .slice ia'' im'' ic'', .slice ta'' tn'' tc''] 33)).cell? ⟨wB.heap.size, 2, none⟩ = some (.slice la'' ln'' lc'') := HBB.out.cell 2
      have y3 : (wB.alloc (.cells #[.int .u8 kd'', .bool ng'', .slice la'' ln'' lc'', .string tx'', .int .i64 nm'', .slice ia'' im'' ic'', .slice ta'' tn'' tc''] 33)).cell? ⟨wB.heap.size, 3, none⟩ = some (.string tx'') := HBB.out.cell 3
      have y4 : (wB.alloc (.cells #[.int .u8 kd'', .bool ng'', .slice la'' ln'' lc'', .string tx'', .int .i64 nm'', .slice ia'' im'' ic'', .slice ta'' tn'' tc''] 33)).cell? ⟨wB.heap.size, 4, none⟩ = some (.int .i64 nm'') := HBB.out.cell 4
      have y5 : (wB.alloc (.cells #[.int .u8 kd'', .bool ng'', .slice la'' ln'' lc'', .string tx'', .int .i64 nm'', .slice ia'' im'' ic'', .slice ta'' tn'' tc''] 33)).cell? ⟨wB.heap.size, 5, none⟩ = some (.slice ia'' im'' ic'') := HBB.out.cell 5
      have y6 : (wB.alloc (.cells #[.int .u8 kd'', .bool ng'', .slice la'' ln'' lc'', .string tx'', .int .i64 nm'', .slice ia'' im'' ic'', .slice ta'' tn'' tc''] 33)).cell? ⟨wB.heap.size, 6, none⟩ = some (.slice ta'' tn'' tc'') := HBB.out.cell 6
      clear hT h1 h2 hka HTA HBA HA HKA2
      go_wp2_with fail
      refine (same_self t' (wB.alloc (.cells #[.int .u8 kd'', .bool ng'', .slice la'' ln'' lc'', .string tx'', .int .i64 nm'', .slice ia'' im'' ic'', .slice ta'' tn'' tc''] 33)) T _ true false [.int .u8 kd', .bool ng', .slice la' ln' lc', .string tx', .int .i64 nm', .slice ia' im' ic', .slice ta' tn' tc'] [.int .u8 kd'', .bool ng'', .slice la'' ln'' lc'', .string tx'', .int .i64 nm'', .slice ia'' im'' ic'', .slice ta'' tn'' tc''] HTA2.out HTB.out).mono ?_
      rintro e wC ⟨rfl, hk⟩
      have HC := hide (HB.out.fresh hk)
      have HKC := hide (HKB.out.trans' hk (fun _ _ h => h) (fun _ _ h => h.elim) : Keeps (fun k => ¬ P1 k) W0 wC)
      have HTC := hide (TermIn.keep hk (fun _ _ => id) _ _ HTA2.out)
      have HBC := hide (HBA2.out.keep hk id)
      clear x0 x1 x2 x3 x4 x5 x6 y0 y1 y2 y3 y4 y5 y6 hk
      have x0 : wC.cell? ⟨wA.heap.size, 0, none⟩ = some (.int .u8 kd') := HBC.out.cell 0
      have x1 : wC.cell? ⟨wA.heap.size, 1, none⟩ = some (.bool ng') := HBC.out.cell 1
      have x2 : wC.cell? ⟨wA.heap.size, 2, none⟩ = some (.slice la' ln' lc') := HBC.out.cell 2
      have x3 : wC.cell? ⟨wA.heap.size, 3, none⟩ = some (.string tx') := HBC.out.cell 3
      have x4 : wC.cell? ⟨wA.heap.size, 4, none⟩ = some (.int .i64 nm') := HBC.out.cell 4
      have x5 : wC.cell? ⟨wA.heap.size, 5, none⟩ = some (.slice ia' im' ic') := HBC.out.cell 5
      have x6 : wC.cell? ⟨wA.heap.size, 6, none⟩ = some (.slice ta' tn' tc') := HBC.out.cell 6
      clear HTA2 HTB HBA2 HBB HB HKB
      go_wp2_with fail
      refine (turned_any wC T kd' nm' ng' la' ia' ta' ln' lc' im' ic' tn' tc' tx' t' HTC.out).mono ?_
      rintro e wD ⟨rfl, hk⟩
      have HDD := hide (HC.out.turn (hk.mono (fun k _ h => HP2.out.2.2 k h)))
      have HKD := hide (HKC.out.trans' hk (fun _ _ h => h) (fun k _ h => HD.out k h) : Keeps (fun k => ¬ P1 k) W0 wD)
      clear hk x0 x1 x2 x3 x4 x5 x6
      go_wp2_with fail
      go_ret
      exact HFIN.out _ us' q' (HDD.out.less HP2.out.2.1) (by have := HTKL.out; omega) (LessT.take HTK.out) HKD.out
    · go_wp2_with fail
      refine (take_p HP.out hl2 HTK.out).mono ?_
      rintro e wA ⟨kd', ng', la', ln', lc', tx', nm', ia', im', ic', ta', tn', tc', T, rfl, hT, h1, h2, hd⟩
      have hka := (Keeps.refl NoB wA).alloc (.cells #[.int .u8 kd', .bool ng', .slice la' ln' lc', .string tx', .int .i64 nm', .slice ia' im' ic', .slice ta' tn' tc'] 33)
      have HBA := hide (Blk.new wA 33 #[.int .u8 kd', .bool ng', .slice la' ln' lc', .string tx', .int .i64 nm', .slice ia' im' ic', .slice ta' tn' tc'])
      obtain ⟨P2, hP2⟩ : ∃ P2 : Nat → Prop, P2 = fun k => (P1 k ∨ T k) ∨ wA.heap.size ≤ k ∧ k < (wA.alloc (.cells #[.int .u8 kd', .bool ng', .slice la' ln' lc', .string tx', .int .i64 nm', .slice ia' im' ic', .slice ta' tn' tc'] 33)).heap.size := ⟨_, rfl⟩
      have hpa := h1.more hka
      rw [← hP2] at hpa
      have HP2 := hide (show P2 wA.heap.size ∧ (∀ k, P1 k → P2 k) ∧ ∀ k, T k → P2 k from by rw [hP2]; exact ⟨.inr ⟨Nat.le_refl _, HBA.out.lt⟩, fun k h => .inl (.inl h), fun k h => .inl (.inr h)⟩)
      have HA := hide hpa; have HKA2 := hide (h2.alloc (.cells #[.int .u8 kd', .bool ng', .slice la' ln' lc', .string tx', .int .i64 nm', .slice ia' im' ic', .slice ta' tn' tc'] 33)); have HD := hide hd
      have HTA := hide (TermIn.keep hka (fun _ _ => id) _ _ hT)
      clear hP2 hpa hT h1 h2 hd hka
      go_wp2_with fail
      refine (ref_take_p HA.out hl2 HTK.out).mono ?_
      rintro e wB ⟨kd'', ng'', la'', ln'', lc'', tx'', nm'', ia'', im'', ic'', ta'', tn'', tc'', rfl, hT, h1, h2⟩
      have hka := (Keeps.refl NoB wB).alloc (.cells #[.int .u8 kd'', .bool ng'', .slice la'' ln'' lc'', .string tx'', .int .i64 nm'', .slice ia'' im'' ic'', .slice ta'' tn'' tc''] 33)
      have HB := hide (h1.fresh hka)
      have HKB := hide ((HKA2.out.trans' h2 (fun _ _ h => h) (fun k _ h hp => h (HP2.out.2.1 k hp)) : Keeps (fun k => ¬ P1 k) W0 wB).alloc (.cells #[.int .u8 kd'', .bool ng'', .slice la'' ln'' lc'', .string tx'', .int .i64 nm'', .slice ia'' im'' ic'', .slice ta'' tn'' tc''] 33))
      have HTB := hide (TermIn.keep hka (fun _ _ => id) _ _ hT)
      have HTA2 := hide (TermIn.keep hka (fun _ _ => id) _ _ (TermIn.keep h2 (fun k hk h => h (HP2.out.2.2 k hk)) _ _ HTA.out))
      have HBA2 := hide ((HBA.out.keep h2 (fun h => h HP2.out.1)).alloc (.cells #[.int .u8 kd'', .bool ng'', .slice la'' ln'' lc'', .string tx'', .int .i64 nm'', .slice ia'' im'' ic'', .slice ta'' tn'' tc''] 33))
      have HBB := hide (Blk.new wB 33 #[.int .u8 kd'', .bool ng'', .slice la'' ln'' lc'', .string tx'', .int .i64 nm'', .slice ia'' im'' ic'', .slice ta'' tn'' tc''])
      have x0 : (wB.alloc (.cells #[.int .u8 kd'', .bool ng'', .slice la'' ln'' lc'', .string tx'', .int .i64 nm'', .slice ia'' im'' ic'', .slice ta'' tn'' tc''] 33)).cell? ⟨wA.heap.size, 0, none⟩ = some (.int .u8 kd') := HBA2.out.cell 0
      have x1 : (wB.alloc (.cells #[.int .u8 kd'', .bool ng'', .slice la'' ln'' lc'', .string tx'', .int .i64 nm'', .slice ia'' im'' ic'', .slice ta'' tn'' tc''] 33)).cell? ⟨wA.heap.size, 1, none⟩ = some (.bool ng') := HBA2.out.cell 1
      have x2 : (wB.alloc (.cells #[.int .u8 kd'', .bool ng'', .slice la'' ln'' lc'', .string tx'', .int .i64 nm'', .slice ia'' im'' ic'', .slice ta'' tn'' tc''] 33)).cell? ⟨wA.heap.size, 2, none⟩ = some (.slice la' ln' lc') := HBA2.out.cell 2
      have x3 : (wB.alloc (.cells #[.int .u8 kd'', .bool ng'', .slice la'' ln'' lc'', .string tx'', .int .i64 nm'', .slice ia'' im'' ic'', .slice ta'' tn'' tc''] 33)).cell? ⟨wA.heap.size, 3, none⟩ = some (.string tx') := HBA2.out.cell 3
      have x4 : (wB.alloc (.cells #[.int .u8 kd'', .bool ng'', .slice la'' ln'' lc'', .string tx'', .int .i64 nm'', .slice ia'' im'' ic'', .slice ta'' tn'' tc''] 33)).cell? ⟨wA.heap.size, 4, none⟩ = some (.int .i64 nm') := HBA2.out.cell 4
      have x5 : (wB.alloc (.cells #[.int .u8 kd'', .bool ng'', .slice la'' ln'' lc'', .string tx'', .int .i64 nm'', .slice ia'' im'' ic'', .slice ta'' tn'' tc''] 33)).cell? ⟨wA.heap.size, 5, none⟩ = some (.slice ia' im' ic') := HBA2.out.cell 5
      have x6 : (wB.alloc (.cells #[.int .u8 kd'', .bool ng'', .slice la'' ln'' lc'', .string tx'', .int .i64 nm'', .slice ia'' im'' ic'', .slice ta'' tn'' tc''] 33)).cell? ⟨wA.heap.size, 6, none⟩ = some (.slice ta' tn' tc') := HBA2.out.cell 6
      have y0 : (wB.alloc (.cells #[.int .u8 kd'', .bool ng'', .slice la'' ln'' lc'', .string tx'', .int .i64 nm'', .slice ia'' im'' ic'', .slice ta'' tn'' tc''] 33)).cell? ⟨wB.heap.size, 0, none⟩ = some (.int .u8 kd'') := HBB.out.cell 0
      have y1 : (wB.alloc (.cells #[.int .u8 kd'', .bool ng'', .slice la'' ln'' lc'', .string tx'', .int .i64 nm'', .slice ia'' im'' ic'', .slice ta'' tn'' tc''] 33)).cell? ⟨wB.heap.size, 1, none⟩ = some (.bool ng'') := HBB.out.cell 1
      have y2 : (wB.alloc (.cells #[.int .u8 kd'', .bool ng'', .slice la'' ln'' lc'', .string tx'', .int .i64 nm'', .slice ia'' im'' ic'', .slice ta'' tn'' tc''] 33)).cell? ⟨wB.heap.size, 2, none⟩ = some (.slice la'' ln'' lc'') := HBB.out.cell 2
      have y3 : (wB.alloc (.cells #[.int .u8 kd'', .bool ng'', .slice la'' ln'' lc'', .string tx'', .int .i64 nm'', .slice ia'' im'' ic'', .slice ta'' tn'' tc''] 33)).cell? ⟨wB.heap.size, 3, none⟩ = some (.string tx'') := HBB.out.cell 3
      have y4 : (wB.alloc (.cells #[.int .u8 kd'', .bool ng'', .slice la'' ln'' lc'', .string tx'', .int .i64 nm'', .slice ia'' im'' ic'', .slice ta'' tn'' tc''] 33)).cell? ⟨wB.heap.size, 4, none⟩ = some (.int .i64 nm'') := HBB.out.cell 4
      have y5 : (wB.alloc (.cells #[.int .u8 kd'', .bool ng'', .slice la'' ln'' lc'', .string tx'', .int .i64 nm'', .slice ia'' im'' ic'', .slice ta'' tn'' tc''] 33)).cell? ⟨wB.heap.size, 5, none⟩ = some (.slice ia'' im'' ic'') := HBB.out.cell 5
      have y6 : (wB.alloc (.cells #[.int .u8 kd'', .bool ng'', .slice la'' ln'' lc'', .string tx'', .int .i64 nm'', .slice ia'' im'' ic'', .slice ta'' tn'' tc''] 33)).cell? ⟨wB.heap.size, 6, none⟩ = some (.slice ta'' tn'' tc'') := HBB.out.cell 6
      clear hT h1 h2 hka HTA HBA HA HKA2
      go_wp2_with fail
      refine (same_self t' (wB.alloc (.cells #[.int .u8 kd'', .bool ng'', .slice la'' ln'' lc'', .string tx'', .int .i64 nm'', .slice ia'' im'' ic'', .slice ta'' tn'' tc''] 33)) T _ true false [.int .u8 kd', .bool ng', .slice la' ln' lc', .string tx', .int .i64 nm', .slice ia' im' ic', .slice ta' tn' tc'] [.int .u8 kd'', .bool ng'', .slice la'' ln'' lc'', .string tx'', .int .i64 nm'', .slice ia'' im'' ic'', .slice ta'' tn'' tc''] HTA2.out HTB.out).mono ?_
      rintro e wC ⟨rfl, hk⟩
      have HC := hide (HB.out.fresh hk)
      have HKC := hide (HKB.out.trans' hk (fun _ _ h => h) (fun _ _ h => h.elim) : Keeps (fun k => ¬ P1 k) W0 wC)
      have HTC := hide (TermIn.keep hk (fun _ _ => id) _ _ HTA2.out)
      have HBC := hide (HBA2.out.keep hk id)
      clear x0 x1 x2 x3 x4 x5 x6 y0 y1 y2 y3 y4 y5 y6 hk
      have x0 : wC.cell? ⟨wA.heap.size, 0, none⟩ = some (.int .u8 kd') := HBC.out.cell 0
      have x1 : wC.cell? ⟨wA.heap.size, 1, none⟩ = some (.bool ng') := HBC.out.cell 1
      have x2 : wC.cell? ⟨wA.heap.size, 2, none⟩ = some (.slice la' ln' lc') := HBC.out.cell 2
      have x3 : wC.cell? ⟨wA.heap.size, 3, none⟩ = some (.string tx') := HBC.out.cell 3
      have x4 : wC.cell? ⟨wA.heap.size, 4, none⟩ = some (.int .i64 nm') := HBC.out.cell 4
      have x5 : wC.cell? ⟨wA.heap.size, 5, none⟩ = some (.slice ia' im' ic') := HBC.out.cell 5
      have x6 : wC.cell? ⟨wA.heap.size, 6, none⟩ = some (.slice ta' tn' tc') := HBC.out.cell 6
      clear HTA2 HTB HBA2 HBB HB HKB
      go_wp2_with fail
      refine (turned_any wC T kd' nm' ng' la' ia' ta' ln' lc' im' ic' tn' tc' tx' t' HTC.out).mono ?_
      rintro e wD ⟨rfl, hk⟩
      have HDD := hide (HC.out.turn (hk.mono (fun k _ h => HP2.out.2.2 k h)))
      have HKD := hide (HKC.out.trans' hk (fun _ _ h => h) (fun k _ h => HD.out k h) : Keeps (fun k => ¬ P1 k) W0 wD)
      clear hk x0 x1 x2 x3 x4 x5 x6
      go_wp2_with fail
      go_ret
      exact HFIN.out _ us' q' (HDD.out.less HP2.out.2.1) (by have := HTKL.out; omega) (LessT.take HTK.out) HKD.out
  · have hne0 : (z == 0) = false := by simp; omega
    have hne1 : (z == 1) = false := by simp; omega
    have hne2 : (z == 2) = false := by simp; omega
    have hne3 : (z == 3) = false := by simp; omega
    have hne4 : (z == 4) = false := by simp; omega
    have x1 : W0.cell? ⟨xb, 1, none⟩ = some (.int .u8 kd) := HX.out.cell 1
    have x2 : W0.cell? ⟨xb, 2, none⟩ = some (.bool ng) := HX.out.cell 2
    have x3 : W0.cell? ⟨xb, 3, none⟩ = some (.slice la ln lc) := HX.out.cell 3
    have x4 : W0.cell? ⟨xb, 4, none⟩ = some (.string tx) := HX.out.cell 4
    have x5 : W0.cell? ⟨xb, 5, none⟩ = some (.int .i64 nm) := HX.out.cell 5
    have x6 : W0.cell? ⟨xb, 6, none⟩ = some (.slice ia im ic) := HX.out.cell 6
    have x7 : W0.cell? ⟨xb, 7, none⟩ = some (.slice ta tn tc) := HX.out.cell 7
    go_wp2_with fail
    refine (lentTerm_any t HSM.out W0 _ false kd nm ng la ia ta ln lc im ic tn tc tx (TermIn.keep HP.out.keep (fun _ _ => id) _ _ HT.out)).mono ?_
    rintro e wA ⟨kd', ng', la', ln', lc', tx', nm', ia', im', ic', ta', tn', tc', rfl, hl1, hk1⟩
    clear x1 x2 x3 x4 x5 x6 x7
    have hka := (Keeps.refl NoB wA).alloc (.cells #[.int .u8 kd', .bool ng', .slice la' ln' lc', .string tx', .int .i64 nm', .slice ia' im' ic', .slice ta' tn' tc'] 33)
    have hkw : Keeps NoB W0 (wA.alloc (.cells #[.int .u8 kd', .bool ng', .slice la' ln' lc', .string tx', .int .i64 nm', .slice ia' im' ic', .slice ta' tn' tc'] 33)) := hk1.trans' hka (fun _ _ => id) (fun _ _ => id)
    have HBI := hide (Blk.new wA 33 #[.int .u8 kd', .bool ng', .slice la' ln' lc', .string tx', .int .i64 nm', .slice ia' im' ic', .slice ta' tn' tc'])
    obtain ⟨P2, hP2⟩ : ∃ P2 : Nat → Prop, P2 = fun k => P1 k ∨ W0.heap.size ≤ k ∧ k < (wA.alloc (.cells #[.int .u8 kd', .bool ng', .slice la' ln' lc', .string tx', .int .i64 nm', .slice ia' im' ic', .slice ta' tn' tc'] 33)).heap.size := ⟨_, rfl⟩
    have hpa := HP.out.more hkw
    rw [← hP2] at hpa
    have hsA := hk1.size
    have HP2 := hide (show P2 wA.heap.size ∧ (∀ k, P1 k → P2 k) ∧ (∀ k, W0.heap.size ≤ k → k < wA.heap.size → P2 k) from by
      have hlt := HBI.out.lt
      rw [hP2]; exact ⟨.inr ⟨hsA, hlt⟩, fun k h => .inl h, fun k h1 h2 => .inr ⟨h1, by omega⟩⟩)
    have HA := hide hpa
    have HLI := hide (LIn.keep hka hl1 (fun _ _ _ => id))
    have HXA := hide (HX.out.keep hkw id)
    have HKA2 := hide (hkw.mono (fp' := fun k => ¬ P1 k) (fun _ _ h => h.elim))
    have HSZ := hide hsA
    clear hP2 hpa hl1 hk1 hka hkw
    go_wp2_with fail
    refine order_begin (fun W => Blk W wA.heap.size 33 #[.int .u8 kd', .bool ng', .slice la' ln' lc', .string tx', .int .i64 nm', .slice ia' im' ic', .slice ta' tn' tc'] ∧ Blk W xb 46 #[.int .i64 op, .int .u8 kd, .bool ng, .slice la ln lc, .string tx, .int .i64 nm, .slice ia im ic, .slice ta tn tc]) (fun _ => true) (by kernel_rfl) 15 rfl ?_
    have HS : Blk (wA.alloc (.cells #[.int .u8 kd', .bool ng', .slice la' ln' lc', .string tx', .int .i64 nm', .slice ia' im' ic', .slice ta' tn' tc'] 33)).drew wA.heap.size 33 #[.int .u8 kd', .bool ng', .slice la' ln' lc', .string tx', .int .i64 nm', .slice ia' im' ic', .slice ta' tn' tc'] ∧ Blk (wA.alloc (.cells #[.int .u8 kd', .bool ng', .slice la' ln' lc', .string tx', .int .i64 nm', .slice ia' im' ic', .slice ta' tn' tc'] 33)).drew xb 46 #[.int .i64 op, .int .u8 kd, .bool ng, .slice la ln lc, .string tx, .int .i64 nm, .slice ia im ic, .slice ta tn tc] := ⟨HBI.out.drew, HXA.out.drew⟩
    have HA2 := hide (HA.out.fresh ((Keeps.refl NoB _).drew))
    have HLI2 := hide (LIn.keep ((Keeps.refl NoB (wA.alloc (.cells #[.int .u8 kd', .bool ng', .slice la' ln' lc', .string tx', .int .i64 nm', .slice ia' im' ic', .slice ta' tn' tc'] 33))).drew) HLI.out (fun _ _ _ => id))
    have HKA3 := hide (HKA2.out.drew)
    clear HA HLI HKA2 HBI HXA
    generalize (wA.alloc (.cells #[.int .u8 kd', .bool ng', .slice la' ln' lc', .string tx', .int .i64 nm', .slice ia' im' ic', .slice ta' tn' tc'] 33)).drew = W1 at *
    generalize wA.heap.size = ib at *
    refine order_pure (i := 0) rfl (by kernel_rfl) (fun _ _ _ h => h) (.inl ⟨rfl, fun _ => by go_simp; rfl⟩) ?_
    try simp only [Act.put, List.setIfInBounds_toArray, List.set_cons_succ, List.set_cons_zero]
    refine order_pure (i := 3) rfl (by kernel_rfl) (fun _ _ _ h => h) (.inl ⟨rfl, fun _ => by go_simp; rfl⟩) ?_
    try simp only [Act.put, List.setIfInBounds_toArray, List.set_cons_succ, List.set_cons_zero]
    refine order_pure (i := 4) rfl (by kernel_rfl) (fun _ _ _ h => h) (.inl ⟨rfl, fun _ => by go_simp; rfl⟩) ?_
    try simp only [Act.put, List.setIfInBounds_toArray, List.set_cons_succ, List.set_cons_zero]
    refine order_held (i := 1) rfl (by kernel_rfl) (fun _ _ _ h => h) (.inl ⟨rfl, fun W hW => by
      have q0 : W.cell? ⟨ib, 0, none⟩ = some (.int .u8 kd') := hW.1.cell 0
      have q1 : W.cell? ⟨ib, 1, none⟩ = some (.bool ng') := hW.1.cell 1
      have q2 : W.cell? ⟨ib, 2, none⟩ = some (.slice la' ln' lc') := hW.1.cell 2
      have q3 : W.cell? ⟨ib, 3, none⟩ = some (.string tx') := hW.1.cell 3
      have q4 : W.cell? ⟨ib, 4, none⟩ = some (.int .i64 nm') := hW.1.cell 4
      have q5 : W.cell? ⟨ib, 5, none⟩ = some (.slice ia' im' ic') := hW.1.cell 5
      have q6 : W.cell? ⟨ib, 6, none⟩ = some (.slice ta' tn' tc') := hW.1.cell 6
      go_simp; rfl⟩) HS ?_
    try simp only [Act.put, List.setIfInBounds_toArray, List.set_cons_succ, List.set_cons_zero]
    refine order_held (i := 5) rfl (by kernel_rfl) (fun _ _ _ h => h) (.inl ⟨rfl, fun W hW => by
      have q0 : W.cell? ⟨xb, 1, none⟩ = some (.int .u8 kd) := hW.2.cell 1
      have q1 : W.cell? ⟨xb, 2, none⟩ = some (.bool ng) := hW.2.cell 2
      have q2 : W.cell? ⟨xb, 3, none⟩ = some (.slice la ln lc) := hW.2.cell 3
      have q3 : W.cell? ⟨xb, 4, none⟩ = some (.string tx) := hW.2.cell 4
      have q4 : W.cell? ⟨xb, 5, none⟩ = some (.int .i64 nm) := hW.2.cell 5
      have q5 : W.cell? ⟨xb, 6, none⟩ = some (.slice ia im ic) := hW.2.cell 6
      have q6 : W.cell? ⟨xb, 7, none⟩ = some (.slice ta tn tc) := hW.2.cell 7
      go_simp; rfl⟩) HS ?_
    try simp only [Act.put, List.setIfInBounds_toArray, List.set_cons_succ, List.set_cons_zero]
    refine order_one (i := 2) rfl (by kernel_rfl) (fun K hK => ?_)
    go_simp
    refine (put_p HA2.out (by omega) (LIn.term (B := fun _ => True) HLI2.out (fun _ _ _ => trivial))).mono ?_
    rintro e w2 ⟨rfl, h1, h2⟩
    have HS2 : Blk w2 ib 33 #[.int .u8 kd', .bool ng', .slice la' ln' lc', .string tx', .int .i64 nm', .slice ia' im' ic', .slice ta' tn' tc'] ∧ Blk w2 xb 46 #[.int .i64 op, .int .u8 kd, .bool ng, .slice la ln lc, .string tx, .int .i64 nm, .slice ia im ic, .slice ta tn tc] := ⟨HS.1.keep h2 (fun h => h HP2.out.1), HS.2.keep h2 (fun h => h (HP2.out.2.1 _ HPX.out))⟩
    have H2 := hide h1
    have HK2 := hide (HKA3.out.trans' h2 (fun _ _ h => h) (fun k _ h hp => h (HP2.out.2.1 k hp)) : Keeps (fun k => ¬ P1 k) W0 w2)
    have HL2 := hide (LIn.keep h2 HLI2.out (fun k hk1 hk2 h => h (HP2.out.2.2 k hk1 hk2)))
    refine hK _ _ (fun _ _ => HS2) ?_
    clear hK HS h1 h2 HA2 HKA3 HLI2
    try simp only [Act.put, List.setIfInBounds_toArray, List.set_cons_succ, List.set_cons_zero]
    refine order_one (i := 6) rfl (by kernel_rfl) (fun K hK => ?_)
    go_simp
    refine (ref_put_p H2.out (by omega) (TermIn.keep H2.out.keep (fun _ _ => id) _ _ HT.out)).mono ?_
    rintro e w3 ⟨rfl, h1, h2⟩
    have HS3 : Blk w3 ib 33 #[.int .u8 kd', .bool ng', .slice la' ln' lc', .string tx', .int .i64 nm', .slice ia' im' ic', .slice ta' tn' tc'] ∧ Blk w3 xb 46 #[.int .i64 op, .int .u8 kd, .bool ng, .slice la ln lc, .string tx, .int .i64 nm, .slice ia im ic, .slice ta tn tc] := ⟨HS2.1.keep h2 (fun h => h HP2.out.1), HS2.2.keep h2 (fun h => h (HP2.out.2.1 _ HPX.out))⟩
    have H3 := hide h1
    have HK3 := hide (HK2.out.trans' h2 (fun _ _ h => h) (fun k _ h hp => h (HP2.out.2.1 k hp)) : Keeps (fun k => ¬ P1 k) W0 w3)
    have HL3 := hide (LIn.keep h2 HL2.out (fun k hk1 hk2 h => h (HP2.out.2.2 k hk1 hk2)))
    refine hK _ _ (fun _ _ => HS3) ?_
    clear hK HS2 h1 h2 H2 HK2 HL2
    have HS := HS3
    try simp only [Act.put, List.setIfInBounds_toArray, List.set_cons_succ, List.set_cons_zero]
    refine order_pure (i := 7) rfl (by kernel_rfl) (fun _ _ _ h => h) (.inl ⟨rfl, fun _ => by go_simp; rfl⟩) ?_
    try simp only [Act.put, List.setIfInBounds_toArray, List.set_cons_succ, List.set_cons_zero]
    refine order_pure (i := 8) rfl (by kernel_rfl) (fun _ _ _ h => h) (.inl ⟨rfl, fun _ => by go_simp; rfl⟩) ?_
    try simp only [Act.put, List.setIfInBounds_toArray, List.set_cons_succ, List.set_cons_zero]
    refine order_held (i := 9) rfl (by kernel_rfl) (fun _ _ _ h => h) (.inl ⟨rfl, fun W hW => by
      have q0 : W.cell? ⟨ib, 0, none⟩ = some (.int .u8 kd') := hW.1.cell 0
      have q1 : W.cell? ⟨ib, 1, none⟩ = some (.bool ng') := hW.1.cell 1
      have q2 : W.cell? ⟨ib, 2, none⟩ = some (.slice la' ln' lc') := hW.1.cell 2
      have q3 : W.cell? ⟨ib, 3, none⟩ = some (.string tx') := hW.1.cell 3
      have q4 : W.cell? ⟨ib, 4, none⟩ = some (.int .i64 nm') := hW.1.cell 4
      have q5 : W.cell? ⟨ib, 5, none⟩ = some (.slice ia' im' ic') := hW.1.cell 5
      have q6 : W.cell? ⟨ib, 6, none⟩ = some (.slice ta' tn' tc') := hW.1.cell 6
      go_simp; rfl⟩) HS ?_
    try simp only [Act.put, List.setIfInBounds_toArray, List.set_cons_succ, List.set_cons_zero]
    refine order_pure (i := 10) rfl (by kernel_rfl) (fun _ _ _ h => h) (.inl ⟨rfl, fun _ => by go_simp; rfl⟩) ?_
    try simp only [Act.put, List.setIfInBounds_toArray, List.set_cons_succ, List.set_cons_zero]
    refine order_held (i := 11) rfl (by kernel_rfl) (fun _ _ _ h => h) (.inl ⟨rfl, fun W hW => by
      have q0 : W.cell? ⟨xb, 1, none⟩ = some (.int .u8 kd) := hW.2.cell 1
      have q1 : W.cell? ⟨xb, 2, none⟩ = some (.bool ng) := hW.2.cell 2
      have q2 : W.cell? ⟨xb, 3, none⟩ = some (.slice la ln lc) := hW.2.cell 3
      have q3 : W.cell? ⟨xb, 4, none⟩ = some (.string tx) := hW.2.cell 4
      have q4 : W.cell? ⟨xb, 5, none⟩ = some (.int .i64 nm) := hW.2.cell 5
      have q5 : W.cell? ⟨xb, 6, none⟩ = some (.slice ia im ic) := hW.2.cell 6
      have q6 : W.cell? ⟨xb, 7, none⟩ = some (.slice ta tn tc) := hW.2.cell 7
      go_simp; rfl⟩) HS ?_
    try simp only [Act.put, List.setIfInBounds_toArray, List.set_cons_succ, List.set_cons_zero]
    refine order_one (i := 12) rfl (by kernel_rfl) (fun K hK => ?_)
    go_simp
    refine (keptTerm_any t w3 _ _ _ false kd' nm' ng' la' ia' ta' ln' lc' im' ic' tn' tc' tx' kd nm ng la ia ta ln lc im ic tn tc tx HL3.out (TermIn.keep H3.out.keep (fun _ _ => id) _ _ HT.out)).mono ?_
    rintro e w4 ⟨rfl, hk⟩
    have HS4 : Blk w4 ib 33 #[.int .u8 kd', .bool ng', .slice la' ln' lc', .string tx', .int .i64 nm', .slice ia' im' ic', .slice ta' tn' tc'] ∧ Blk w4 xb 46 #[.int .i64 op, .int .u8 kd, .bool ng, .slice la ln lc, .string tx, .int .i64 nm, .slice ia im ic, .slice ta tn tc] := ⟨HS.1.keep hk id, HS.2.keep hk id⟩
    have H4 := hide (H3.out.fresh hk)
    have HK4 := hide (HK3.out.trans' hk (fun _ _ h => h) (fun _ _ h => h.elim) : Keeps (fun k => ¬ P1 k) W0 w4)
    have HL4 := hide (LIn.keep hk HL3.out (fun _ _ _ => id))
    refine hK _ _ (fun _ _ => HS4) ?_
    clear hK HS hk H3 HK3 HL3 HS3
    try simp only [Act.put, List.setIfInBounds_toArray, List.set_cons_succ, List.set_cons_zero]
    refine order_pure (i := 13) rfl (by kernel_rfl) (fun _ _ _ h => h) (.inl ⟨rfl, fun _ => by go_simp; rfl⟩) ?_
    try simp only [Act.put, List.setIfInBounds_toArray, List.set_cons_succ, List.set_cons_zero]
    refine order_pure (i := 14) rfl (by kernel_rfl) (fun _ _ _ h => h) (.inl ⟨rfl, fun _ => by go_simp; rfl⟩) ?_
    try simp only [Act.put, List.setIfInBounds_toArray, List.set_cons_succ, List.set_cons_zero]
    refine order_done (by kernel_rfl) ?_
    have x0 : w4.cell? ⟨ib, 0, none⟩ = some (.int .u8 kd') := HS4.1.cell 0
    have x1 : w4.cell? ⟨ib, 1, none⟩ = some (.bool ng') := HS4.1.cell 1
    have x2 : w4.cell? ⟨ib, 2, none⟩ = some (.slice la' ln' lc') := HS4.1.cell 2
    have x3 : w4.cell? ⟨ib, 3, none⟩ = some (.string tx') := HS4.1.cell 3
    have x4 : w4.cell? ⟨ib, 4, none⟩ = some (.int .i64 nm') := HS4.1.cell 4
    have x5 : w4.cell? ⟨ib, 5, none⟩ = some (.slice ia' im' ic') := HS4.1.cell 5
    have x6 : w4.cell? ⟨ib, 6, none⟩ = some (.slice ta' tn' tc') := HS4.1.cell 6
    have hib : ib ≤ w4.heap.size := Nat.le_of_lt HS4.1.lt
    clear HS4
    go_wp2_with fail
    refine (overTerm_any t w4 _ ib kd' nm' ng' la' ia' ta' ln' lc' im' ic' tn' tc' tx' HL4.out hib).mono ?_
    rintro e w5 ⟨rfl, hk⟩
    have H5 := hide (H4.out.turn (hk.mono (fun k _ h => HP2.out.2.2 k h.1 h.2)))
    have HPL := hide (fun k (h : P1 k) => HP.out.lt h)
    have HK5 := hide (HK4.out.trans' hk (fun _ _ h => h) (fun k hk h hp => by have := HPL.out k hp; omega) : Keeps (fun k => ¬ P1 k) W0 w5)
    clear hk x0 x1 x2 x3 x4 x5 x6
    go_wp2_with fail
    go_ret
    exact HFIN.out _ _ q (H5.out.less HP2.out.2.1) (by simp) (LessT.snoc _ _) HK5.out
end Go.Proofs.Ytmkidkfofbnjgaa
