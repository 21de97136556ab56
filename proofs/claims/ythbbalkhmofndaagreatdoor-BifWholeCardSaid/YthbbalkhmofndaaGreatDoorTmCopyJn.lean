/- lint.Kind. Slices of slices: what each of them reads as. printed by wip/mkconcat.py: slices.Grow of nil, slices.Concat. term.copies: lists of terms as one, in memory of its own (given term.Copy for smaller terms); Clone of limbs. printed by wip/mkcopy.py: term.Copy, term.copies. -/
import Derived.Test.YthbbalkhmofndaaGreatDoorKindTJn
import Derived.Test.YthbbalkhmofndaaGreatDoorRows
import Derived.Test.YthbbalkhmofndaaGreatDoorShelfJn
import Derived.WalkLawsBesides
import Derived.WalkSpells
import Derived.Test.YthbbalkhmofndaaGreatDoorTmAddJn
import Derived.Deep.QuietTactic
import Derived.BigQuiet
import Derived.Deep.LoopGhost
import Derived.Lib.Walk
import Derived.Lib.SliceRun
import Derived.Lib.AppendZerosOnto
import Derived.Test.YthbbalkhmofndaaGreatDoorTmSizeJn
import Derived.Deep.CutRange
import Derived.Deep.CutBlock
import Derived.Deep.DeepCutAuto
namespace Go.Proofs.YthbbalkhmofndaaGreatDoor
open Go.RowKit

set_option maxRecDepth 100000 in
set_option maxHeartbeats 2000000 in
theorem kind_any (s : ByteArray) (a : Int) (w : World) (hL : LaidK w) (hs : s.size ≤ 140737488355328) :
    Calls Tryz.prog 21 #[.string s, .int .i64 a] w fun e w' => e = .returned (.int .i64 (kindN s.data.toList a)) ∧ w = w' := by
  have HL := hide hL
  clear hL
  by_cases h0 : s.data.toList = []
  · have HE : Hid (kindN s.data.toList a = 0) := hide (by unfold kindN; rw [if_pos (.inl h0)])
    have b0 : s.toList = [] := (Lib.toList_data s).trans h0
    have b0' : s.toList.isEmpty = true := by rw [b0]; rfl
    clear h0
    go_enter Tryz.func21, Tryz.ntmps21
    go_wp2
    go_ret
    exact ⟨by rw [HE.out]; rfl, rfl⟩
  have b0 : s.toList.isEmpty = false := by rw [Lib.toList_data]; cases h : s.data.toList with
    | nil => exact absurd h h0
    | cons => rfl
  by_cases h1 : a < 0
  · have HE : Hid (kindN s.data.toList a = 0) := hide (by unfold kindN; rw [if_pos (.inr (.inl h1))])
    have b1 : decide (a < 0) = true := by simpa using h1
    clear h0
    go_enter Tryz.func21, Tryz.ntmps21
    go_wp2
    go_ret
    exact ⟨by rw [HE.out]; rfl, rfl⟩
  by_cases h2 : 3 < a
  · have HE : Hid (kindN s.data.toList a = 0) := hide (by unfold kindN; rw [if_pos (.inr (.inr (.inl h2)))])
    have b1 : decide (a < 0) = false := by simpa using h1
    have b2 : decide (3 < a) = true := by simpa using h2
    clear h0 h1
    go_enter Tryz.func21, Tryz.ntmps21
    go_wp2
    go_ret
    exact ⟨by rw [HE.out]; rfl, rfl⟩
  have b1 : decide (a < 0) = false := by simpa using h1
  have b2 : decide (3 < a) = false := by simpa using h2
  cases h3 : s.data.toList.contains 32 with
  | true =>
    have HE : Hid (kindN s.data.toList a = 0) := hide (by unfold kindN; rw [if_pos (.inr (.inr (.inr h3)))])
    have H3 := hide h3
    clear h0 h1 h2 h3
    go_enter Tryz.func21, Tryz.ntmps21
    go_wp2_with
      first
      | (go_at_call 43
         refine (Tryz.strings_Contains_one s 32 w).mono ?_
         rintro e w' ⟨rfl, rfl⟩
         rw [index_byte, H3.out])
      | fail
    go_ret
    exact ⟨by rw [HE.out]; rfl, rfl⟩
  | false =>
    obtain ⟨an, rfl⟩ := Int.eq_ofNat_of_zero_le (by omega : 0 ≤ a)
    have ha3 : an < 4 := by omega
    have H3 := hide h3; have H0 := hide h0
    have HE : Hid (kindN s.data.toList (an : Int) = if s.data.toList ∈ wordsK 1 an then 1 else if s.data.toList ∈ wordsK 2 an then 2 else if s.data.toList ∈ wordsK 3 an then 3 else 0) := hide (by
      unfold kindN
      rw [if_neg (by simp only [not_or]; exact ⟨h0, by omega, by omega, by rw [h3]; simp⟩)]
      rfl)
    clear h0 h1 h2 h3
    go_enter Tryz.func21, Tryz.ntmps21
    go_wp2_with
      first
      | (go_at_call 43
         refine (Tryz.strings_Contains_one s 32 w).mono ?_
         rintro e w' ⟨rfl, rfl⟩
         rw [index_byte, H3.out])
      | fail
    go_loop [20] (fun i => ∃ k : Nat, k ≤ 4 ∧ i = .int .i64 k ∧ ∀ j, j < k → s.data.toList ∉ wordsK j an) (fun i => 4 - (intOf i).toNat)
    case atStart => exact ⟨0, by omega, rfl, fun j hj => absurd hj (by omega)⟩
    case round =>
      obtain ⟨k, hk, rfl, hno⟩ := hrel
      have HNO := hide hno
      clear hno
      by_cases hlt : k < 4
      · have f0 := HL.out.1 k an hlt ha3
        obtain ⟨m, hm⟩ := HL.out.2
        have hk1 : (k : Int) < 4 := by omega
        have hk0 : (0 : Int) ≤ (k : Int) := by omega
        have ha1 : (an : Int) < 4 := by omega
        obtain ⟨hsp, hts, hwo⟩ := text_spaced k an hlt ha3
        obtain ⟨t, ht⟩ : ∃ t, textK k an = t := ⟨_, rfl⟩
        rw [ht] at f0 hsp hts
        have hc : Lib.contains ((⟨#[32]⟩ : ByteArray) ++ t ++ ⟨#[32]⟩).data.toList ((⟨#[32]⟩ : ByteArray) ++ s ++ ⟨#[32]⟩).data.toList = decide (s.data.toList ∈ wordsK k an) := by
          have e1 : ((⟨#[32]⟩ : ByteArray) ++ t ++ ⟨#[32]⟩).data.toList = spaced (wordsK k an) := by rw [← hsp]; simp
          have e2 : ((⟨#[32]⟩ : ByteArray) ++ s ++ ⟨#[32]⟩).data.toList = 32 :: (s.data.toList ++ [32]) := by simp
          rw [e1, e2]
          exact spaced_has H3.out H0.out hwo
        have HC := hide hc
        have hm1 : (⟨#[32]⟩ : ByteArray).size = 1 := rfl
        have z1 : ((⟨#[32]⟩ : ByteArray) ++ t).size = t.size + 1 := by rw [ByteArray.size_append, hm1]; omega
        have z2 : ((⟨#[32]⟩ : ByteArray) ++ s).size = s.size + 1 := by rw [ByteArray.size_append, hm1]; omega
        have z3 : ((⟨#[32]⟩ : ByteArray) ++ t ++ ⟨#[32]⟩).size < 4294967281 := by rw [ByteArray.size_append, z1, hm1]; omega
        have Z3 := hide z3
        clear ht hsp hwo hc z3 hm1
        cases hin : decide (s.data.toList ∈ wordsK k an) with
        | true =>
          have HIN := hide hin
          clear hin
          go_wp2_with
            first
            | (go_at_call 43
               refine (Tryz.strings_Contains _ _ m _ Z3.out hm).mono ?_
               rintro e w2 ⟨rfl, rfl⟩
               rw [HC.out, HIN.out])
            | fail
          go_ret
          have hv : kindN s.data.toList (an : Int) = (k : Int) := by
            have hi : s.data.toList ∈ wordsK k an := by simpa using HIN.out
            rw [HE.out]
            have hk' : k = 0 ∨ k = 1 ∨ k = 2 ∨ k = 3 := by omega
            rcases hk' with rfl | rfl | rfl | rfl
            · exact absurd hi (words_zero an H0.out)
            · rw [if_pos hi]; rfl
            · rw [if_neg (HNO.out 1 (by omega)), if_pos hi]; rfl
            · rw [if_neg (HNO.out 1 (by omega)), if_neg (HNO.out 2 (by omega)), if_pos hi]; rfl
          exact ⟨by rw [hv]; rfl, rfl⟩
        | false =>
          have HIN := hide hin
          clear hin
          go_wp2_with
            first
            | (go_at_call 43
               refine (Tryz.strings_Contains _ _ m _ Z3.out hm).mono ?_
               rintro e w2 ⟨rfl, rfl⟩
               rw [HC.out, HIN.out])
            | fail
          go_round
          case rel => exact ⟨k + 1, by omega, by go_num, fun j hj => by
            rcases Nat.lt_succ_iff_lt_or_eq.1 hj with h | rfl
            · exact HNO.out j h
            · simpa using HIN.out⟩
          case measure => simp [intOf]; omega
      · obtain rfl : k = 4 := by omega
        go_wp2
        go_ret
        have hv : kindN s.data.toList (an : Int) = 0 := by
          rw [HE.out, if_neg (HNO.out 1 (by omega)), if_neg (HNO.out 2 (by omega)), if_neg (HNO.out 3 (by omega))]
        exact ⟨by rw [hv]; rfl, rfl⟩
end Go.Proofs.YthbbalkhmofndaaGreatDoor
namespace Go.Proofs.YthbbalkhmofndaaGreatDoor
open Go.RowKit

/-- Cells that are slices, and what each of these reads as. -/
def HeadsAt (w : World) (B : Nat → Prop) (F : Bool) (size : Nat) : List Value → List (List Value) → Prop
  | [], [] => True
  | v :: vs, xs :: xss => (∃ A n c, v = .slice A n c ∧ Reads w B F size A n xs) ∧ HeadsAt w B F size vs xss
  | [], _ :: _ => False
  | _ :: _, [] => False

theorem HeadsAt.len {w : World} {B : Nat → Prop} {F : Bool} {size : Nat} : ∀ {vs : List Value} {xss : List (List Value)}, HeadsAt w B F size vs xss → vs.length = xss.length
  | [], [], _ => rfl
  | v :: vs, xs :: xss, h => by unfold HeadsAt at h; simp [HeadsAt.len h.2]
  | [], _ :: _, h => by unfold HeadsAt at h; exact h.elim
  | _ :: _, [], h => by unfold HeadsAt at h; exact h.elim
theorem HeadsAt.at {w : World} {B : Nat → Prop} {F : Bool} {size : Nat} : ∀ {vs : List Value} {xss : List (List Value)}, HeadsAt w B F size vs xss → ∀ k, k < vs.length → ∃ A n c xs, vs[k]? = some (.slice A n c) ∧ xss[k]? = some xs ∧ Reads w B F size A n xs
  | [], _, _, k, hk => by simp at hk
  | v :: vs, xs :: xss, h, k, hk => by
    unfold HeadsAt at h
    cases k with
    | zero =>
      obtain ⟨A, n, c, rfl, hr⟩ := h.1
      exact ⟨A, n, c, xs, rfl, rfl, hr⟩
    | succ k => exact HeadsAt.at h.2 k (by simpa using hk)
  | _ :: _, [], h, _, _ => by unfold HeadsAt at h; exact h.elim
theorem HeadsAt.keep {w w' : World} {B : Nat → Prop} {F : Bool} {size : Nat} {fp : Nat → Prop} (hk : Keeps fp w w') (hf : ∀ k, B k → ¬ fp k) : ∀ {vs : List Value} {xss : List (List Value)}, HeadsAt w B F size vs xss → HeadsAt w' B F size vs xss
  | [], [], _ => by unfold HeadsAt; trivial
  | v :: vs, xs :: xss, h => by
    unfold HeadsAt at h ⊢
    obtain ⟨⟨A, n, c, e, hr⟩, h2⟩ := h
    exact ⟨⟨A, n, c, e, hr.keep hk hf⟩, HeadsAt.keep hk hf h2⟩
  | [], _ :: _, h => by unfold HeadsAt at h; exact h.elim
  | _ :: _, [], h => by unfold HeadsAt at h; exact h.elim
theorem heads_take {xss : List (List Value)} {k : Nat} {xs : List Value} (h : xss[k]? = some xs) : (xss.take (k + 1)).flatten = (xss.take k).flatten ++ xs := by
  rw [List.take_add_one, h, List.flatten_append]; simp
theorem heads_take_le (xss : List (List Value)) (k : Nat) : (xss.take k).flatten.length ≤ xss.flatten.length := by
  have h : xss.flatten = (xss.take k).flatten ++ (xss.drop k).flatten := by rw [← List.flatten_append, List.take_append_drop]
  rw [h, List.length_append]; omega
end Go.Proofs.YthbbalkhmofndaaGreatDoor
namespace Go.Proofs.YthbbalkhmofndaaGreatDoor
open Go.RowKit

theorem Tryz.tmCInfo : (Tryz.prog.info? 26).map (fun i => (i.zero, i.size, i.bytes)) = some (some (.agg #[.int .u8 0, .bool false, .slice none 0 0, .string ByteArray.empty, .int .i64 0, .slice none 0 0, .slice none 0 0]), 7, 104) := by kernel_rfl

set_option maxRecDepth 100000 in
theorem tmC_grow (n : Nat) (w : World) (hn : Roomy n 104) :
    Calls Tryz.prog 103 #[.slice none 0 0, .int .i64 n] w fun e w' => ∃ A c, e = .returned (.slice A 0 c) ∧ Slab w' 26 7 A 0 c [] ∧ (∀ k, rowB A k → w.heap.size ≤ k) ∧ Keeps NoB w w' := by
  obtain ⟨i0, hi0, hz0, hz1, hz2⟩ := info_parts Tryz.tmCInfo
  have hnm : n ≤ 140737488355328 := by unfold Roomy at hn; omega
  rcases Nat.eq_zero_or_pos n with rfl | hp
  · go_enter Tryz.func103, Tryz.ntmps103
    go_wp2
    go_ret
    exact ⟨none, 0, rfl, Slab.nil _ _ _, (fun k ⟨o, h⟩ => by cases h), Keeps.refl _ _⟩
  · have h1 : ¬ ((n : Int) < 0) := by omega
    have h2 : wrap64 ((n : Int) - 0) = (n : Int) := by unfold wrap64; omega
    have hpp : (0 : Int) < (n : Int) := by omega
    have hold : (Builtin.firstCells i0.size 0 (.slice none 0 0)).run Tryz.prog w.drew = .ok (([] : List Value)).toArray w.drew := run_firstCells_none w.drew i0.size 0 0 0
    have hrun := fun ty => Lib.run_append_grow_zeros (P := Tryz.prog) w 24 3 ty 26 i0 (.agg #[.int .u8 0, .bool false, .slice none 0 0, .string ByteArray.empty, .int .i64 0, .slice none 0 0, .slice none 0 0]) .i64 .i64 Tryz.underlying24 Tryz.underlying3 hi0 hz0 none 0 0 [] hold n hp (by rw [hz1]; omega) (by omega) (by omega) (by rw [hz2]; unfold Roomy at hn; omega) (by rw [hz2]; exact growslice_fits (by omega) (by rw [Nat.zero_add]; exact hn))
    simp only [Nat.zero_add, Nat.sub_zero] at hrun
    have hge := grownCap_ge w n 0 26
    have hle := grownCap_le_maxLen w n 0 26 (by unfold maxLen; omega)
    obtain ⟨G, hG⟩ : ∃ G, G = grownCap w n 0 26 := ⟨_, rfl⟩
    rw [← hG] at hrun hge hle
    have hG63 : G ≤ 9223372036854775807 := by unfold maxLen at hle; exact hle
    have HRUN := hide hrun; have HLE := hide hle
    clear hrun hold hG hle hi0 hz0 hz1 hz2 hn
    go_enter Tryz.func103, Tryz.ntmps103
    go_wp2_with (at_builtin; refine Lib.wpList_append_run _ rfl _ _ _ _ rfl _ _ rfl rfl _ _ (HRUN.out _) ?_)
    all_goals
      go_ret
      refine ⟨_, _, rfl, Slab.mk' (by simp) (Nat.zero_le _) HLE.out (Blk.new w.drew 26 _) ?_ (fun j hj => absurd hj (by omega)), (fun k ⟨o, h⟩ => by injection h with h; injection h with h; omega), ((Keeps.refl NoB w).drew).alloc _⟩
      simp only [Array.size_append, List.size_toArray, size_zeroCells, List.length_nil, Value.cells]
      have := Nat.mul_le_mul_right 7 hge
      simp
      omega

set_option maxRecDepth 100000 in
theorem tmC_concat (xss : List (List Value)) (vs : List Value) (A : Option Addr) (K c N : Nat) (w : World) (B B' : Nat → Prop) (F F' : Bool)
    (hh : Reads w B F 1 A K vs) (hx : HeadsAt w B' F' 7 vs xss) (hN : xss.flatten.length = N * 7) (h1 : ∀ u ∈ xss.flatten, u.oneCell' = true) (hr : Roomy N 104) (hK : K ≤ 9223372036854775807) :
    Calls Tryz.prog 86 #[.slice A K c] w fun e w' => ∃ A' c', e = .returned (.slice A' N c') ∧ Slab w' 26 7 A' N c' xss.flatten ∧ (∀ k, rowB A' k → w.heap.size ≤ k) ∧ Keeps NoB w w' := by
  have hvl : vs.length = K := by have := hh.1; omega
  have hxl : xss.length = K := by rw [← hx.len]; exact hvl
  have hnm : N ≤ 140737488355328 := by unfold Roomy at hr; omega
  have HH := hide hh; have HX := hide hx; have HN := hide hN; have H1 := hide h1; have HR := hide hr; have HVL := hide hvl; have HXL := hide hxl
  clear hh hx hN h1 hr hvl hxl
  go_enter Tryz.func86, Tryz.ntmps86
  go_wp2
  go_loopw [11, 3] (fun i s3 wr => ∃ k s : Nat, k ≤ K ∧ i = .int .i64 k ∧ s3 = .int .i64 s ∧ s * 7 = (xss.take k).flatten.length ∧ w = wr) (fun i _ _ => K - (intOf i).toNat)
  case atStart => exact ⟨0, 0, Nat.zero_le _, rfl, rfl, by simp, rfl⟩
  case round =>
    obtain ⟨k, s, hk, rfl, rfl, hs, rfl⟩ := hrel
    have HS := hide hs; clear hs
    by_cases hlt : k < K
    · obtain ⟨A1, n1, c1, xs, hv, hx1, hrd⟩ := HX.out.at k (by have := HVL.out; omega)
      obtain ⟨⟨b, o, sp⟩, hA, hsp, _, _, hc⟩ := HH.out.2 (by omega)
      simp only at hsp
      subst hsp hA
      have p0 := (hc k _ hv).1
      have hk1 : (k : Int) < (K : Int) := by omega
      have hk0 : (0 : Int) ≤ (k : Int) := by omega
      have HT := hide (heads_take hx1)
      have hle : s + n1 ≤ N := by
        have h1 := HS.out; have h2 := heads_take_le xss (k + 1); rw [HT.out, List.length_append, HN.out, ← h1, hrd.1] at h2; omega
      have HS1 : Hid ((s + n1) * 7 = (xss.take (k + 1)).flatten.length) := hide (by
        rw [HT.out, List.length_append, hrd.1, ← HS.out]; omega)
      clear hc hv hx1 hrd
      have hw1 : wrap64 ((s : Int) + (n1 : Int)) = (s : Int) + (n1 : Int) := by unfold wrap64; omega
      have hw2 : ¬ ((s : Int) + (n1 : Int) < 0) := by omega
      go_wp2
      go_roundw
      case rel => exact ⟨k + 1, s + n1, by omega, by go_num, by go_num, HS1.out, by first | rfl | trivial⟩
      case measure => simp [intOf]; omega
    · have hsN : s = N := by
        have h1 := HS.out; rw [List.take_of_length_le (by have := HXL.out; omega), HN.out] at h1; omega
      subst hsN
      have HK0 := hide hlt; clear hlt
      go_wp2_with
        first
        | (go_at_call 103
           refine (tmC_grow s _ HR.out).mono ?_
           rintro e w2 ⟨A2, c2, rfl, hs2, hf2, hk2⟩
           have HS2 := hide hs2; have HF2 := hide hf2; have HK2 := hide hk2
           clear hs2 hf2 hk2)
        | fail
      go_loopw [27, 6] (fun i s6 wr => ∃ (k s : Nat) (A' : Option Addr) (c' : Nat), k ≤ K ∧ i = .int .i64 k ∧ s6 = .slice A' s c' ∧ Slab wr 26 7 A' s c' (xss.take k).flatten ∧ (∀ k, rowB A' k → w.heap.size ≤ k) ∧ Keeps NoB w wr) (fun i _ _ => K - (intOf i).toNat)
      case atStart => exact ⟨0, 0, A2, c2, Nat.zero_le _, rfl, rfl, HS2.out, HF2.out, HK2.out⟩
      case round =>
        obtain ⟨k, s2, A', c', hk, rfl, rfl, hs', hf', hk'⟩ := hrel
        have HSL := hide hs'; have HFR := hide hf'; have HKW := hide hk'; clear hs' hf' hk'
        by_cases hlt : k < K
        · obtain ⟨A1, n1, c1, xs, hv, hx1, hrd⟩ := HX.out.at k (by have := HVL.out; omega)
          obtain ⟨⟨b, o, sp⟩, hA, hsp, _, _, hc⟩ := HH.out.2 (by omega)
          simp only at hsp
          subst hsp hA
          have p0 : wr.cell? ⟨b, o + k, none⟩ = some (.slice A1 n1 c1) := HKW.out.cell (p := ⟨b, o + k, none⟩) id (hc k _ hv).1
          have hk1 : (k : Int) < (K : Int) := by omega
          have hk0 : (0 : Int) ≤ (k : Int) := by omega
          have HT := hide (heads_take hx1)
          have hle : s2 + n1 ≤ s := by
            have h1 := HSL.out.1; have h2 := heads_take_le xss (k + 1); rw [HT.out, List.length_append, HN.out, h1, hrd.1] at h2; omega
          have HRD := hide (hrd.keep HKW.out (fun _ _ => id))
          have HON : Hid (∀ u ∈ xs, u.oneCell' = true) := hide (fun u hu => H1.out u (by
            rw [List.mem_flatten]
            exact ⟨xs, List.mem_of_getElem? hx1, hu⟩))
          have HBD : Hid (s2 + n1 ≤ maxLen ∧ (s2 + n1) * 104 ≤ 140737488355328) := hide ⟨by unfold maxLen; omega, by have := HR.out; unfold Roomy at this; omega⟩
          obtain ⟨i0, hi0, hz0, hz1, hz2⟩ := info_parts Tryz.tmCInfo
          clear hc hv hx1 hrd
          obtain ⟨ys, hys⟩ : ∃ ys, (xss.take k).flatten = ys := ⟨_, rfl⟩
          rw [hys] at HSL HT
          clear hys
          go_wp2_with (at_builtin; refine wpList_append_any _ rfl (.tmp 31) (.tmp 32) 24 rfl 26 i0 _ 7 104 Tryz.underlying24 hi0 hz0 hz1 hz2 rfl (by omega) A' s2 c' ys rfl HSL.out B' F' A1 n1 c1 xs rfl HRD.out HON.out HBD.out.1 HBD.out.2 ?_)
          intro A3 c3 w3 g1 g2 g3
          have HG := hide (And.intro g1 (And.intro g2 g3))
          clear g1 g2 g3
          go_wp2
          go_roundw
          case rel =>
            refine ⟨k + 1, s2 + n1, A3, c3, by omega, by go_num, rfl, by rw [HT.out]; exact HG.out.1, fun j hj => ?_, HKW.out.trans' HG.out.2.1 (fun _ _ => id) (fun j hj hb => absurd (HFR.out j hb) (by omega))⟩
            rcases HG.out.2.2 j hj with h | h
            · exact HFR.out j h
            · exact Nat.le_trans HKW.out.size h
          case measure => simp [intOf]; omega
        · have hsN : s2 = s := by
            have h1 := HSL.out.1; rw [List.take_of_length_le (by have := HXL.out; omega), HN.out] at h1; omega
          subst hsN
          go_wp2
          go_ret
          refine ⟨A', c', rfl, ?_, HFR.out, HKW.out⟩
          have h := HSL.out
          rw [List.take_of_length_le (by have := HXL.out; omega)] at h
          exact h
end Go.Proofs.YthbbalkhmofndaaGreatDoor
namespace Go.Proofs.YthbbalkhmofndaaGreatDoor
open Go.RowKit

/-- What was not there yet. -/
abbrev Above (w : World) : Nat → Prop := fun k => w.heap.size ≤ k

set_option maxRecDepth 100000 in
theorem tm_clone_limbs (B : Nat → Prop) (F : Bool) (A : Option Addr) (n c : Nat) (xs : List Value) (w : World) (hr : Reads w B F 1 A n xs) (h1 : ∀ u ∈ xs, u.oneCell' = true) (hb : Roomy n 4) :
    Calls Tryz.prog 65 #[.slice A n c] w fun e w' => ∃ A' c', e = .returned (.slice A' n c') ∧ Reads w' (Above w) true 1 A' n xs ∧ RoomC n c' 4 ∧ Keeps NoB w w' := by
  obtain ⟨i0, hi0, hz0, hz1, hz2⟩ := info_parts Tryz.infoLm
  have q := fun (w : World) (a : Option Addr) (n c n' c' : Nat) => Lib.run_eql_slice_nil (P := Tryz.prog) w 23 44 a n c n' c' Tryz.underlying23
  rcases A with _ | ad
  · have hn : n = 0 := by
      rcases Nat.eq_zero_or_pos n with h | h
      · exact h
      · obtain ⟨ad, h, _⟩ := hr.2 h; cases h
    subst hn
    have hx : xs = [] := List.eq_nil_of_length_eq_zero (by simpa using hr.1)
    subst hx
    go_enter Tryz.func65, Tryz.ntmps65
    go_wp2
    go_ret
    exact ⟨none, 0, rfl, Reads.zero _ _ _ _ _, RoomC.zero _, Keeps.refl _ _⟩
  · go_enter Tryz.func65, Tryz.ntmps65
    go_wp2_with (at_builtin; go_must (refine wpList_append_reads _ rfl (.tmp 5) (.tmp 6) 23 rfl w.heap.size 44 i0 _ 1 4 Tryz.underlying23 hi0 hz0 hz1 hz2 rfl (by omega) (.slice (some ⟨w.heap.size, 0, none⟩) 0 0) 0 [] rfl ?z1 B F (some ad) n c xs rfl ?z2 h1 ?z3 ?z4 ?z5 ?_))
    case z1 => exact World.ownsRow_made w #[] 0 (Nat.le_refl _) (Nat.zero_le _) rfl
    case z2 => exact hr.keep ((Keeps.refl NoB w).alloc _) (fun _ _ => id)
    case z3 => rw [Nat.zero_add]; exact hb.len (by omega)
    case z4 => rw [Nat.zero_add]; exact hb
    case z5 => simp
    intro v' w' hown hg _
    obtain ⟨A', c', hv, hs⟩ := Slab.of_own hown
    subst hv
    have hbel : Below w.heap.size w w' := ((Below.refl _ _).alloc (Nat.le_refl _) _).grown hg (by simp) (fun k h => by simp [Value.ownBlock] at h; omega)
    have H := hide (hs.reads.more (B' := Above w) (by
      rintro k hk ⟨o, rfl⟩
      rcases hown.2 with ⟨hv, _⟩ | ⟨g, cap, cur, hv, hb, _⟩
      · cases hv
      · injection hv with hv; injection hv with hv; injection hv with hv; subst hv; exact hb))
    have HCC : Hid (RoomC n c' 4) := hide ⟨hb, by have := hs.2.1; simpa using this, hs.2.2.1⟩
    have HB := hide (Keeps.of_below hbel NoB); clear hbel hg hown hs
    go_wp2
    go_ret
    exact ⟨A', c', rfl, H.out, HCC.out, HB.out⟩

def CopySaid (M : Nat) : Prop := ∀ (t : Tm), t.size ≤ M → ∀ (w : World) (B : Nat → Prop) (F : Bool)
    (kd : Int) (ng : Bool) (la : Option Addr) (ln lc : Nat) (tx : ByteArray) (nm : Int) (ia : Option Addr) (im ic : Nat) (ta : Option Addr) (tn tc : Nat),
    TermIn w B F [.int .u8 kd, .bool ng, .slice la ln lc, .string tx, .int .i64 nm, .slice ia im ic, .slice ta tn tc] t →
    Calls Tryz.prog 28 #[.agg #[.int .u8 kd, .bool ng, .slice la ln lc, .string tx, .int .i64 nm, .slice ia im ic, .slice ta tn tc]] w fun e w' => ∃ la' lc' ia' ic' ta' tc', e = .returned (.agg #[.int .u8 kd, .bool ng, .slice la' ln lc', .string tx, .int .i64 nm, .slice ia' im ic', .slice ta' tn tc']) ∧ TermIn w' (Above w) true [.int .u8 kd, .bool ng, .slice la' ln lc', .string tx, .int .i64 nm, .slice ia' im ic', .slice ta' tn tc'] t ∧ Keeps NoB w w'

/-- The first k of a list, copied: the row, and the terms outside of it. -/
def CopiesAt (w : World) (A : Option Addr) (k c : Nat) (ts : List Tm) (wr : World) : Prop :=
  ∃ css, Slab wr 26 7 A k c css.flatten ∧ TermsIn wr (fun j => w.heap.size ≤ j ∧ ¬ rowB A j) true css ts ∧ (∀ j, rowB A j → w.heap.size ≤ j) ∧ Keeps NoB w wr

theorem CopiesAt.step {w wr w3 w4 : World} {A A4 : Option Addr} {k c c4 : Nat} {ts : List Tm} {t : Tm} {cs : List Value} {css : List (List Value)} (hs : Slab wr 26 7 A k c css.flatten) (hts : TermsIn wr (fun j => w.heap.size ≤ j ∧ ¬ rowB A j) true css ts) (hf : ∀ j, rowB A j → w.heap.size ≤ j) (hw : Keeps NoB w wr) (h3 : Keeps NoB wr w3) (ht : TermIn w3 (Above wr) true cs t)
    (h4 : Slab w4 26 7 A4 (k + 1) c4 (css.flatten ++ cs)) (hk : Keeps (rowB A) w3 w4) (hm : Moved w3 A A4) : CopiesAt w A4 (k + 1) c4 (ts ++ [t]) w4 := by
  have hlow : ∀ j, rowB A j → j < wr.heap.size := fun j hj => hs.lt hj
  have h1 := TermsIn.keep hk (fun j (hj : w.heap.size ≤ j ∧ ¬ rowB A j) => hj.2) _ _ (TermsIn.keep h3 (fun _ _ => id) _ _ hts)
  have h2 : TermIn w4 (fun j => w3.heap.size > j ∧ Above wr j) true cs t := by
    refine TermIn.keep hk (fun j hj hr => by have := hlow j hr; have := hj.2; unfold Above at this; omega) _ _ (TermIn.more (fun j h5 h6 => ⟨h5, h6⟩) _ _ ht)
  have h0 : TermsIn w3 (fun j => (w.heap.size ≤ j ∧ ¬ rowB A j) ∧ j < w3.heap.size) true css ts := TermsIn.more (fun j h5 h6 => ⟨h6, h5⟩) _ _ (TermsIn.keep h3 (fun _ _ => id) _ _ hts)
  have h0' := TermsIn.keep hk (fun j hj => hj.1.2) _ _ h0
  refine ⟨css ++ [cs], ?_, ?_, ?_, ?_⟩
  · rw [List.flatten_append]; simpa using h4
  · refine TermsIn.append (TermsIn.more (fun j _ hj => ⟨hj.1.1, fun hr => ?_⟩) _ _ h0') (TermsIn.one (TermIn.more (fun j _ hj => ⟨Nat.le_trans hw.size hj.2, fun hr => ?_⟩) _ _ h2))
    · rcases hm j hr with h5 | h5
      · exact hj.1.2 h5
      · have := hj.2; omega
    · rcases hm j hr with h5 | h5
      · have := hlow j h5; have := hj.2; unfold Above at this; omega
      · have := hj.1; omega
  · intro j hj
    rcases hm j hj with h5 | h5
    · exact hf j h5
    · exact Nat.le_trans hw.size (Nat.le_trans h3.size h5)
  · exact (hw.trans' h3 (fun _ _ => id) (fun _ _ => id) : Keeps NoB w w3).trans' hk (fun _ _ => id) (fun j hj hr => absurd (hf j hr) (by omega))

set_option maxRecDepth 100000 in
set_option maxHeartbeats 1000000 in
theorem copies_of (M : Nat) (IH : Hid (CopySaid M)) (ts : List Tm) (hM : Tm.size.sizes ts ≤ M) (csss : List (List (List Value))) (vs : List Value) (A : Option Addr) (K c N : Nat) (w : World) (B B' : Nat → Prop) (F F' : Bool)
    (hh : Reads w B F 1 A K vs) (hx : HeadsAt w B' F' 7 vs (csss.map List.flatten)) (ht : TermsIn w B' F' csss.flatten ts) (hn : ts.length = N) (hroom : Roomy N 104) (hK : K ≤ 9223372036854775807) :
    Calls Tryz.prog 66 #[.slice A K c] w fun e w' => ∃ A' c', e = .returned (.slice A' N c') ∧ CopiesAt w A' N c' ts w' := by
  have hfl : (csss.map List.flatten).flatten = csss.flatten.flatten := List.flatten_flatten.symm
  have hcl : csss.flatten.length = N := by rw [← hn]; exact ht.lens.1
  have hN : (csss.map List.flatten).flatten.length = N * 7 := by rw [hfl, flat_len ht.lens.2, hcl]
  have h1 : ∀ u ∈ (csss.map List.flatten).flatten, u.oneCell' = true := by rw [hfl]; exact TermsIn.ones _ _ ht
  have hnm : N ≤ 9223372036854775807 := by have := hroom.len (by omega); unfold maxLen at this; exact this
  have HH := hide hh; have HX := hide hx; have HT := hide ht; have HN := hide hN; have H1 := hide h1; have HRO := hide hroom; have HM := hide hM; have HNT := hide hn; have HFL := hide hfl
  clear hh hx ht hN h1 hroom hM hn hfl hcl
  go_enter Tryz.func66, Tryz.ntmps66
  go_wp2_with
    first
    | (go_at_call 86
       refine (tmC_concat _ vs A K c N _ B B' F F' HH.out HX.out HN.out H1.out HRO.out hK).mono ?_
       rintro e w2 ⟨A2, c2, rfl, hs2, hf2, hk2⟩
       have HS2 := hide ((HFL.out ▸ hs2 : Slab w2 26 7 A2 N c2 csss.flatten.flatten).reads.weak.more (B' := fun _ => True) (fun _ _ _ => trivial)); have HK2 := hide hk2
       have HT2 := hide (TermsIn.weak _ _ (TermsIn.more (B' := fun _ => True) (fun _ _ _ => trivial) _ _ (TermsIn.keep hk2 (fun _ _ => id) _ _ HT.out)))
       clear hs2 hf2 hk2)
    | fail
  go_loopw [9, 3] (fun i s3 wr => ∃ (k : Nat) (A' : Option Addr) (c' : Nat), k ≤ N ∧ i = .int .i64 k ∧ s3 = .slice A' k c' ∧ CopiesAt w2 A' k c' (ts.take k) wr) (fun i _ _ => N - (intOf i).toNat)
  case atStart => exact ⟨0, none, 0, Nat.zero_le _, rfl, rfl, ⟨[], Slab.nil _ _ _, by rw [List.take_zero]; unfold TermsIn; trivial, (fun j ⟨o, h⟩ => by cases h), Keeps.refl _ _⟩⟩
  case round =>
    obtain ⟨k, A', c', hk, rfl, rfl, ⟨css, hs, hts, hf, hw⟩⟩ := hrel
    have HKW := hide hw; have HSL := hide hs; have HTS := hide hts; have HF := hide hf
    clear hs hts hf hw
    by_cases hlt : k < N
    · obtain ⟨b, o, kd, ng, la, ln, lc, tx, nm, ia, im, ic, ta, tn, tc, t, hA, h1, h2, h3, f0, f1, f2, f3, f4, f5, f6⟩ := cells_at (HS2.out.keep HKW.out (fun _ _ => id)) (TermsIn.keep HKW.out (fun _ _ => id) _ _ HT2.out) k hlt
      subst hA
      have hk1 : (k : Int) < (N : Int) := by omega
      have hk0 : (0 : Int) ≤ (k : Int) := by omega
      have HE := hide h1; have HT3 := hide (TermIn.keep ((Keeps.refl NoB wr).alloc (.cells #[.int .u8 kd, .bool ng, .slice la ln lc, .string tx, .int .i64 nm, .slice ia im ic, .slice ta tn tc] 26)) (fun _ _ => id) _ _ h2); have HZ := hide h3
      clear h1 h2 h3
      obtain ⟨i0, hi0, hz0, hz1, hz2⟩ := info_parts Tryz.infoTm
      have HBD : Hid (k + 1 ≤ maxLen ∧ (k + 1) * 104 ≤ 140737488355328) := hide ⟨by unfold maxLen; omega, by have := HRO.out; unfold Roomy at this; omega⟩
      go_wp2_with
        first
        | (go_at_call 28
           refine (IH.out t (by have := HM.out; have := HZ.out; omega) _ _ _ _ _ _ _ _ _ _ _ _ _ _ _ _ HT3.out).mono ?_
           rintro e w3 ⟨la', lc', ia', ic', ta', tc', rfl, ht3, hk3⟩
           have HK3 : Hid (Keeps NoB wr (w3.alloc (.cells #[.int .u8 kd, .bool ng, .slice la' ln lc', .string tx, .int .i64 nm, .slice ia' im ic', .slice ta' tn tc'] 26))) := hide ((((Keeps.refl NoB wr).alloc _).trans' hk3 (fun _ _ => id) (fun _ _ => id) : Keeps NoB wr w3).alloc _)
           have HT4 : Hid (TermIn (w3.alloc (.cells #[.int .u8 kd, .bool ng, .slice la' ln lc', .string tx, .int .i64 nm, .slice ia' im ic', .slice ta' tn tc'] 26)) (Above wr) true [.int .u8 kd, .bool ng, .slice la' ln lc', .string tx, .int .i64 nm, .slice ia' im ic', .slice ta' tn tc'] t) := hide (TermIn.keep ((Keeps.refl NoB w3).alloc _) (fun _ _ => id) _ _ (TermIn.more (fun j _ hj => by have := hj; unfold Above at this ⊢; simp at this; omega) _ _ ht3))
           have HRD := hide (one_reads7 (Blk.new w3 26 #[.int .u8 kd, .bool ng, .slice la' ln lc', .string tx, .int .i64 nm, .slice ia' im ic', .slice ta' tn tc']))
           have HSA := hide (HSL.out.fresh HK3.out)
           clear ht3 hk3 f0 f1 f2 f3 f4 f5 f6)
        | (at_builtin; refine wpList_append_slab _ rfl (.tmp 13) (.tmp 16) 24 rfl 26 i0 _ 7 104 Tryz.underlying24 hi0 hz0 hz1 hz2 rfl (by omega) A' k c' css.flatten rfl HSA.out (fun _ => True) true (some ⟨w3.heap.size, 0, none⟩) 1 1 [.int .u8 kd, .bool ng, .slice la' ln lc', .string tx, .int .i64 nm, .slice ia' im ic', .slice ta' tn tc'] rfl HRD.out (by omega) (by intro u hu; simp only [List.mem_cons, List.not_mem_nil, or_false] at hu; rcases hu with rfl | rfl | rfl | rfl | rfl | rfl | rfl <;> rfl) HBD.out.1 HBD.out.2 ?_
           intro A4 c4 w4 g1 g2 g3
           have HG := hide (And.intro g1 (And.intro g2 g3))
           clear g1 g2 g3)
        | fail
      go_roundw
      case rel =>
        refine ⟨k + 1, A4, c4, by omega, by go_num, rfl, ?_⟩
        rw [show ts.take (k + 1) = ts.take k ++ [t] by rw [List.take_add_one, HE.out]; rfl]
        exact CopiesAt.step HSL.out HTS.out HF.out HKW.out HK3.out HT4.out HG.out.1 HG.out.2.1 HG.out.2.2
      case measure => simp [intOf]; omega
    · go_wp2
      go_ret
      obtain rfl : k = N := by omega
      refine ⟨A', c', rfl, css, HSL.out, ?_, fun j hj => Nat.le_trans HK2.out.size (HF.out j hj), HK2.out.trans' HKW.out (fun _ _ => id) (fun _ _ => id)⟩
      have h := HTS.out
      rw [List.take_of_length_le (by have := HNT.out; omega)] at h
      exact TermsIn.more (fun j _ hj => ⟨Nat.le_trans HK2.out.size hj.1, hj.2⟩) _ _ h
end Go.Proofs.YthbbalkhmofndaaGreatDoor
namespace Go.Proofs.YthbbalkhmofndaaGreatDoor
open Go.RowKit

theorem one_head {w : World} {g : Nat} {t : TypeId} {v : Value} (h : Blk w g t #[v]) : Reads w (fun _ => True) true 1 (some ⟨g, 0, none⟩) 1 [v] := by
  refine ⟨rfl, fun _ => ⟨_, rfl, rfl, trivial, h.lt, fun j u hu => ⟨?_, fun _ => h.free _⟩⟩⟩
  rw [h.cell, ← hu]; simp
theorem heads_one {w : World} {B : Nat → Prop} {F : Bool} {A : Option Addr} {n : Nat} {css : List (List Value)} (c : Nat) (h : Reads w B F 7 A n css.flatten) : HeadsAt w B F 7 [.slice A n c] ([css].map List.flatten) := by
  simp only [List.map_cons, List.map_nil]
  unfold HeadsAt
  exact ⟨⟨A, n, c, rfl, h⟩, by unfold HeadsAt; trivial⟩
theorem copy_mid {w : World} {B : Nat → Prop} {F : Bool} {la ia ta : Option Addr} {ln lc im ic tn tc : Nat} {limbs : List Int} {items tail : List Tm} {css dss : List (List Value)} (kd : Int) (ng : Bool) (tx : ByteArray) (nm : Int)
    (hr : RoomC ln lc 4 ∧ RoomC im ic 104 ∧ RoomC tn tc 104) (h1 : Reads w B F 1 la ln (limbs.map (Value.int .u32))) (h2 : Reads w B F 7 ia im css.flatten) (h3 : TermsIn w B F css items) (h4 : Reads w B F 7 ta tn dss.flatten) (h5 : TermsIn w B F dss tail) :
    TermIn w B F [.int .u8 kd, .bool ng, .slice la ln lc, .string tx, .int .i64 nm, .slice ia im ic, .slice ta tn tc] (.mk kd ng limbs tx nm items tail) := by
  unfold TermIn
  exact ⟨la, ln, lc, ia, im, ic, ta, tn, tc, css, dss, rfl, hr, h1, h2, h3, h4, h5⟩

set_option maxRecDepth 100000 in
set_option maxHeartbeats 16000000 in
theorem tm_copy (M : Nat) : CopySaid M := by
  induction M using Nat.strongRecOn with
  | ind M IH =>
  intro t hM w B F kd ng la ln lc tx nm ia im ic ta tn tc ht
  obtain ⟨limbs, items, tail, css, dss, rfl, hroom, hrl, hri, hti, hrt, htt⟩ : ∃ limbs items tail css dss, t = .mk kd ng limbs tx nm items tail ∧ (Roomy ln 4 ∧ Roomy im 104 ∧ Roomy tn 104) ∧ Reads w B F 1 la ln (limbs.map (Value.int .u32)) ∧ Reads w B F 7 ia im (List.flatten css) ∧ TermsIn w B F css items ∧ Reads w B F 7 ta tn (List.flatten dss) ∧ TermsIn w B F dss tail := by
    cases t
    unfold TermIn at ht
    obtain ⟨_, _, _, _, _, _, _, _, _, css, dss, e, hb, h1, h2, h3, h4, h5⟩ := ht
    simp only [List.cons.injEq, Value.int.injEq, Value.bool.injEq, Value.slice.injEq, Value.string.injEq, true_and, and_true] at e
    obtain ⟨rfl, rfl, ⟨rfl, rfl, rfl⟩, rfl, rfl, ⟨rfl, rfl, rfl⟩, rfl, rfl, rfl⟩ := e
    exact ⟨_, _, _, css, dss, rfl, ⟨hb.1.1, hb.2.1.1, hb.2.2.1⟩, h1, h2, h3, h4, h5⟩
  have HSZ : Hid (Tm.size.sizes items < M ∧ Tm.size.sizes tail < M) := hide (by
    have := hM; simp only [Tm.size] at this; omega)
  have HLEN : Hid (items.length = im ∧ tail.length = tn) := hide (by
    have h2 := hri.1; have h3 := hrt.1
    rw [flat_len hti.lens.2, hti.lens.1] at h2
    rw [flat_len htt.lens.2, htt.lens.1] at h3
    omega)
  have HRO := hide hroom; have HIH := hide IH
  clear ht hM hroom IH
  have HRL := hide hrl; have HRI := hide hri; have HTI := hide hti; have HRT := hide hrt; have HTT := hide htt
  clear hrl hri hti hrt htt
  go_enter Tryz.func28, Tryz.ntmps28
  go_upto_region 1 with fail
  have HKW : Hid (Keeps NoB w ((w.alloc (.cells #[.int .u8 kd, .bool ng, .slice la ln lc, .string tx, .int .i64 nm, .slice ia im ic, .slice ta tn tc] 26)).alloc (.cells #[.int .u8 0, .bool false, .slice none 0 0, .string { data := #[] }, .int .i64 0, .slice none 0 0, .slice none 0 0] 26))) := hide (((Keeps.refl NoB w).alloc _).alloc _)
  have HBX : Hid (Blk ((w.alloc (.cells #[.int .u8 kd, .bool ng, .slice la ln lc, .string tx, .int .i64 nm, .slice ia im ic, .slice ta tn tc] 26)).alloc (.cells #[.int .u8 0, .bool false, .slice none 0 0, .string { data := #[] }, .int .i64 0, .slice none 0 0, .slice none 0 0] 26)) w.heap.size 26 #[.int .u8 kd, .bool ng, .slice la ln lc, .string tx, .int .i64 nm, .slice ia im ic, .slice ta tn tc]) := hide ((Blk.new w _ _).alloc _)
  have HBR : Hid (Blk ((w.alloc (.cells #[.int .u8 kd, .bool ng, .slice la ln lc, .string tx, .int .i64 nm, .slice ia im ic, .slice ta tn tc] 26)).alloc (.cells #[.int .u8 0, .bool false, .slice none 0 0, .string { data := #[] }, .int .i64 0, .slice none 0 0, .slice none 0 0] 26)) (w.heap.size + 1) 26 #[.int .u8 0, .bool false, .slice none 0 0, .string { data := #[] }, .int .i64 0, .slice none 0 0, .slice none 0 0]) := hide (Blk.new2 w _ _ _)
  have HLT : Hid (w.heap.size < ((w.alloc (.cells #[.int .u8 kd, .bool ng, .slice la ln lc, .string tx, .int .i64 nm, .slice ia im ic, .slice ta tn tc] 26)).alloc (.cells #[.int .u8 0, .bool false, .slice none 0 0, .string { data := #[] }, .int .i64 0, .slice none 0 0, .slice none 0 0] 26)).heap.size ∧ w.heap.size + 1 < ((w.alloc (.cells #[.int .u8 kd, .bool ng, .slice la ln lc, .string tx, .int .i64 nm, .slice ia im ic, .slice ta tn tc] 26)).alloc (.cells #[.int .u8 0, .bool false, .slice none 0 0, .string { data := #[] }, .int .i64 0, .slice none 0 0, .slice none 0 0] 26)).heap.size) := hide (by simp; omega)
  generalize ((w.alloc (.cells #[.int .u8 kd, .bool ng, .slice la ln lc, .string tx, .int .i64 nm, .slice ia im ic, .slice ta tn tc] 26)).alloc (.cells #[.int .u8 0, .bool false, .slice none 0 0, .string { data := #[] }, .int .i64 0, .slice none 0 0, .slice none 0 0] 26)) = w1 at *
  generalize hgr' : w.heap.size + 1 = gr at *
  have hgr : ¬ gr = w.heap.size := by omega
  have HGR := hide hgr'
  clear hgr'
  generalize hgb : w.heap.size = gb at HBX HLT hgr ⊢
  have HGB := hide hgb; clear hgb
  go_cut [] (fun wx => ∃ (la' : Option Addr) (lc' : Nat) (ia' : Option Addr) (ic' : Nat) (ta' : Option Addr) (tc' : Nat), Blk wx gb 26 #[.int .u8 kd, .bool ng, .slice la' ln lc', .string tx, .int .i64 nm, .slice ia' im ic', .slice ta' tn tc'] ∧ Blk wx gr 26 #[.int .u8 0, .bool false, .slice none 0 0, .string { data := #[] }, .int .i64 0, .slice none 0 0, .slice none 0 0] ∧ TermIn wx (Above w1) true [.int .u8 kd, .bool ng, .slice la' ln lc', .string tx, .int .i64 nm, .slice ia' im ic', .slice ta' tn tc'] (.mk kd ng limbs tx nm items tail) ∧ Keeps (fun j => j = gb) w1 wx)
  case first =>
    go_wp2_with fail
    refine order_begin (fun W => Blk W gb 26 #[.int .u8 kd, .bool ng, .slice la ln lc, .string tx, .int .i64 nm, .slice ia im ic, .slice ta tn tc]) (fun i => !(i == 12 || i == 14 || i == 16)) (by kernel_rfl) 17 rfl ?_
    have HKW0 : Hid (Keeps NoB w1 w1.drew) := hide (Keeps.refl _ _).drew
    have HRL0 := hide (HRL.out.keep (HKW.out.drew) (fun _ _ => id)); have HRI0 := hide (HRI.out.keep (HKW.out.drew) (fun _ _ => id)); have HTI0 := hide (TermsIn.keep (HKW.out.drew) (fun _ _ => id) _ _ HTI.out); have HRT0 := hide (HRT.out.keep (HKW.out.drew) (fun _ _ => id)); have HTT0 := hide (TermsIn.keep (HKW.out.drew) (fun _ _ => id) _ _ HTT.out)
    have HS : Blk w1.drew gb 26 #[.int .u8 kd, .bool ng, .slice la ln lc, .string tx, .int .i64 nm, .slice ia im ic, .slice ta tn tc] := HBX.out
    have HBX : Hid (Blk w1.drew gb 26 #[.int .u8 kd, .bool ng, .slice la ln lc, .string tx, .int .i64 nm, .slice ia im ic, .slice ta tn tc]) := HBX
    have HBR : Hid (Blk w1.drew gr 26 #[.int .u8 0, .bool false, .slice none 0 0, .string { data := #[] }, .int .i64 0, .slice none 0 0, .slice none 0 0]) := HBR
    have HLT : Hid (gb < w1.drew.heap.size ∧ gr < w1.drew.heap.size) := HLT
    generalize w1.drew = W0 at *
    have HK00 : Hid (Keeps NoB W0 W0) := hide (Keeps.refl _ _)
    refine order_pure (i := 0) rfl (by kernel_rfl) (fun _ _ _ h => h) (.inl ⟨rfl, fun _ => by go_simp; rfl⟩) ?_
    try simp only [Act.put, List.setIfInBounds_toArray, List.set_cons_succ, List.set_cons_zero]
    refine order_held (i := 1) rfl (by kernel_rfl) (fun _ _ _ h => h) (.inl ⟨rfl, fun W hW => by
      have q0 : W.cell? ⟨gb, 2, none⟩ = some (.slice la ln lc) := hW.cell 2
      go_simp; rfl⟩) HS ?_
    try simp only [Act.put, List.setIfInBounds_toArray, List.set_cons_succ, List.set_cons_zero]
    refine order_pure (i := 3) rfl (by kernel_rfl) (fun _ _ _ h => h) (.inl ⟨rfl, fun _ => by go_simp; rfl⟩) ?_
    try simp only [Act.put, List.setIfInBounds_toArray, List.set_cons_succ, List.set_cons_zero]
    refine order_held (i := 4) rfl (by kernel_rfl) (fun _ _ _ h => h) (.inl ⟨rfl, fun W hW => by
      have q0 : W.cell? ⟨gb, 5, none⟩ = some (.slice ia im ic) := hW.cell 5
      go_simp; rfl⟩) HS ?_
    try simp only [Act.put, List.setIfInBounds_toArray, List.set_cons_succ, List.set_cons_zero]
    refine order_pure (i := 7) rfl (by kernel_rfl) (fun _ _ _ h => h) (.inl ⟨rfl, fun _ => by go_simp; rfl⟩) ?_
    try simp only [Act.put, List.setIfInBounds_toArray, List.set_cons_succ, List.set_cons_zero]
    refine order_held (i := 8) rfl (by kernel_rfl) (fun _ _ _ h => h) (.inl ⟨rfl, fun W hW => by
      have q0 : W.cell? ⟨gb, 6, none⟩ = some (.slice ta tn tc) := hW.cell 6
      go_simp; rfl⟩) HS ?_
    try simp only [Act.put, List.setIfInBounds_toArray, List.set_cons_succ, List.set_cons_zero]
    refine order_three (i := 2) (j := 5) (k := 9) rfl rfl rfl (by kernel_rfl) (fun K hK => ?_) (fun K hK => ?_) (fun K hK => ?_)
    · skip
      go_simp
      refine (tm_clone_limbs B F la ln lc (limbs.map (Value.int .u32)) W0 (HRL0.out.keep HK00.out (fun _ _ => id)) (fun u hu => by obtain ⟨x, _, rfl⟩ := List.mem_map.1 hu; rfl) HRO.out.1).mono ?_
      rintro e V1 ⟨A2, c2, rfl, hr2, hc2, hk2⟩
      have HC2 := hide hc2
      clear hc2
      refine hK _ _ (fun _ hS => hS.keep hk2 id) ?_
      clear hK
      try simp only [Act.put, List.setIfInBounds_toArray, List.set_cons_succ, List.set_cons_zero]
      have HV1 : Hid (Keeps NoB W0 V1) := hide (HK00.out.trans' hk2 (fun _ _ => id) (fun _ _ => id))
      have F2_1 := hide (hr2.more (B' := Above W0) (fun j _ hj => Nat.le_trans HK00.out.size hj))
      clear hk2 hr2
      refine order_pure (i := 11) rfl (by kernel_rfl) (fun _ _ _ h => h) (.inl ⟨rfl, fun _ => by go_simp; rfl⟩) ?_
      try simp only [Act.put, List.setIfInBounds_toArray, List.set_cons_succ, List.set_cons_zero]
      refine order_two (i := 5) (j := 9) rfl rfl (by kernel_rfl) (fun K hK => ?_) (fun K hK => ?_)
      · skip
        go_simp
        refine hK _ _ (fun _ hS => hS.alloc _) ?_
        clear hK
        try simp only [Act.put, List.setIfInBounds_toArray, List.set_cons_succ, List.set_cons_zero]
        obtain ⟨g5, hg5⟩ : ∃ g5, V1.heap.size = g5 := ⟨_, rfl⟩
        have HV2 : Hid (Keeps NoB W0 (V1.alloc (.cells #[.slice ia im ic] 24))) := hide (HV1.out.alloc _)
        have F2_2 := hide (F2_1.out.keep ((Keeps.refl NoB V1).alloc (.cells #[.slice ia im ic] 24)) (fun _ _ => id))
        have F5_2 := hide (Blk.new V1 24 #[.slice ia im ic])
        clear F2_1 HV1
        rw [hg5] at F5_2 ⊢
        generalize V1.alloc (.cells #[.slice ia im ic] 24) = V2 at *
        clear hg5
        refine order_two (i := 6) (j := 9) rfl rfl (by kernel_rfl) (fun K hK => ?_) (fun K hK => ?_)
        · skip
          go_simp
          refine (copies_of (Tm.size.sizes items) (hide (HIH.out _ HSZ.out.1)) items (Nat.le_refl _) [css] [.slice ia im ic] (some ⟨g5, 0, none⟩) 1 1 im V2 (fun _ => True) B true F (one_head F5_2.out) (heads_one ic (HRI0.out.keep HV2.out (fun _ _ => id))) (by simpa using TermsIn.keep HV2.out (fun _ _ => id) _ _ HTI0.out) HLEN.out.1 HRO.out.2.1 (by omega)).mono ?_
          rintro e V3 ⟨A6, c6, rfl, css6, hs6, ht6, hf6, hk2⟩
          have HC6 : Hid (RoomC im c6 104) := hide ⟨HRO.out.2.1, hs6.2.1, hs6.2.2.1⟩
          refine hK _ _ (fun _ hS => hS.keep hk2 id) ?_
          clear hK
          try simp only [Act.put, List.setIfInBounds_toArray, List.set_cons_succ, List.set_cons_zero]
          have HV3 : Hid (Keeps NoB W0 V3) := hide (HV2.out.trans' hk2 (fun _ _ => id) (fun _ _ => id))
          have F2_3 := hide (F2_2.out.keep hk2 (fun _ _ => id))
          have F5_3 := hide (F5_2.out.keep hk2 id)
          have F6_3 := hide (And.intro (hs6.reads.more (B' := Above W0) (fun j _ hj => Nat.le_trans HV2.out.size (hf6 j hj))) (TermsIn.more (B' := Above W0) (fun j _ hj => Nat.le_trans HV2.out.size hj.1) _ _ ht6))
          clear hk2 hs6 ht6 hf6 F5_3 F2_2 F5_2 HV2
          refine order_one (i := 9) rfl (by kernel_rfl) (fun K hK => ?_)
          go_simp
          refine hK _ _ (fun _ hS => hS.alloc _) ?_
          clear hK
          try simp only [Act.put, List.setIfInBounds_toArray, List.set_cons_succ, List.set_cons_zero]
          obtain ⟨g9, hg9⟩ : ∃ g9, V3.heap.size = g9 := ⟨_, rfl⟩
          have HV4 : Hid (Keeps NoB W0 (V3.alloc (.cells #[.slice ta tn tc] 24))) := hide (HV3.out.alloc _)
          have F2_4 := hide (F2_3.out.keep ((Keeps.refl NoB V3).alloc (.cells #[.slice ta tn tc] 24)) (fun _ _ => id))
          have F6_4 := hide (And.intro (F6_3.out.1.keep ((Keeps.refl NoB V3).alloc (.cells #[.slice ta tn tc] 24)) (fun _ _ => id)) (TermsIn.keep ((Keeps.refl NoB V3).alloc (.cells #[.slice ta tn tc] 24)) (fun _ _ => id) _ _ F6_3.out.2))
          have F9_4 := hide (Blk.new V3 24 #[.slice ta tn tc])
          clear F2_3 F6_3 HV3
          rw [hg9] at F9_4 ⊢
          generalize V3.alloc (.cells #[.slice ta tn tc] 24) = V4 at *
          clear hg9
          refine order_one (i := 10) rfl (by kernel_rfl) (fun K hK => ?_)
          go_simp
          refine (copies_of (Tm.size.sizes tail) (hide (HIH.out _ HSZ.out.2)) tail (Nat.le_refl _) [dss] [.slice ta tn tc] (some ⟨g9, 0, none⟩) 1 1 tn V4 (fun _ => True) B true F (one_head F9_4.out) (heads_one tc (HRT0.out.keep HV4.out (fun _ _ => id))) (by simpa using TermsIn.keep HV4.out (fun _ _ => id) _ _ HTT0.out) HLEN.out.2 HRO.out.2.2 (by omega)).mono ?_
          rintro e V5 ⟨A10, c10, rfl, css10, hs10, ht10, hf10, hk2⟩
          have HC10 : Hid (RoomC tn c10 104) := hide ⟨HRO.out.2.2, hs10.2.1, hs10.2.2.1⟩
          refine hK _ _ (fun _ hS => hS.keep hk2 id) ?_
          clear hK
          try simp only [Act.put, List.setIfInBounds_toArray, List.set_cons_succ, List.set_cons_zero]
          have HV5 : Hid (Keeps NoB W0 V5) := hide (HV4.out.trans' hk2 (fun _ _ => id) (fun _ _ => id))
          have F2_5 := hide (F2_4.out.keep hk2 (fun _ _ => id))
          have F6_5 := hide (And.intro (F6_4.out.1.keep hk2 (fun _ _ => id)) (TermsIn.keep hk2 (fun _ _ => id) _ _ F6_4.out.2))
          have F9_5 := hide (F9_4.out.keep hk2 id)
          have F10_5 := hide (And.intro (hs10.reads.more (B' := Above W0) (fun j _ hj => Nat.le_trans HV4.out.size (hf10 j hj))) (TermsIn.more (B' := Above W0) (fun j _ hj => Nat.le_trans HV4.out.size hj.1) _ _ ht10))
          clear hk2 hs10 ht10 hf10 F9_5 F2_4 F6_4 F9_4 HV4
          have HB0 : Hid (Blk V5 gb 26 #[.int .u8 kd, .bool ng, .slice la ln lc, .string tx, .int .i64 nm, .slice ia im ic, .slice ta tn tc]) := hide (HBX.out.keep HV5.out id)
          have s12 : V5.cell? ⟨gb, 2, none⟩ = some (.slice la ln lc) := HB0.out.cell 2
          have t12 : V5.frozen? ⟨gb, 2, none⟩ = false := HB0.out.free 2
          refine order_one (i := 12) rfl (by kernel_rfl) (fun K hK => ?_)
          go_simp
          refine hK _ _ (fun h => absurd h (by decide)) ?_
          clear hK
          try simp only [Act.put, List.setIfInBounds_toArray, List.set_cons_succ, List.set_cons_zero]
          clear s12 t12
          have HS1 := hide ((Keeps.refl (fun j => j = gb) V5).setCell (p := ⟨gb, 2, none⟩) (.inl rfl) (.slice A2 ln c2))
          have HB1 := hide (HB0.out.put 2 (.slice A2 ln c2))
          generalize V5.setCell ⟨gb, 2, none⟩ (.slice A2 ln c2) = X1_5 at *
          refine order_pure (i := 13) rfl (by kernel_rfl) (fun _ _ _ h => h) (.inl ⟨rfl, fun _ => by go_simp; rfl⟩) ?_
          try simp only [Act.put, List.setIfInBounds_toArray, List.set_cons_succ, List.set_cons_zero]
          have s14 : X1_5.cell? ⟨gb, 5, none⟩ = some (.slice ia im ic) := HB1.out.cell 5
          have t14 : X1_5.frozen? ⟨gb, 5, none⟩ = false := HB1.out.free 5
          refine order_one (i := 14) rfl (by kernel_rfl) (fun K hK => ?_)
          go_simp
          refine hK _ _ (fun h => absurd h (by decide)) ?_
          clear hK
          try simp only [Act.put, List.setIfInBounds_toArray, List.set_cons_succ, List.set_cons_zero]
          clear s14 t14
          have HS2 := hide ((Keeps.refl (fun j => j = gb) X1_5).setCell (p := ⟨gb, 5, none⟩) (.inl rfl) (.slice A6 im c6))
          have HB2 := hide (HB1.out.put 5 (.slice A6 im c6))
          generalize X1_5.setCell ⟨gb, 5, none⟩ (.slice A6 im c6) = X2_5 at *
          refine order_pure (i := 15) rfl (by kernel_rfl) (fun _ _ _ h => h) (.inl ⟨rfl, fun _ => by go_simp; rfl⟩) ?_
          try simp only [Act.put, List.setIfInBounds_toArray, List.set_cons_succ, List.set_cons_zero]
          have s16 : X2_5.cell? ⟨gb, 6, none⟩ = some (.slice ta tn tc) := HB2.out.cell 6
          have t16 : X2_5.frozen? ⟨gb, 6, none⟩ = false := HB2.out.free 6
          refine order_one (i := 16) rfl (by kernel_rfl) (fun K hK => ?_)
          go_simp
          refine hK _ _ (fun h => absurd h (by decide)) ?_
          clear hK
          try simp only [Act.put, List.setIfInBounds_toArray, List.set_cons_succ, List.set_cons_zero]
          clear s16 t16
          have HS3 := hide ((Keeps.refl (fun j => j = gb) X2_5).setCell (p := ⟨gb, 6, none⟩) (.inl rfl) (.slice A10 tn c10))
          have HB3 := hide (HB2.out.put 6 (.slice A10 tn c10))
          generalize X2_5.setCell ⟨gb, 6, none⟩ (.slice A10 tn c10) = X3_5 at *
          refine order_done (by kernel_rfl) ?_
          have hst : Keeps (fun j => j = gb) V5 X3_5 := (HS1.out.trans' HS2.out (fun _ _ h => h) (fun _ _ h => h) : Keeps (fun j => j = gb) V5 _).trans' HS3.out (fun _ _ h => h) (fun _ _ h => h)
          have hnot : ∀ j, Above W0 j → ¬ j = gb := fun j hj e => by have := HLT.out; unfold Above at hj; omega
          have hfin := copy_mid (ia := A6) (ic := c6) (ta := A10) (tc := c10) (la := A2) (lc := c2) kd ng tx nm ⟨HC2.out, HC6.out, HC10.out⟩ (F2_5.out.keep hst hnot) (F6_5.out.1.keep hst hnot) (TermsIn.keep hst hnot _ _ F6_5.out.2) (F10_5.out.1.keep hst hnot) (TermsIn.keep hst hnot _ _ F10_5.out.2)
          have HFIN := hide hfin; have HRES := hide ((HBR.out.keep HV5.out id).keep hst hgr); have HKK := hide (HV5.out.trans' hst (fun _ _ h => h.elim) (fun _ _ h => h) : Keeps (fun j => j = gb) W0 X3_5)
          clear hst hnot hfin
          go_wp2_with fail
          go_meet
          exact ⟨A2, c2, A6, c6, A10, c10, HB3.out, HRES.out, TermIn.more (fun j _ hj => Nat.le_trans HKW0.out.size hj) _ _ HFIN.out, HKW0.out.trans' HKK.out (fun _ _ h => h.elim) (fun _ _ h => h)⟩
        · skip
          go_simp
          refine hK _ _ (fun _ hS => hS.alloc _) ?_
          clear hK
          try simp only [Act.put, List.setIfInBounds_toArray, List.set_cons_succ, List.set_cons_zero]
          obtain ⟨g9, hg9⟩ : ∃ g9, V2.heap.size = g9 := ⟨_, rfl⟩
          have HV6 : Hid (Keeps NoB W0 (V2.alloc (.cells #[.slice ta tn tc] 24))) := hide (HV2.out.alloc _)
          have F2_6 := hide (F2_2.out.keep ((Keeps.refl NoB V2).alloc (.cells #[.slice ta tn tc] 24)) (fun _ _ => id))
          have F5_6 := hide (F5_2.out.keep ((Keeps.refl NoB V2).alloc (.cells #[.slice ta tn tc] 24)) id)
          have F9_6 := hide (Blk.new V2 24 #[.slice ta tn tc])
          clear F2_2 F5_2 HV2
          rw [hg9] at F9_6 ⊢
          generalize V2.alloc (.cells #[.slice ta tn tc] 24) = V6 at *
          clear hg9
          refine order_one (i := 6) rfl (by kernel_rfl) (fun K hK => ?_)
          go_simp
          refine (copies_of (Tm.size.sizes items) (hide (HIH.out _ HSZ.out.1)) items (Nat.le_refl _) [css] [.slice ia im ic] (some ⟨g5, 0, none⟩) 1 1 im V6 (fun _ => True) B true F (one_head F5_6.out) (heads_one ic (HRI0.out.keep HV6.out (fun _ _ => id))) (by simpa using TermsIn.keep HV6.out (fun _ _ => id) _ _ HTI0.out) HLEN.out.1 HRO.out.2.1 (by omega)).mono ?_
          rintro e V7 ⟨A6, c6, rfl, css6, hs6, ht6, hf6, hk2⟩
          have HC6 : Hid (RoomC im c6 104) := hide ⟨HRO.out.2.1, hs6.2.1, hs6.2.2.1⟩
          refine hK _ _ (fun _ hS => hS.keep hk2 id) ?_
          clear hK
          try simp only [Act.put, List.setIfInBounds_toArray, List.set_cons_succ, List.set_cons_zero]
          have HV7 : Hid (Keeps NoB W0 V7) := hide (HV6.out.trans' hk2 (fun _ _ => id) (fun _ _ => id))
          have F2_7 := hide (F2_6.out.keep hk2 (fun _ _ => id))
          have F5_7 := hide (F5_6.out.keep hk2 id)
          have F9_7 := hide (F9_6.out.keep hk2 id)
          have F6_7 := hide (And.intro (hs6.reads.more (B' := Above W0) (fun j _ hj => Nat.le_trans HV6.out.size (hf6 j hj))) (TermsIn.more (B' := Above W0) (fun j _ hj => Nat.le_trans HV6.out.size hj.1) _ _ ht6))
          clear hk2 hs6 ht6 hf6 F5_7 F2_6 F5_6 F9_6 HV6
          refine order_one (i := 10) rfl (by kernel_rfl) (fun K hK => ?_)
          go_simp
          refine (copies_of (Tm.size.sizes tail) (hide (HIH.out _ HSZ.out.2)) tail (Nat.le_refl _) [dss] [.slice ta tn tc] (some ⟨g9, 0, none⟩) 1 1 tn V7 (fun _ => True) B true F (one_head F9_7.out) (heads_one tc (HRT0.out.keep HV7.out (fun _ _ => id))) (by simpa using TermsIn.keep HV7.out (fun _ _ => id) _ _ HTT0.out) HLEN.out.2 HRO.out.2.2 (by omega)).mono ?_
          rintro e V8 ⟨A10, c10, rfl, css10, hs10, ht10, hf10, hk2⟩
          have HC10 : Hid (RoomC tn c10 104) := hide ⟨HRO.out.2.2, hs10.2.1, hs10.2.2.1⟩
          refine hK _ _ (fun _ hS => hS.keep hk2 id) ?_
          clear hK
          try simp only [Act.put, List.setIfInBounds_toArray, List.set_cons_succ, List.set_cons_zero]
          have HV8 : Hid (Keeps NoB W0 V8) := hide (HV7.out.trans' hk2 (fun _ _ => id) (fun _ _ => id))
          have F2_8 := hide (F2_7.out.keep hk2 (fun _ _ => id))
          have F9_8 := hide (F9_7.out.keep hk2 id)
          have F6_8 := hide (And.intro (F6_7.out.1.keep hk2 (fun _ _ => id)) (TermsIn.keep hk2 (fun _ _ => id) _ _ F6_7.out.2))
          have F10_8 := hide (And.intro (hs10.reads.more (B' := Above W0) (fun j _ hj => Nat.le_trans HV7.out.size (hf10 j hj))) (TermsIn.more (B' := Above W0) (fun j _ hj => Nat.le_trans HV7.out.size hj.1) _ _ ht10))
          clear hk2 hs10 ht10 hf10 F9_8 F2_7 F9_7 F6_7 HV7
          have HB0 : Hid (Blk V8 gb 26 #[.int .u8 kd, .bool ng, .slice la ln lc, .string tx, .int .i64 nm, .slice ia im ic, .slice ta tn tc]) := hide (HBX.out.keep HV8.out id)
          have s12 : V8.cell? ⟨gb, 2, none⟩ = some (.slice la ln lc) := HB0.out.cell 2
          have t12 : V8.frozen? ⟨gb, 2, none⟩ = false := HB0.out.free 2
          refine order_one (i := 12) rfl (by kernel_rfl) (fun K hK => ?_)
          go_simp
          refine hK _ _ (fun h => absurd h (by decide)) ?_
          clear hK
          try simp only [Act.put, List.setIfInBounds_toArray, List.set_cons_succ, List.set_cons_zero]
          clear s12 t12
          have HS1 := hide ((Keeps.refl (fun j => j = gb) V8).setCell (p := ⟨gb, 2, none⟩) (.inl rfl) (.slice A2 ln c2))
          have HB1 := hide (HB0.out.put 2 (.slice A2 ln c2))
          generalize V8.setCell ⟨gb, 2, none⟩ (.slice A2 ln c2) = X1_8 at *
          refine order_pure (i := 13) rfl (by kernel_rfl) (fun _ _ _ h => h) (.inl ⟨rfl, fun _ => by go_simp; rfl⟩) ?_
          try simp only [Act.put, List.setIfInBounds_toArray, List.set_cons_succ, List.set_cons_zero]
          have s14 : X1_8.cell? ⟨gb, 5, none⟩ = some (.slice ia im ic) := HB1.out.cell 5
          have t14 : X1_8.frozen? ⟨gb, 5, none⟩ = false := HB1.out.free 5
          refine order_one (i := 14) rfl (by kernel_rfl) (fun K hK => ?_)
          go_simp
          refine hK _ _ (fun h => absurd h (by decide)) ?_
          clear hK
          try simp only [Act.put, List.setIfInBounds_toArray, List.set_cons_succ, List.set_cons_zero]
          clear s14 t14
          have HS2 := hide ((Keeps.refl (fun j => j = gb) X1_8).setCell (p := ⟨gb, 5, none⟩) (.inl rfl) (.slice A6 im c6))
          have HB2 := hide (HB1.out.put 5 (.slice A6 im c6))
          generalize X1_8.setCell ⟨gb, 5, none⟩ (.slice A6 im c6) = X2_8 at *
          refine order_pure (i := 15) rfl (by kernel_rfl) (fun _ _ _ h => h) (.inl ⟨rfl, fun _ => by go_simp; rfl⟩) ?_
          try simp only [Act.put, List.setIfInBounds_toArray, List.set_cons_succ, List.set_cons_zero]
          have s16 : X2_8.cell? ⟨gb, 6, none⟩ = some (.slice ta tn tc) := HB2.out.cell 6
          have t16 : X2_8.frozen? ⟨gb, 6, none⟩ = false := HB2.out.free 6
          refine order_one (i := 16) rfl (by kernel_rfl) (fun K hK => ?_)
          go_simp
          refine hK _ _ (fun h => absurd h (by decide)) ?_
          clear hK
          try simp only [Act.put, List.setIfInBounds_toArray, List.set_cons_succ, List.set_cons_zero]
          clear s16 t16
          have HS3 := hide ((Keeps.refl (fun j => j = gb) X2_8).setCell (p := ⟨gb, 6, none⟩) (.inl rfl) (.slice A10 tn c10))
          have HB3 := hide (HB2.out.put 6 (.slice A10 tn c10))
          generalize X2_8.setCell ⟨gb, 6, none⟩ (.slice A10 tn c10) = X3_8 at *
          refine order_done (by kernel_rfl) ?_
          have hst : Keeps (fun j => j = gb) V8 X3_8 := (HS1.out.trans' HS2.out (fun _ _ h => h) (fun _ _ h => h) : Keeps (fun j => j = gb) V8 _).trans' HS3.out (fun _ _ h => h) (fun _ _ h => h)
          have hnot : ∀ j, Above W0 j → ¬ j = gb := fun j hj e => by have := HLT.out; unfold Above at hj; omega
          have hfin := copy_mid (ia := A6) (ic := c6) (ta := A10) (tc := c10) (la := A2) (lc := c2) kd ng tx nm ⟨HC2.out, HC6.out, HC10.out⟩ (F2_8.out.keep hst hnot) (F6_8.out.1.keep hst hnot) (TermsIn.keep hst hnot _ _ F6_8.out.2) (F10_8.out.1.keep hst hnot) (TermsIn.keep hst hnot _ _ F10_8.out.2)
          have HFIN := hide hfin; have HRES := hide ((HBR.out.keep HV8.out id).keep hst hgr); have HKK := hide (HV8.out.trans' hst (fun _ _ h => h.elim) (fun _ _ h => h) : Keeps (fun j => j = gb) W0 X3_8)
          clear hst hnot hfin
          go_wp2_with fail
          go_meet
          exact ⟨A2, c2, A6, c6, A10, c10, HB3.out, HRES.out, TermIn.more (fun j _ hj => Nat.le_trans HKW0.out.size hj) _ _ HFIN.out, HKW0.out.trans' HKK.out (fun _ _ h => h.elim) (fun _ _ h => h)⟩
      · skip
        go_simp
        refine hK _ _ (fun _ hS => hS.alloc _) ?_
        clear hK
        try simp only [Act.put, List.setIfInBounds_toArray, List.set_cons_succ, List.set_cons_zero]
        obtain ⟨g9, hg9⟩ : ∃ g9, V1.heap.size = g9 := ⟨_, rfl⟩
        have HV9 : Hid (Keeps NoB W0 (V1.alloc (.cells #[.slice ta tn tc] 24))) := hide (HV1.out.alloc _)
        have F2_9 := hide (F2_1.out.keep ((Keeps.refl NoB V1).alloc (.cells #[.slice ta tn tc] 24)) (fun _ _ => id))
        have F9_9 := hide (Blk.new V1 24 #[.slice ta tn tc])
        clear F2_1 HV1
        rw [hg9] at F9_9 ⊢
        generalize V1.alloc (.cells #[.slice ta tn tc] 24) = V9 at *
        clear hg9
        refine order_one (i := 5) rfl (by kernel_rfl) (fun K hK => ?_)
        go_simp
        refine hK _ _ (fun _ hS => hS.alloc _) ?_
        clear hK
        try simp only [Act.put, List.setIfInBounds_toArray, List.set_cons_succ, List.set_cons_zero]
        obtain ⟨g5, hg5⟩ : ∃ g5, V9.heap.size = g5 := ⟨_, rfl⟩
        have HV10 : Hid (Keeps NoB W0 (V9.alloc (.cells #[.slice ia im ic] 24))) := hide (HV9.out.alloc _)
        have F2_10 := hide (F2_9.out.keep ((Keeps.refl NoB V9).alloc (.cells #[.slice ia im ic] 24)) (fun _ _ => id))
        have F9_10 := hide (F9_9.out.keep ((Keeps.refl NoB V9).alloc (.cells #[.slice ia im ic] 24)) id)
        have F5_10 := hide (Blk.new V9 24 #[.slice ia im ic])
        clear F2_9 F9_9 HV9
        rw [hg5] at F5_10 ⊢
        generalize V9.alloc (.cells #[.slice ia im ic] 24) = V10 at *
        clear hg5
        refine order_one (i := 6) rfl (by kernel_rfl) (fun K hK => ?_)
        go_simp
        refine (copies_of (Tm.size.sizes items) (hide (HIH.out _ HSZ.out.1)) items (Nat.le_refl _) [css] [.slice ia im ic] (some ⟨g5, 0, none⟩) 1 1 im V10 (fun _ => True) B true F (one_head F5_10.out) (heads_one ic (HRI0.out.keep HV10.out (fun _ _ => id))) (by simpa using TermsIn.keep HV10.out (fun _ _ => id) _ _ HTI0.out) HLEN.out.1 HRO.out.2.1 (by omega)).mono ?_
        rintro e V11 ⟨A6, c6, rfl, css6, hs6, ht6, hf6, hk2⟩
        have HC6 : Hid (RoomC im c6 104) := hide ⟨HRO.out.2.1, hs6.2.1, hs6.2.2.1⟩
        refine hK _ _ (fun _ hS => hS.keep hk2 id) ?_
        clear hK
        try simp only [Act.put, List.setIfInBounds_toArray, List.set_cons_succ, List.set_cons_zero]
        have HV11 : Hid (Keeps NoB W0 V11) := hide (HV10.out.trans' hk2 (fun _ _ => id) (fun _ _ => id))
        have F2_11 := hide (F2_10.out.keep hk2 (fun _ _ => id))
        have F9_11 := hide (F9_10.out.keep hk2 id)
        have F5_11 := hide (F5_10.out.keep hk2 id)
        have F6_11 := hide (And.intro (hs6.reads.more (B' := Above W0) (fun j _ hj => Nat.le_trans HV10.out.size (hf6 j hj))) (TermsIn.more (B' := Above W0) (fun j _ hj => Nat.le_trans HV10.out.size hj.1) _ _ ht6))
        clear hk2 hs6 ht6 hf6 F5_11 F2_10 F9_10 F5_10 HV10
        refine order_one (i := 10) rfl (by kernel_rfl) (fun K hK => ?_)
        go_simp
        refine (copies_of (Tm.size.sizes tail) (hide (HIH.out _ HSZ.out.2)) tail (Nat.le_refl _) [dss] [.slice ta tn tc] (some ⟨g9, 0, none⟩) 1 1 tn V11 (fun _ => True) B true F (one_head F9_11.out) (heads_one tc (HRT0.out.keep HV11.out (fun _ _ => id))) (by simpa using TermsIn.keep HV11.out (fun _ _ => id) _ _ HTT0.out) HLEN.out.2 HRO.out.2.2 (by omega)).mono ?_
        rintro e V12 ⟨A10, c10, rfl, css10, hs10, ht10, hf10, hk2⟩
        have HC10 : Hid (RoomC tn c10 104) := hide ⟨HRO.out.2.2, hs10.2.1, hs10.2.2.1⟩
        refine hK _ _ (fun _ hS => hS.keep hk2 id) ?_
        clear hK
        try simp only [Act.put, List.setIfInBounds_toArray, List.set_cons_succ, List.set_cons_zero]
        have HV12 : Hid (Keeps NoB W0 V12) := hide (HV11.out.trans' hk2 (fun _ _ => id) (fun _ _ => id))
        have F2_12 := hide (F2_11.out.keep hk2 (fun _ _ => id))
        have F9_12 := hide (F9_11.out.keep hk2 id)
        have F6_12 := hide (And.intro (F6_11.out.1.keep hk2 (fun _ _ => id)) (TermsIn.keep hk2 (fun _ _ => id) _ _ F6_11.out.2))
        have F10_12 := hide (And.intro (hs10.reads.more (B' := Above W0) (fun j _ hj => Nat.le_trans HV11.out.size (hf10 j hj))) (TermsIn.more (B' := Above W0) (fun j _ hj => Nat.le_trans HV11.out.size hj.1) _ _ ht10))
        clear hk2 hs10 ht10 hf10 F9_12 F2_11 F9_11 F6_11 HV11
        have HB0 : Hid (Blk V12 gb 26 #[.int .u8 kd, .bool ng, .slice la ln lc, .string tx, .int .i64 nm, .slice ia im ic, .slice ta tn tc]) := hide (HBX.out.keep HV12.out id)
        have s12 : V12.cell? ⟨gb, 2, none⟩ = some (.slice la ln lc) := HB0.out.cell 2
        have t12 : V12.frozen? ⟨gb, 2, none⟩ = false := HB0.out.free 2
        refine order_one (i := 12) rfl (by kernel_rfl) (fun K hK => ?_)
        go_simp
        refine hK _ _ (fun h => absurd h (by decide)) ?_
        clear hK
        try simp only [Act.put, List.setIfInBounds_toArray, List.set_cons_succ, List.set_cons_zero]
        clear s12 t12
        have HS1 := hide ((Keeps.refl (fun j => j = gb) V12).setCell (p := ⟨gb, 2, none⟩) (.inl rfl) (.slice A2 ln c2))
        have HB1 := hide (HB0.out.put 2 (.slice A2 ln c2))
        generalize V12.setCell ⟨gb, 2, none⟩ (.slice A2 ln c2) = X1_12 at *
        refine order_pure (i := 13) rfl (by kernel_rfl) (fun _ _ _ h => h) (.inl ⟨rfl, fun _ => by go_simp; rfl⟩) ?_
        try simp only [Act.put, List.setIfInBounds_toArray, List.set_cons_succ, List.set_cons_zero]
        have s14 : X1_12.cell? ⟨gb, 5, none⟩ = some (.slice ia im ic) := HB1.out.cell 5
        have t14 : X1_12.frozen? ⟨gb, 5, none⟩ = false := HB1.out.free 5
        refine order_one (i := 14) rfl (by kernel_rfl) (fun K hK => ?_)
        go_simp
        refine hK _ _ (fun h => absurd h (by decide)) ?_
        clear hK
        try simp only [Act.put, List.setIfInBounds_toArray, List.set_cons_succ, List.set_cons_zero]
        clear s14 t14
        have HS2 := hide ((Keeps.refl (fun j => j = gb) X1_12).setCell (p := ⟨gb, 5, none⟩) (.inl rfl) (.slice A6 im c6))
        have HB2 := hide (HB1.out.put 5 (.slice A6 im c6))
        generalize X1_12.setCell ⟨gb, 5, none⟩ (.slice A6 im c6) = X2_12 at *
        refine order_pure (i := 15) rfl (by kernel_rfl) (fun _ _ _ h => h) (.inl ⟨rfl, fun _ => by go_simp; rfl⟩) ?_
        try simp only [Act.put, List.setIfInBounds_toArray, List.set_cons_succ, List.set_cons_zero]
        have s16 : X2_12.cell? ⟨gb, 6, none⟩ = some (.slice ta tn tc) := HB2.out.cell 6
        have t16 : X2_12.frozen? ⟨gb, 6, none⟩ = false := HB2.out.free 6
        refine order_one (i := 16) rfl (by kernel_rfl) (fun K hK => ?_)
        go_simp
        refine hK _ _ (fun h => absurd h (by decide)) ?_
        clear hK
        try simp only [Act.put, List.setIfInBounds_toArray, List.set_cons_succ, List.set_cons_zero]
        clear s16 t16
        have HS3 := hide ((Keeps.refl (fun j => j = gb) X2_12).setCell (p := ⟨gb, 6, none⟩) (.inl rfl) (.slice A10 tn c10))
        have HB3 := hide (HB2.out.put 6 (.slice A10 tn c10))
        generalize X2_12.setCell ⟨gb, 6, none⟩ (.slice A10 tn c10) = X3_12 at *
        refine order_done (by kernel_rfl) ?_
        have hst : Keeps (fun j => j = gb) V12 X3_12 := (HS1.out.trans' HS2.out (fun _ _ h => h) (fun _ _ h => h) : Keeps (fun j => j = gb) V12 _).trans' HS3.out (fun _ _ h => h) (fun _ _ h => h)
        have hnot : ∀ j, Above W0 j → ¬ j = gb := fun j hj e => by have := HLT.out; unfold Above at hj; omega
        have hfin := copy_mid (ia := A6) (ic := c6) (ta := A10) (tc := c10) (la := A2) (lc := c2) kd ng tx nm ⟨HC2.out, HC6.out, HC10.out⟩ (F2_12.out.keep hst hnot) (F6_12.out.1.keep hst hnot) (TermsIn.keep hst hnot _ _ F6_12.out.2) (F10_12.out.1.keep hst hnot) (TermsIn.keep hst hnot _ _ F10_12.out.2)
        have HFIN := hide hfin; have HRES := hide ((HBR.out.keep HV12.out id).keep hst hgr); have HKK := hide (HV12.out.trans' hst (fun _ _ h => h.elim) (fun _ _ h => h) : Keeps (fun j => j = gb) W0 X3_12)
        clear hst hnot hfin
        go_wp2_with fail
        go_meet
        exact ⟨A2, c2, A6, c6, A10, c10, HB3.out, HRES.out, TermIn.more (fun j _ hj => Nat.le_trans HKW0.out.size hj) _ _ HFIN.out, HKW0.out.trans' HKK.out (fun _ _ h => h.elim) (fun _ _ h => h)⟩
    · skip
      go_simp
      refine hK _ _ (fun _ hS => hS.alloc _) ?_
      clear hK
      try simp only [Act.put, List.setIfInBounds_toArray, List.set_cons_succ, List.set_cons_zero]
      obtain ⟨g5, hg5⟩ : ∃ g5, W0.heap.size = g5 := ⟨_, rfl⟩
      have HV13 : Hid (Keeps NoB W0 (W0.alloc (.cells #[.slice ia im ic] 24))) := hide (HK00.out.alloc _)
      have F5_13 := hide (Blk.new W0 24 #[.slice ia im ic])
      rw [hg5] at F5_13 ⊢
      generalize W0.alloc (.cells #[.slice ia im ic] 24) = V13 at *
      clear hg5
      refine order_two (i := 2) (j := 9) rfl rfl (by kernel_rfl) (fun K hK => ?_) (fun K hK => ?_)
      · skip
        go_simp
        refine (tm_clone_limbs B F la ln lc (limbs.map (Value.int .u32)) V13 (HRL0.out.keep HV13.out (fun _ _ => id)) (fun u hu => by obtain ⟨x, _, rfl⟩ := List.mem_map.1 hu; rfl) HRO.out.1).mono ?_
        rintro e V14 ⟨A2, c2, rfl, hr2, hc2, hk2⟩
        have HC2 := hide hc2
        clear hc2
        refine hK _ _ (fun _ hS => hS.keep hk2 id) ?_
        clear hK
        try simp only [Act.put, List.setIfInBounds_toArray, List.set_cons_succ, List.set_cons_zero]
        have HV14 : Hid (Keeps NoB W0 V14) := hide (HV13.out.trans' hk2 (fun _ _ => id) (fun _ _ => id))
        have F5_14 := hide (F5_13.out.keep hk2 id)
        have F2_14 := hide (hr2.more (B' := Above W0) (fun j _ hj => Nat.le_trans HV13.out.size hj))
        clear hk2 hr2 F5_13 HV13
        refine order_pure (i := 11) rfl (by kernel_rfl) (fun _ _ _ h => h) (.inl ⟨rfl, fun _ => by go_simp; rfl⟩) ?_
        try simp only [Act.put, List.setIfInBounds_toArray, List.set_cons_succ, List.set_cons_zero]
        refine order_two (i := 6) (j := 9) rfl rfl (by kernel_rfl) (fun K hK => ?_) (fun K hK => ?_)
        · skip
          go_simp
          refine (copies_of (Tm.size.sizes items) (hide (HIH.out _ HSZ.out.1)) items (Nat.le_refl _) [css] [.slice ia im ic] (some ⟨g5, 0, none⟩) 1 1 im V14 (fun _ => True) B true F (one_head F5_14.out) (heads_one ic (HRI0.out.keep HV14.out (fun _ _ => id))) (by simpa using TermsIn.keep HV14.out (fun _ _ => id) _ _ HTI0.out) HLEN.out.1 HRO.out.2.1 (by omega)).mono ?_
          rintro e V15 ⟨A6, c6, rfl, css6, hs6, ht6, hf6, hk2⟩
          have HC6 : Hid (RoomC im c6 104) := hide ⟨HRO.out.2.1, hs6.2.1, hs6.2.2.1⟩
          refine hK _ _ (fun _ hS => hS.keep hk2 id) ?_
          clear hK
          try simp only [Act.put, List.setIfInBounds_toArray, List.set_cons_succ, List.set_cons_zero]
          have HV15 : Hid (Keeps NoB W0 V15) := hide (HV14.out.trans' hk2 (fun _ _ => id) (fun _ _ => id))
          have F5_15 := hide (F5_14.out.keep hk2 id)
          have F2_15 := hide (F2_14.out.keep hk2 (fun _ _ => id))
          have F6_15 := hide (And.intro (hs6.reads.more (B' := Above W0) (fun j _ hj => Nat.le_trans HV14.out.size (hf6 j hj))) (TermsIn.more (B' := Above W0) (fun j _ hj => Nat.le_trans HV14.out.size hj.1) _ _ ht6))
          clear hk2 hs6 ht6 hf6 F5_15 F5_14 F2_14 HV14
          refine order_one (i := 9) rfl (by kernel_rfl) (fun K hK => ?_)
          go_simp
          refine hK _ _ (fun _ hS => hS.alloc _) ?_
          clear hK
          try simp only [Act.put, List.setIfInBounds_toArray, List.set_cons_succ, List.set_cons_zero]
          obtain ⟨g9, hg9⟩ : ∃ g9, V15.heap.size = g9 := ⟨_, rfl⟩
          have HV16 : Hid (Keeps NoB W0 (V15.alloc (.cells #[.slice ta tn tc] 24))) := hide (HV15.out.alloc _)
          have F2_16 := hide (F2_15.out.keep ((Keeps.refl NoB V15).alloc (.cells #[.slice ta tn tc] 24)) (fun _ _ => id))
          have F6_16 := hide (And.intro (F6_15.out.1.keep ((Keeps.refl NoB V15).alloc (.cells #[.slice ta tn tc] 24)) (fun _ _ => id)) (TermsIn.keep ((Keeps.refl NoB V15).alloc (.cells #[.slice ta tn tc] 24)) (fun _ _ => id) _ _ F6_15.out.2))
          have F9_16 := hide (Blk.new V15 24 #[.slice ta tn tc])
          clear F2_15 F6_15 HV15
          rw [hg9] at F9_16 ⊢
          generalize V15.alloc (.cells #[.slice ta tn tc] 24) = V16 at *
          clear hg9
          refine order_one (i := 10) rfl (by kernel_rfl) (fun K hK => ?_)
          go_simp
          refine (copies_of (Tm.size.sizes tail) (hide (HIH.out _ HSZ.out.2)) tail (Nat.le_refl _) [dss] [.slice ta tn tc] (some ⟨g9, 0, none⟩) 1 1 tn V16 (fun _ => True) B true F (one_head F9_16.out) (heads_one tc (HRT0.out.keep HV16.out (fun _ _ => id))) (by simpa using TermsIn.keep HV16.out (fun _ _ => id) _ _ HTT0.out) HLEN.out.2 HRO.out.2.2 (by omega)).mono ?_
          rintro e V17 ⟨A10, c10, rfl, css10, hs10, ht10, hf10, hk2⟩
          have HC10 : Hid (RoomC tn c10 104) := hide ⟨HRO.out.2.2, hs10.2.1, hs10.2.2.1⟩
          refine hK _ _ (fun _ hS => hS.keep hk2 id) ?_
          clear hK
          try simp only [Act.put, List.setIfInBounds_toArray, List.set_cons_succ, List.set_cons_zero]
          have HV17 : Hid (Keeps NoB W0 V17) := hide (HV16.out.trans' hk2 (fun _ _ => id) (fun _ _ => id))
          have F2_17 := hide (F2_16.out.keep hk2 (fun _ _ => id))
          have F6_17 := hide (And.intro (F6_16.out.1.keep hk2 (fun _ _ => id)) (TermsIn.keep hk2 (fun _ _ => id) _ _ F6_16.out.2))
          have F9_17 := hide (F9_16.out.keep hk2 id)
          have F10_17 := hide (And.intro (hs10.reads.more (B' := Above W0) (fun j _ hj => Nat.le_trans HV16.out.size (hf10 j hj))) (TermsIn.more (B' := Above W0) (fun j _ hj => Nat.le_trans HV16.out.size hj.1) _ _ ht10))
          clear hk2 hs10 ht10 hf10 F9_17 F2_16 F6_16 F9_16 HV16
          have HB0 : Hid (Blk V17 gb 26 #[.int .u8 kd, .bool ng, .slice la ln lc, .string tx, .int .i64 nm, .slice ia im ic, .slice ta tn tc]) := hide (HBX.out.keep HV17.out id)
          have s12 : V17.cell? ⟨gb, 2, none⟩ = some (.slice la ln lc) := HB0.out.cell 2
          have t12 : V17.frozen? ⟨gb, 2, none⟩ = false := HB0.out.free 2
          refine order_one (i := 12) rfl (by kernel_rfl) (fun K hK => ?_)
          go_simp
          refine hK _ _ (fun h => absurd h (by decide)) ?_
          clear hK
          try simp only [Act.put, List.setIfInBounds_toArray, List.set_cons_succ, List.set_cons_zero]
          clear s12 t12
          have HS1 := hide ((Keeps.refl (fun j => j = gb) V17).setCell (p := ⟨gb, 2, none⟩) (.inl rfl) (.slice A2 ln c2))
          have HB1 := hide (HB0.out.put 2 (.slice A2 ln c2))
          generalize V17.setCell ⟨gb, 2, none⟩ (.slice A2 ln c2) = X1_17 at *
          refine order_pure (i := 13) rfl (by kernel_rfl) (fun _ _ _ h => h) (.inl ⟨rfl, fun _ => by go_simp; rfl⟩) ?_
          try simp only [Act.put, List.setIfInBounds_toArray, List.set_cons_succ, List.set_cons_zero]
          have s14 : X1_17.cell? ⟨gb, 5, none⟩ = some (.slice ia im ic) := HB1.out.cell 5
          have t14 : X1_17.frozen? ⟨gb, 5, none⟩ = false := HB1.out.free 5
          refine order_one (i := 14) rfl (by kernel_rfl) (fun K hK => ?_)
          go_simp
          refine hK _ _ (fun h => absurd h (by decide)) ?_
          clear hK
          try simp only [Act.put, List.setIfInBounds_toArray, List.set_cons_succ, List.set_cons_zero]
          clear s14 t14
          have HS2 := hide ((Keeps.refl (fun j => j = gb) X1_17).setCell (p := ⟨gb, 5, none⟩) (.inl rfl) (.slice A6 im c6))
          have HB2 := hide (HB1.out.put 5 (.slice A6 im c6))
          generalize X1_17.setCell ⟨gb, 5, none⟩ (.slice A6 im c6) = X2_17 at *
          refine order_pure (i := 15) rfl (by kernel_rfl) (fun _ _ _ h => h) (.inl ⟨rfl, fun _ => by go_simp; rfl⟩) ?_
          try simp only [Act.put, List.setIfInBounds_toArray, List.set_cons_succ, List.set_cons_zero]
          have s16 : X2_17.cell? ⟨gb, 6, none⟩ = some (.slice ta tn tc) := HB2.out.cell 6
          have t16 : X2_17.frozen? ⟨gb, 6, none⟩ = false := HB2.out.free 6
          refine order_one (i := 16) rfl (by kernel_rfl) (fun K hK => ?_)
          go_simp
          refine hK _ _ (fun h => absurd h (by decide)) ?_
          clear hK
          try simp only [Act.put, List.setIfInBounds_toArray, List.set_cons_succ, List.set_cons_zero]
          clear s16 t16
          have HS3 := hide ((Keeps.refl (fun j => j = gb) X2_17).setCell (p := ⟨gb, 6, none⟩) (.inl rfl) (.slice A10 tn c10))
          have HB3 := hide (HB2.out.put 6 (.slice A10 tn c10))
          generalize X2_17.setCell ⟨gb, 6, none⟩ (.slice A10 tn c10) = X3_17 at *
          refine order_done (by kernel_rfl) ?_
          have hst : Keeps (fun j => j = gb) V17 X3_17 := (HS1.out.trans' HS2.out (fun _ _ h => h) (fun _ _ h => h) : Keeps (fun j => j = gb) V17 _).trans' HS3.out (fun _ _ h => h) (fun _ _ h => h)
          have hnot : ∀ j, Above W0 j → ¬ j = gb := fun j hj e => by have := HLT.out; unfold Above at hj; omega
          have hfin := copy_mid (ia := A6) (ic := c6) (ta := A10) (tc := c10) (la := A2) (lc := c2) kd ng tx nm ⟨HC2.out, HC6.out, HC10.out⟩ (F2_17.out.keep hst hnot) (F6_17.out.1.keep hst hnot) (TermsIn.keep hst hnot _ _ F6_17.out.2) (F10_17.out.1.keep hst hnot) (TermsIn.keep hst hnot _ _ F10_17.out.2)
          have HFIN := hide hfin; have HRES := hide ((HBR.out.keep HV17.out id).keep hst hgr); have HKK := hide (HV17.out.trans' hst (fun _ _ h => h.elim) (fun _ _ h => h) : Keeps (fun j => j = gb) W0 X3_17)
          clear hst hnot hfin
          go_wp2_with fail
          go_meet
          exact ⟨A2, c2, A6, c6, A10, c10, HB3.out, HRES.out, TermIn.more (fun j _ hj => Nat.le_trans HKW0.out.size hj) _ _ HFIN.out, HKW0.out.trans' HKK.out (fun _ _ h => h.elim) (fun _ _ h => h)⟩
        · skip
          go_simp
          refine hK _ _ (fun _ hS => hS.alloc _) ?_
          clear hK
          try simp only [Act.put, List.setIfInBounds_toArray, List.set_cons_succ, List.set_cons_zero]
          obtain ⟨g9, hg9⟩ : ∃ g9, V14.heap.size = g9 := ⟨_, rfl⟩
          have HV18 : Hid (Keeps NoB W0 (V14.alloc (.cells #[.slice ta tn tc] 24))) := hide (HV14.out.alloc _)
          have F5_18 := hide (F5_14.out.keep ((Keeps.refl NoB V14).alloc (.cells #[.slice ta tn tc] 24)) id)
          have F2_18 := hide (F2_14.out.keep ((Keeps.refl NoB V14).alloc (.cells #[.slice ta tn tc] 24)) (fun _ _ => id))
          have F9_18 := hide (Blk.new V14 24 #[.slice ta tn tc])
          clear F5_14 F2_14 HV14
          rw [hg9] at F9_18 ⊢
          generalize V14.alloc (.cells #[.slice ta tn tc] 24) = V18 at *
          clear hg9
          refine order_one (i := 6) rfl (by kernel_rfl) (fun K hK => ?_)
          go_simp
          refine (copies_of (Tm.size.sizes items) (hide (HIH.out _ HSZ.out.1)) items (Nat.le_refl _) [css] [.slice ia im ic] (some ⟨g5, 0, none⟩) 1 1 im V18 (fun _ => True) B true F (one_head F5_18.out) (heads_one ic (HRI0.out.keep HV18.out (fun _ _ => id))) (by simpa using TermsIn.keep HV18.out (fun _ _ => id) _ _ HTI0.out) HLEN.out.1 HRO.out.2.1 (by omega)).mono ?_
          rintro e V19 ⟨A6, c6, rfl, css6, hs6, ht6, hf6, hk2⟩
          have HC6 : Hid (RoomC im c6 104) := hide ⟨HRO.out.2.1, hs6.2.1, hs6.2.2.1⟩
          refine hK _ _ (fun _ hS => hS.keep hk2 id) ?_
          clear hK
          try simp only [Act.put, List.setIfInBounds_toArray, List.set_cons_succ, List.set_cons_zero]
          have HV19 : Hid (Keeps NoB W0 V19) := hide (HV18.out.trans' hk2 (fun _ _ => id) (fun _ _ => id))
          have F5_19 := hide (F5_18.out.keep hk2 id)
          have F2_19 := hide (F2_18.out.keep hk2 (fun _ _ => id))
          have F9_19 := hide (F9_18.out.keep hk2 id)
          have F6_19 := hide (And.intro (hs6.reads.more (B' := Above W0) (fun j _ hj => Nat.le_trans HV18.out.size (hf6 j hj))) (TermsIn.more (B' := Above W0) (fun j _ hj => Nat.le_trans HV18.out.size hj.1) _ _ ht6))
          clear hk2 hs6 ht6 hf6 F5_19 F5_18 F2_18 F9_18 HV18
          refine order_one (i := 10) rfl (by kernel_rfl) (fun K hK => ?_)
          go_simp
          refine (copies_of (Tm.size.sizes tail) (hide (HIH.out _ HSZ.out.2)) tail (Nat.le_refl _) [dss] [.slice ta tn tc] (some ⟨g9, 0, none⟩) 1 1 tn V19 (fun _ => True) B true F (one_head F9_19.out) (heads_one tc (HRT0.out.keep HV19.out (fun _ _ => id))) (by simpa using TermsIn.keep HV19.out (fun _ _ => id) _ _ HTT0.out) HLEN.out.2 HRO.out.2.2 (by omega)).mono ?_
          rintro e V20 ⟨A10, c10, rfl, css10, hs10, ht10, hf10, hk2⟩
          have HC10 : Hid (RoomC tn c10 104) := hide ⟨HRO.out.2.2, hs10.2.1, hs10.2.2.1⟩
          refine hK _ _ (fun _ hS => hS.keep hk2 id) ?_
          clear hK
          try simp only [Act.put, List.setIfInBounds_toArray, List.set_cons_succ, List.set_cons_zero]
          have HV20 : Hid (Keeps NoB W0 V20) := hide (HV19.out.trans' hk2 (fun _ _ => id) (fun _ _ => id))
          have F2_20 := hide (F2_19.out.keep hk2 (fun _ _ => id))
          have F9_20 := hide (F9_19.out.keep hk2 id)
          have F6_20 := hide (And.intro (F6_19.out.1.keep hk2 (fun _ _ => id)) (TermsIn.keep hk2 (fun _ _ => id) _ _ F6_19.out.2))
          have F10_20 := hide (And.intro (hs10.reads.more (B' := Above W0) (fun j _ hj => Nat.le_trans HV19.out.size (hf10 j hj))) (TermsIn.more (B' := Above W0) (fun j _ hj => Nat.le_trans HV19.out.size hj.1) _ _ ht10))
          clear hk2 hs10 ht10 hf10 F9_20 F2_19 F9_19 F6_19 HV19
          have HB0 : Hid (Blk V20 gb 26 #[.int .u8 kd, .bool ng, .slice la ln lc, .string tx, .int .i64 nm, .slice ia im ic, .slice ta tn tc]) := hide (HBX.out.keep HV20.out id)
          have s12 : V20.cell? ⟨gb, 2, none⟩ = some (.slice la ln lc) := HB0.out.cell 2
          have t12 : V20.frozen? ⟨gb, 2, none⟩ = false := HB0.out.free 2
          refine order_one (i := 12) rfl (by kernel_rfl) (fun K hK => ?_)
          go_simp
          refine hK _ _ (fun h => absurd h (by decide)) ?_
          clear hK
          try simp only [Act.put, List.setIfInBounds_toArray, List.set_cons_succ, List.set_cons_zero]
          clear s12 t12
          have HS1 := hide ((Keeps.refl (fun j => j = gb) V20).setCell (p := ⟨gb, 2, none⟩) (.inl rfl) (.slice A2 ln c2))
          have HB1 := hide (HB0.out.put 2 (.slice A2 ln c2))
          generalize V20.setCell ⟨gb, 2, none⟩ (.slice A2 ln c2) = X1_20 at *
          refine order_pure (i := 13) rfl (by kernel_rfl) (fun _ _ _ h => h) (.inl ⟨rfl, fun _ => by go_simp; rfl⟩) ?_
          try simp only [Act.put, List.setIfInBounds_toArray, List.set_cons_succ, List.set_cons_zero]
          have s14 : X1_20.cell? ⟨gb, 5, none⟩ = some (.slice ia im ic) := HB1.out.cell 5
          have t14 : X1_20.frozen? ⟨gb, 5, none⟩ = false := HB1.out.free 5
          refine order_one (i := 14) rfl (by kernel_rfl) (fun K hK => ?_)
          go_simp
          refine hK _ _ (fun h => absurd h (by decide)) ?_
          clear hK
          try simp only [Act.put, List.setIfInBounds_toArray, List.set_cons_succ, List.set_cons_zero]
          clear s14 t14
          have HS2 := hide ((Keeps.refl (fun j => j = gb) X1_20).setCell (p := ⟨gb, 5, none⟩) (.inl rfl) (.slice A6 im c6))
          have HB2 := hide (HB1.out.put 5 (.slice A6 im c6))
          generalize X1_20.setCell ⟨gb, 5, none⟩ (.slice A6 im c6) = X2_20 at *
          refine order_pure (i := 15) rfl (by kernel_rfl) (fun _ _ _ h => h) (.inl ⟨rfl, fun _ => by go_simp; rfl⟩) ?_
          try simp only [Act.put, List.setIfInBounds_toArray, List.set_cons_succ, List.set_cons_zero]
          have s16 : X2_20.cell? ⟨gb, 6, none⟩ = some (.slice ta tn tc) := HB2.out.cell 6
          have t16 : X2_20.frozen? ⟨gb, 6, none⟩ = false := HB2.out.free 6
          refine order_one (i := 16) rfl (by kernel_rfl) (fun K hK => ?_)
          go_simp
          refine hK _ _ (fun h => absurd h (by decide)) ?_
          clear hK
          try simp only [Act.put, List.setIfInBounds_toArray, List.set_cons_succ, List.set_cons_zero]
          clear s16 t16
          have HS3 := hide ((Keeps.refl (fun j => j = gb) X2_20).setCell (p := ⟨gb, 6, none⟩) (.inl rfl) (.slice A10 tn c10))
          have HB3 := hide (HB2.out.put 6 (.slice A10 tn c10))
          generalize X2_20.setCell ⟨gb, 6, none⟩ (.slice A10 tn c10) = X3_20 at *
          refine order_done (by kernel_rfl) ?_
          have hst : Keeps (fun j => j = gb) V20 X3_20 := (HS1.out.trans' HS2.out (fun _ _ h => h) (fun _ _ h => h) : Keeps (fun j => j = gb) V20 _).trans' HS3.out (fun _ _ h => h) (fun _ _ h => h)
          have hnot : ∀ j, Above W0 j → ¬ j = gb := fun j hj e => by have := HLT.out; unfold Above at hj; omega
          have hfin := copy_mid (ia := A6) (ic := c6) (ta := A10) (tc := c10) (la := A2) (lc := c2) kd ng tx nm ⟨HC2.out, HC6.out, HC10.out⟩ (F2_20.out.keep hst hnot) (F6_20.out.1.keep hst hnot) (TermsIn.keep hst hnot _ _ F6_20.out.2) (F10_20.out.1.keep hst hnot) (TermsIn.keep hst hnot _ _ F10_20.out.2)
          have HFIN := hide hfin; have HRES := hide ((HBR.out.keep HV20.out id).keep hst hgr); have HKK := hide (HV20.out.trans' hst (fun _ _ h => h.elim) (fun _ _ h => h) : Keeps (fun j => j = gb) W0 X3_20)
          clear hst hnot hfin
          go_wp2_with fail
          go_meet
          exact ⟨A2, c2, A6, c6, A10, c10, HB3.out, HRES.out, TermIn.more (fun j _ hj => Nat.le_trans HKW0.out.size hj) _ _ HFIN.out, HKW0.out.trans' HKK.out (fun _ _ h => h.elim) (fun _ _ h => h)⟩
      · skip
        go_simp
        refine hK _ _ (fun _ hS => hS.alloc _) ?_
        clear hK
        try simp only [Act.put, List.setIfInBounds_toArray, List.set_cons_succ, List.set_cons_zero]
        obtain ⟨g9, hg9⟩ : ∃ g9, V13.heap.size = g9 := ⟨_, rfl⟩
        have HV21 : Hid (Keeps NoB W0 (V13.alloc (.cells #[.slice ta tn tc] 24))) := hide (HV13.out.alloc _)
        have F5_21 := hide (F5_13.out.keep ((Keeps.refl NoB V13).alloc (.cells #[.slice ta tn tc] 24)) id)
        have F9_21 := hide (Blk.new V13 24 #[.slice ta tn tc])
        clear F5_13 HV13
        rw [hg9] at F9_21 ⊢
        generalize V13.alloc (.cells #[.slice ta tn tc] 24) = V21 at *
        clear hg9
        refine order_one (i := 2) rfl (by kernel_rfl) (fun K hK => ?_)
        go_simp
        refine (tm_clone_limbs B F la ln lc (limbs.map (Value.int .u32)) V21 (HRL0.out.keep HV21.out (fun _ _ => id)) (fun u hu => by obtain ⟨x, _, rfl⟩ := List.mem_map.1 hu; rfl) HRO.out.1).mono ?_
        rintro e V22 ⟨A2, c2, rfl, hr2, hc2, hk2⟩
        have HC2 := hide hc2
        clear hc2
        refine hK _ _ (fun _ hS => hS.keep hk2 id) ?_
        clear hK
        try simp only [Act.put, List.setIfInBounds_toArray, List.set_cons_succ, List.set_cons_zero]
        have HV22 : Hid (Keeps NoB W0 V22) := hide (HV21.out.trans' hk2 (fun _ _ => id) (fun _ _ => id))
        have F5_22 := hide (F5_21.out.keep hk2 id)
        have F9_22 := hide (F9_21.out.keep hk2 id)
        have F2_22 := hide (hr2.more (B' := Above W0) (fun j _ hj => Nat.le_trans HV21.out.size hj))
        clear hk2 hr2 F5_21 F9_21 HV21
        refine order_pure (i := 11) rfl (by kernel_rfl) (fun _ _ _ h => h) (.inl ⟨rfl, fun _ => by go_simp; rfl⟩) ?_
        try simp only [Act.put, List.setIfInBounds_toArray, List.set_cons_succ, List.set_cons_zero]
        refine order_one (i := 6) rfl (by kernel_rfl) (fun K hK => ?_)
        go_simp
        refine (copies_of (Tm.size.sizes items) (hide (HIH.out _ HSZ.out.1)) items (Nat.le_refl _) [css] [.slice ia im ic] (some ⟨g5, 0, none⟩) 1 1 im V22 (fun _ => True) B true F (one_head F5_22.out) (heads_one ic (HRI0.out.keep HV22.out (fun _ _ => id))) (by simpa using TermsIn.keep HV22.out (fun _ _ => id) _ _ HTI0.out) HLEN.out.1 HRO.out.2.1 (by omega)).mono ?_
        rintro e V23 ⟨A6, c6, rfl, css6, hs6, ht6, hf6, hk2⟩
        have HC6 : Hid (RoomC im c6 104) := hide ⟨HRO.out.2.1, hs6.2.1, hs6.2.2.1⟩
        refine hK _ _ (fun _ hS => hS.keep hk2 id) ?_
        clear hK
        try simp only [Act.put, List.setIfInBounds_toArray, List.set_cons_succ, List.set_cons_zero]
        have HV23 : Hid (Keeps NoB W0 V23) := hide (HV22.out.trans' hk2 (fun _ _ => id) (fun _ _ => id))
        have F5_23 := hide (F5_22.out.keep hk2 id)
        have F9_23 := hide (F9_22.out.keep hk2 id)
        have F2_23 := hide (F2_22.out.keep hk2 (fun _ _ => id))
        have F6_23 := hide (And.intro (hs6.reads.more (B' := Above W0) (fun j _ hj => Nat.le_trans HV22.out.size (hf6 j hj))) (TermsIn.more (B' := Above W0) (fun j _ hj => Nat.le_trans HV22.out.size hj.1) _ _ ht6))
        clear hk2 hs6 ht6 hf6 F5_23 F5_22 F9_22 F2_22 HV22
        refine order_one (i := 10) rfl (by kernel_rfl) (fun K hK => ?_)
        go_simp
        refine (copies_of (Tm.size.sizes tail) (hide (HIH.out _ HSZ.out.2)) tail (Nat.le_refl _) [dss] [.slice ta tn tc] (some ⟨g9, 0, none⟩) 1 1 tn V23 (fun _ => True) B true F (one_head F9_23.out) (heads_one tc (HRT0.out.keep HV23.out (fun _ _ => id))) (by simpa using TermsIn.keep HV23.out (fun _ _ => id) _ _ HTT0.out) HLEN.out.2 HRO.out.2.2 (by omega)).mono ?_
        rintro e V24 ⟨A10, c10, rfl, css10, hs10, ht10, hf10, hk2⟩
        have HC10 : Hid (RoomC tn c10 104) := hide ⟨HRO.out.2.2, hs10.2.1, hs10.2.2.1⟩
        refine hK _ _ (fun _ hS => hS.keep hk2 id) ?_
        clear hK
        try simp only [Act.put, List.setIfInBounds_toArray, List.set_cons_succ, List.set_cons_zero]
        have HV24 : Hid (Keeps NoB W0 V24) := hide (HV23.out.trans' hk2 (fun _ _ => id) (fun _ _ => id))
        have F9_24 := hide (F9_23.out.keep hk2 id)
        have F2_24 := hide (F2_23.out.keep hk2 (fun _ _ => id))
        have F6_24 := hide (And.intro (F6_23.out.1.keep hk2 (fun _ _ => id)) (TermsIn.keep hk2 (fun _ _ => id) _ _ F6_23.out.2))
        have F10_24 := hide (And.intro (hs10.reads.more (B' := Above W0) (fun j _ hj => Nat.le_trans HV23.out.size (hf10 j hj))) (TermsIn.more (B' := Above W0) (fun j _ hj => Nat.le_trans HV23.out.size hj.1) _ _ ht10))
        clear hk2 hs10 ht10 hf10 F9_24 F9_23 F2_23 F6_23 HV23
        have HB0 : Hid (Blk V24 gb 26 #[.int .u8 kd, .bool ng, .slice la ln lc, .string tx, .int .i64 nm, .slice ia im ic, .slice ta tn tc]) := hide (HBX.out.keep HV24.out id)
        have s12 : V24.cell? ⟨gb, 2, none⟩ = some (.slice la ln lc) := HB0.out.cell 2
        have t12 : V24.frozen? ⟨gb, 2, none⟩ = false := HB0.out.free 2
        refine order_one (i := 12) rfl (by kernel_rfl) (fun K hK => ?_)
        go_simp
        refine hK _ _ (fun h => absurd h (by decide)) ?_
        clear hK
        try simp only [Act.put, List.setIfInBounds_toArray, List.set_cons_succ, List.set_cons_zero]
        clear s12 t12
        have HS1 := hide ((Keeps.refl (fun j => j = gb) V24).setCell (p := ⟨gb, 2, none⟩) (.inl rfl) (.slice A2 ln c2))
        have HB1 := hide (HB0.out.put 2 (.slice A2 ln c2))
        generalize V24.setCell ⟨gb, 2, none⟩ (.slice A2 ln c2) = X1_24 at *
        refine order_pure (i := 13) rfl (by kernel_rfl) (fun _ _ _ h => h) (.inl ⟨rfl, fun _ => by go_simp; rfl⟩) ?_
        try simp only [Act.put, List.setIfInBounds_toArray, List.set_cons_succ, List.set_cons_zero]
        have s14 : X1_24.cell? ⟨gb, 5, none⟩ = some (.slice ia im ic) := HB1.out.cell 5
        have t14 : X1_24.frozen? ⟨gb, 5, none⟩ = false := HB1.out.free 5
        refine order_one (i := 14) rfl (by kernel_rfl) (fun K hK => ?_)
        go_simp
        refine hK _ _ (fun h => absurd h (by decide)) ?_
        clear hK
        try simp only [Act.put, List.setIfInBounds_toArray, List.set_cons_succ, List.set_cons_zero]
        clear s14 t14
        have HS2 := hide ((Keeps.refl (fun j => j = gb) X1_24).setCell (p := ⟨gb, 5, none⟩) (.inl rfl) (.slice A6 im c6))
        have HB2 := hide (HB1.out.put 5 (.slice A6 im c6))
        generalize X1_24.setCell ⟨gb, 5, none⟩ (.slice A6 im c6) = X2_24 at *
        refine order_pure (i := 15) rfl (by kernel_rfl) (fun _ _ _ h => h) (.inl ⟨rfl, fun _ => by go_simp; rfl⟩) ?_
        try simp only [Act.put, List.setIfInBounds_toArray, List.set_cons_succ, List.set_cons_zero]
        have s16 : X2_24.cell? ⟨gb, 6, none⟩ = some (.slice ta tn tc) := HB2.out.cell 6
        have t16 : X2_24.frozen? ⟨gb, 6, none⟩ = false := HB2.out.free 6
        refine order_one (i := 16) rfl (by kernel_rfl) (fun K hK => ?_)
        go_simp
        refine hK _ _ (fun h => absurd h (by decide)) ?_
        clear hK
        try simp only [Act.put, List.setIfInBounds_toArray, List.set_cons_succ, List.set_cons_zero]
        clear s16 t16
        have HS3 := hide ((Keeps.refl (fun j => j = gb) X2_24).setCell (p := ⟨gb, 6, none⟩) (.inl rfl) (.slice A10 tn c10))
        have HB3 := hide (HB2.out.put 6 (.slice A10 tn c10))
        generalize X2_24.setCell ⟨gb, 6, none⟩ (.slice A10 tn c10) = X3_24 at *
        refine order_done (by kernel_rfl) ?_
        have hst : Keeps (fun j => j = gb) V24 X3_24 := (HS1.out.trans' HS2.out (fun _ _ h => h) (fun _ _ h => h) : Keeps (fun j => j = gb) V24 _).trans' HS3.out (fun _ _ h => h) (fun _ _ h => h)
        have hnot : ∀ j, Above W0 j → ¬ j = gb := fun j hj e => by have := HLT.out; unfold Above at hj; omega
        have hfin := copy_mid (ia := A6) (ic := c6) (ta := A10) (tc := c10) (la := A2) (lc := c2) kd ng tx nm ⟨HC2.out, HC6.out, HC10.out⟩ (F2_24.out.keep hst hnot) (F6_24.out.1.keep hst hnot) (TermsIn.keep hst hnot _ _ F6_24.out.2) (F10_24.out.1.keep hst hnot) (TermsIn.keep hst hnot _ _ F10_24.out.2)
        have HFIN := hide hfin; have HRES := hide ((HBR.out.keep HV24.out id).keep hst hgr); have HKK := hide (HV24.out.trans' hst (fun _ _ h => h.elim) (fun _ _ h => h) : Keeps (fun j => j = gb) W0 X3_24)
        clear hst hnot hfin
        go_wp2_with fail
        go_meet
        exact ⟨A2, c2, A6, c6, A10, c10, HB3.out, HRES.out, TermIn.more (fun j _ hj => Nat.le_trans HKW0.out.size hj) _ _ HFIN.out, HKW0.out.trans' HKK.out (fun _ _ h => h.elim) (fun _ _ h => h)⟩
    · skip
      go_simp
      refine hK _ _ (fun _ hS => hS.alloc _) ?_
      clear hK
      try simp only [Act.put, List.setIfInBounds_toArray, List.set_cons_succ, List.set_cons_zero]
      obtain ⟨g9, hg9⟩ : ∃ g9, W0.heap.size = g9 := ⟨_, rfl⟩
      have HV25 : Hid (Keeps NoB W0 (W0.alloc (.cells #[.slice ta tn tc] 24))) := hide (HK00.out.alloc _)
      have F9_25 := hide (Blk.new W0 24 #[.slice ta tn tc])
      rw [hg9] at F9_25 ⊢
      generalize W0.alloc (.cells #[.slice ta tn tc] 24) = V25 at *
      clear hg9
      refine order_two (i := 2) (j := 5) rfl rfl (by kernel_rfl) (fun K hK => ?_) (fun K hK => ?_)
      · skip
        go_simp
        refine (tm_clone_limbs B F la ln lc (limbs.map (Value.int .u32)) V25 (HRL0.out.keep HV25.out (fun _ _ => id)) (fun u hu => by obtain ⟨x, _, rfl⟩ := List.mem_map.1 hu; rfl) HRO.out.1).mono ?_
        rintro e V26 ⟨A2, c2, rfl, hr2, hc2, hk2⟩
        have HC2 := hide hc2
        clear hc2
        refine hK _ _ (fun _ hS => hS.keep hk2 id) ?_
        clear hK
        try simp only [Act.put, List.setIfInBounds_toArray, List.set_cons_succ, List.set_cons_zero]
        have HV26 : Hid (Keeps NoB W0 V26) := hide (HV25.out.trans' hk2 (fun _ _ => id) (fun _ _ => id))
        have F9_26 := hide (F9_25.out.keep hk2 id)
        have F2_26 := hide (hr2.more (B' := Above W0) (fun j _ hj => Nat.le_trans HV25.out.size hj))
        clear hk2 hr2 F9_25 HV25
        refine order_pure (i := 11) rfl (by kernel_rfl) (fun _ _ _ h => h) (.inl ⟨rfl, fun _ => by go_simp; rfl⟩) ?_
        try simp only [Act.put, List.setIfInBounds_toArray, List.set_cons_succ, List.set_cons_zero]
        refine order_one (i := 5) rfl (by kernel_rfl) (fun K hK => ?_)
        go_simp
        refine hK _ _ (fun _ hS => hS.alloc _) ?_
        clear hK
        try simp only [Act.put, List.setIfInBounds_toArray, List.set_cons_succ, List.set_cons_zero]
        obtain ⟨g5, hg5⟩ : ∃ g5, V26.heap.size = g5 := ⟨_, rfl⟩
        have HV27 : Hid (Keeps NoB W0 (V26.alloc (.cells #[.slice ia im ic] 24))) := hide (HV26.out.alloc _)
        have F9_27 := hide (F9_26.out.keep ((Keeps.refl NoB V26).alloc (.cells #[.slice ia im ic] 24)) id)
        have F2_27 := hide (F2_26.out.keep ((Keeps.refl NoB V26).alloc (.cells #[.slice ia im ic] 24)) (fun _ _ => id))
        have F5_27 := hide (Blk.new V26 24 #[.slice ia im ic])
        clear F9_26 F2_26 HV26
        rw [hg5] at F5_27 ⊢
        generalize V26.alloc (.cells #[.slice ia im ic] 24) = V27 at *
        clear hg5
        refine order_one (i := 6) rfl (by kernel_rfl) (fun K hK => ?_)
        go_simp
        refine (copies_of (Tm.size.sizes items) (hide (HIH.out _ HSZ.out.1)) items (Nat.le_refl _) [css] [.slice ia im ic] (some ⟨g5, 0, none⟩) 1 1 im V27 (fun _ => True) B true F (one_head F5_27.out) (heads_one ic (HRI0.out.keep HV27.out (fun _ _ => id))) (by simpa using TermsIn.keep HV27.out (fun _ _ => id) _ _ HTI0.out) HLEN.out.1 HRO.out.2.1 (by omega)).mono ?_
        rintro e V28 ⟨A6, c6, rfl, css6, hs6, ht6, hf6, hk2⟩
        have HC6 : Hid (RoomC im c6 104) := hide ⟨HRO.out.2.1, hs6.2.1, hs6.2.2.1⟩
        refine hK _ _ (fun _ hS => hS.keep hk2 id) ?_
        clear hK
        try simp only [Act.put, List.setIfInBounds_toArray, List.set_cons_succ, List.set_cons_zero]
        have HV28 : Hid (Keeps NoB W0 V28) := hide (HV27.out.trans' hk2 (fun _ _ => id) (fun _ _ => id))
        have F9_28 := hide (F9_27.out.keep hk2 id)
        have F2_28 := hide (F2_27.out.keep hk2 (fun _ _ => id))
        have F5_28 := hide (F5_27.out.keep hk2 id)
        have F6_28 := hide (And.intro (hs6.reads.more (B' := Above W0) (fun j _ hj => Nat.le_trans HV27.out.size (hf6 j hj))) (TermsIn.more (B' := Above W0) (fun j _ hj => Nat.le_trans HV27.out.size hj.1) _ _ ht6))
        clear hk2 hs6 ht6 hf6 F5_28 F9_27 F2_27 F5_27 HV27
        refine order_one (i := 10) rfl (by kernel_rfl) (fun K hK => ?_)
        go_simp
        refine (copies_of (Tm.size.sizes tail) (hide (HIH.out _ HSZ.out.2)) tail (Nat.le_refl _) [dss] [.slice ta tn tc] (some ⟨g9, 0, none⟩) 1 1 tn V28 (fun _ => True) B true F (one_head F9_28.out) (heads_one tc (HRT0.out.keep HV28.out (fun _ _ => id))) (by simpa using TermsIn.keep HV28.out (fun _ _ => id) _ _ HTT0.out) HLEN.out.2 HRO.out.2.2 (by omega)).mono ?_
        rintro e V29 ⟨A10, c10, rfl, css10, hs10, ht10, hf10, hk2⟩
        have HC10 : Hid (RoomC tn c10 104) := hide ⟨HRO.out.2.2, hs10.2.1, hs10.2.2.1⟩
        refine hK _ _ (fun _ hS => hS.keep hk2 id) ?_
        clear hK
        try simp only [Act.put, List.setIfInBounds_toArray, List.set_cons_succ, List.set_cons_zero]
        have HV29 : Hid (Keeps NoB W0 V29) := hide (HV28.out.trans' hk2 (fun _ _ => id) (fun _ _ => id))
        have F9_29 := hide (F9_28.out.keep hk2 id)
        have F2_29 := hide (F2_28.out.keep hk2 (fun _ _ => id))
        have F6_29 := hide (And.intro (F6_28.out.1.keep hk2 (fun _ _ => id)) (TermsIn.keep hk2 (fun _ _ => id) _ _ F6_28.out.2))
        have F10_29 := hide (And.intro (hs10.reads.more (B' := Above W0) (fun j _ hj => Nat.le_trans HV28.out.size (hf10 j hj))) (TermsIn.more (B' := Above W0) (fun j _ hj => Nat.le_trans HV28.out.size hj.1) _ _ ht10))
        clear hk2 hs10 ht10 hf10 F9_29 F9_28 F2_28 F6_28 HV28
        have HB0 : Hid (Blk V29 gb 26 #[.int .u8 kd, .bool ng, .slice la ln lc, .string tx, .int .i64 nm, .slice ia im ic, .slice ta tn tc]) := hide (HBX.out.keep HV29.out id)
        have s12 : V29.cell? ⟨gb, 2, none⟩ = some (.slice la ln lc) := HB0.out.cell 2
        have t12 : V29.frozen? ⟨gb, 2, none⟩ = false := HB0.out.free 2
        refine order_one (i := 12) rfl (by kernel_rfl) (fun K hK => ?_)
        go_simp
        refine hK _ _ (fun h => absurd h (by decide)) ?_
        clear hK
        try simp only [Act.put, List.setIfInBounds_toArray, List.set_cons_succ, List.set_cons_zero]
        clear s12 t12
        have HS1 := hide ((Keeps.refl (fun j => j = gb) V29).setCell (p := ⟨gb, 2, none⟩) (.inl rfl) (.slice A2 ln c2))
        have HB1 := hide (HB0.out.put 2 (.slice A2 ln c2))
        generalize V29.setCell ⟨gb, 2, none⟩ (.slice A2 ln c2) = X1_29 at *
        refine order_pure (i := 13) rfl (by kernel_rfl) (fun _ _ _ h => h) (.inl ⟨rfl, fun _ => by go_simp; rfl⟩) ?_
        try simp only [Act.put, List.setIfInBounds_toArray, List.set_cons_succ, List.set_cons_zero]
        have s14 : X1_29.cell? ⟨gb, 5, none⟩ = some (.slice ia im ic) := HB1.out.cell 5
        have t14 : X1_29.frozen? ⟨gb, 5, none⟩ = false := HB1.out.free 5
        refine order_one (i := 14) rfl (by kernel_rfl) (fun K hK => ?_)
        go_simp
        refine hK _ _ (fun h => absurd h (by decide)) ?_
        clear hK
        try simp only [Act.put, List.setIfInBounds_toArray, List.set_cons_succ, List.set_cons_zero]
        clear s14 t14
        have HS2 := hide ((Keeps.refl (fun j => j = gb) X1_29).setCell (p := ⟨gb, 5, none⟩) (.inl rfl) (.slice A6 im c6))
        have HB2 := hide (HB1.out.put 5 (.slice A6 im c6))
        generalize X1_29.setCell ⟨gb, 5, none⟩ (.slice A6 im c6) = X2_29 at *
        refine order_pure (i := 15) rfl (by kernel_rfl) (fun _ _ _ h => h) (.inl ⟨rfl, fun _ => by go_simp; rfl⟩) ?_
        try simp only [Act.put, List.setIfInBounds_toArray, List.set_cons_succ, List.set_cons_zero]
        have s16 : X2_29.cell? ⟨gb, 6, none⟩ = some (.slice ta tn tc) := HB2.out.cell 6
        have t16 : X2_29.frozen? ⟨gb, 6, none⟩ = false := HB2.out.free 6
        refine order_one (i := 16) rfl (by kernel_rfl) (fun K hK => ?_)
        go_simp
        refine hK _ _ (fun h => absurd h (by decide)) ?_
        clear hK
        try simp only [Act.put, List.setIfInBounds_toArray, List.set_cons_succ, List.set_cons_zero]
        clear s16 t16
        have HS3 := hide ((Keeps.refl (fun j => j = gb) X2_29).setCell (p := ⟨gb, 6, none⟩) (.inl rfl) (.slice A10 tn c10))
        have HB3 := hide (HB2.out.put 6 (.slice A10 tn c10))
        generalize X2_29.setCell ⟨gb, 6, none⟩ (.slice A10 tn c10) = X3_29 at *
        refine order_done (by kernel_rfl) ?_
        have hst : Keeps (fun j => j = gb) V29 X3_29 := (HS1.out.trans' HS2.out (fun _ _ h => h) (fun _ _ h => h) : Keeps (fun j => j = gb) V29 _).trans' HS3.out (fun _ _ h => h) (fun _ _ h => h)
        have hnot : ∀ j, Above W0 j → ¬ j = gb := fun j hj e => by have := HLT.out; unfold Above at hj; omega
        have hfin := copy_mid (ia := A6) (ic := c6) (ta := A10) (tc := c10) (la := A2) (lc := c2) kd ng tx nm ⟨HC2.out, HC6.out, HC10.out⟩ (F2_29.out.keep hst hnot) (F6_29.out.1.keep hst hnot) (TermsIn.keep hst hnot _ _ F6_29.out.2) (F10_29.out.1.keep hst hnot) (TermsIn.keep hst hnot _ _ F10_29.out.2)
        have HFIN := hide hfin; have HRES := hide ((HBR.out.keep HV29.out id).keep hst hgr); have HKK := hide (HV29.out.trans' hst (fun _ _ h => h.elim) (fun _ _ h => h) : Keeps (fun j => j = gb) W0 X3_29)
        clear hst hnot hfin
        go_wp2_with fail
        go_meet
        exact ⟨A2, c2, A6, c6, A10, c10, HB3.out, HRES.out, TermIn.more (fun j _ hj => Nat.le_trans HKW0.out.size hj) _ _ HFIN.out, HKW0.out.trans' HKK.out (fun _ _ h => h.elim) (fun _ _ h => h)⟩
      · skip
        go_simp
        refine hK _ _ (fun _ hS => hS.alloc _) ?_
        clear hK
        try simp only [Act.put, List.setIfInBounds_toArray, List.set_cons_succ, List.set_cons_zero]
        obtain ⟨g5, hg5⟩ : ∃ g5, V25.heap.size = g5 := ⟨_, rfl⟩
        have HV30 : Hid (Keeps NoB W0 (V25.alloc (.cells #[.slice ia im ic] 24))) := hide (HV25.out.alloc _)
        have F9_30 := hide (F9_25.out.keep ((Keeps.refl NoB V25).alloc (.cells #[.slice ia im ic] 24)) id)
        have F5_30 := hide (Blk.new V25 24 #[.slice ia im ic])
        clear F9_25 HV25
        rw [hg5] at F5_30 ⊢
        generalize V25.alloc (.cells #[.slice ia im ic] 24) = V30 at *
        clear hg5
        refine order_one (i := 2) rfl (by kernel_rfl) (fun K hK => ?_)
        go_simp
        refine (tm_clone_limbs B F la ln lc (limbs.map (Value.int .u32)) V30 (HRL0.out.keep HV30.out (fun _ _ => id)) (fun u hu => by obtain ⟨x, _, rfl⟩ := List.mem_map.1 hu; rfl) HRO.out.1).mono ?_
        rintro e V31 ⟨A2, c2, rfl, hr2, hc2, hk2⟩
        have HC2 := hide hc2
        clear hc2
        refine hK _ _ (fun _ hS => hS.keep hk2 id) ?_
        clear hK
        try simp only [Act.put, List.setIfInBounds_toArray, List.set_cons_succ, List.set_cons_zero]
        have HV31 : Hid (Keeps NoB W0 V31) := hide (HV30.out.trans' hk2 (fun _ _ => id) (fun _ _ => id))
        have F9_31 := hide (F9_30.out.keep hk2 id)
        have F5_31 := hide (F5_30.out.keep hk2 id)
        have F2_31 := hide (hr2.more (B' := Above W0) (fun j _ hj => Nat.le_trans HV30.out.size hj))
        clear hk2 hr2 F9_30 F5_30 HV30
        refine order_pure (i := 11) rfl (by kernel_rfl) (fun _ _ _ h => h) (.inl ⟨rfl, fun _ => by go_simp; rfl⟩) ?_
        try simp only [Act.put, List.setIfInBounds_toArray, List.set_cons_succ, List.set_cons_zero]
        refine order_one (i := 6) rfl (by kernel_rfl) (fun K hK => ?_)
        go_simp
        refine (copies_of (Tm.size.sizes items) (hide (HIH.out _ HSZ.out.1)) items (Nat.le_refl _) [css] [.slice ia im ic] (some ⟨g5, 0, none⟩) 1 1 im V31 (fun _ => True) B true F (one_head F5_31.out) (heads_one ic (HRI0.out.keep HV31.out (fun _ _ => id))) (by simpa using TermsIn.keep HV31.out (fun _ _ => id) _ _ HTI0.out) HLEN.out.1 HRO.out.2.1 (by omega)).mono ?_
        rintro e V32 ⟨A6, c6, rfl, css6, hs6, ht6, hf6, hk2⟩
        have HC6 : Hid (RoomC im c6 104) := hide ⟨HRO.out.2.1, hs6.2.1, hs6.2.2.1⟩
        refine hK _ _ (fun _ hS => hS.keep hk2 id) ?_
        clear hK
        try simp only [Act.put, List.setIfInBounds_toArray, List.set_cons_succ, List.set_cons_zero]
        have HV32 : Hid (Keeps NoB W0 V32) := hide (HV31.out.trans' hk2 (fun _ _ => id) (fun _ _ => id))
        have F9_32 := hide (F9_31.out.keep hk2 id)
        have F5_32 := hide (F5_31.out.keep hk2 id)
        have F2_32 := hide (F2_31.out.keep hk2 (fun _ _ => id))
        have F6_32 := hide (And.intro (hs6.reads.more (B' := Above W0) (fun j _ hj => Nat.le_trans HV31.out.size (hf6 j hj))) (TermsIn.more (B' := Above W0) (fun j _ hj => Nat.le_trans HV31.out.size hj.1) _ _ ht6))
        clear hk2 hs6 ht6 hf6 F5_32 F9_31 F5_31 F2_31 HV31
        refine order_one (i := 10) rfl (by kernel_rfl) (fun K hK => ?_)
        go_simp
        refine (copies_of (Tm.size.sizes tail) (hide (HIH.out _ HSZ.out.2)) tail (Nat.le_refl _) [dss] [.slice ta tn tc] (some ⟨g9, 0, none⟩) 1 1 tn V32 (fun _ => True) B true F (one_head F9_32.out) (heads_one tc (HRT0.out.keep HV32.out (fun _ _ => id))) (by simpa using TermsIn.keep HV32.out (fun _ _ => id) _ _ HTT0.out) HLEN.out.2 HRO.out.2.2 (by omega)).mono ?_
        rintro e V33 ⟨A10, c10, rfl, css10, hs10, ht10, hf10, hk2⟩
        have HC10 : Hid (RoomC tn c10 104) := hide ⟨HRO.out.2.2, hs10.2.1, hs10.2.2.1⟩
        refine hK _ _ (fun _ hS => hS.keep hk2 id) ?_
        clear hK
        try simp only [Act.put, List.setIfInBounds_toArray, List.set_cons_succ, List.set_cons_zero]
        have HV33 : Hid (Keeps NoB W0 V33) := hide (HV32.out.trans' hk2 (fun _ _ => id) (fun _ _ => id))
        have F9_33 := hide (F9_32.out.keep hk2 id)
        have F2_33 := hide (F2_32.out.keep hk2 (fun _ _ => id))
        have F6_33 := hide (And.intro (F6_32.out.1.keep hk2 (fun _ _ => id)) (TermsIn.keep hk2 (fun _ _ => id) _ _ F6_32.out.2))
        have F10_33 := hide (And.intro (hs10.reads.more (B' := Above W0) (fun j _ hj => Nat.le_trans HV32.out.size (hf10 j hj))) (TermsIn.more (B' := Above W0) (fun j _ hj => Nat.le_trans HV32.out.size hj.1) _ _ ht10))
        clear hk2 hs10 ht10 hf10 F9_33 F9_32 F2_32 F6_32 HV32
        have HB0 : Hid (Blk V33 gb 26 #[.int .u8 kd, .bool ng, .slice la ln lc, .string tx, .int .i64 nm, .slice ia im ic, .slice ta tn tc]) := hide (HBX.out.keep HV33.out id)
        have s12 : V33.cell? ⟨gb, 2, none⟩ = some (.slice la ln lc) := HB0.out.cell 2
        have t12 : V33.frozen? ⟨gb, 2, none⟩ = false := HB0.out.free 2
        refine order_one (i := 12) rfl (by kernel_rfl) (fun K hK => ?_)
        go_simp
        refine hK _ _ (fun h => absurd h (by decide)) ?_
        clear hK
        try simp only [Act.put, List.setIfInBounds_toArray, List.set_cons_succ, List.set_cons_zero]
        clear s12 t12
        have HS1 := hide ((Keeps.refl (fun j => j = gb) V33).setCell (p := ⟨gb, 2, none⟩) (.inl rfl) (.slice A2 ln c2))
        have HB1 := hide (HB0.out.put 2 (.slice A2 ln c2))
        generalize V33.setCell ⟨gb, 2, none⟩ (.slice A2 ln c2) = X1_33 at *
        refine order_pure (i := 13) rfl (by kernel_rfl) (fun _ _ _ h => h) (.inl ⟨rfl, fun _ => by go_simp; rfl⟩) ?_
        try simp only [Act.put, List.setIfInBounds_toArray, List.set_cons_succ, List.set_cons_zero]
        have s14 : X1_33.cell? ⟨gb, 5, none⟩ = some (.slice ia im ic) := HB1.out.cell 5
        have t14 : X1_33.frozen? ⟨gb, 5, none⟩ = false := HB1.out.free 5
        refine order_one (i := 14) rfl (by kernel_rfl) (fun K hK => ?_)
        go_simp
        refine hK _ _ (fun h => absurd h (by decide)) ?_
        clear hK
        try simp only [Act.put, List.setIfInBounds_toArray, List.set_cons_succ, List.set_cons_zero]
        clear s14 t14
        have HS2 := hide ((Keeps.refl (fun j => j = gb) X1_33).setCell (p := ⟨gb, 5, none⟩) (.inl rfl) (.slice A6 im c6))
        have HB2 := hide (HB1.out.put 5 (.slice A6 im c6))
        generalize X1_33.setCell ⟨gb, 5, none⟩ (.slice A6 im c6) = X2_33 at *
        refine order_pure (i := 15) rfl (by kernel_rfl) (fun _ _ _ h => h) (.inl ⟨rfl, fun _ => by go_simp; rfl⟩) ?_
        try simp only [Act.put, List.setIfInBounds_toArray, List.set_cons_succ, List.set_cons_zero]
        have s16 : X2_33.cell? ⟨gb, 6, none⟩ = some (.slice ta tn tc) := HB2.out.cell 6
        have t16 : X2_33.frozen? ⟨gb, 6, none⟩ = false := HB2.out.free 6
        refine order_one (i := 16) rfl (by kernel_rfl) (fun K hK => ?_)
        go_simp
        refine hK _ _ (fun h => absurd h (by decide)) ?_
        clear hK
        try simp only [Act.put, List.setIfInBounds_toArray, List.set_cons_succ, List.set_cons_zero]
        clear s16 t16
        have HS3 := hide ((Keeps.refl (fun j => j = gb) X2_33).setCell (p := ⟨gb, 6, none⟩) (.inl rfl) (.slice A10 tn c10))
        have HB3 := hide (HB2.out.put 6 (.slice A10 tn c10))
        generalize X2_33.setCell ⟨gb, 6, none⟩ (.slice A10 tn c10) = X3_33 at *
        refine order_done (by kernel_rfl) ?_
        have hst : Keeps (fun j => j = gb) V33 X3_33 := (HS1.out.trans' HS2.out (fun _ _ h => h) (fun _ _ h => h) : Keeps (fun j => j = gb) V33 _).trans' HS3.out (fun _ _ h => h) (fun _ _ h => h)
        have hnot : ∀ j, Above W0 j → ¬ j = gb := fun j hj e => by have := HLT.out; unfold Above at hj; omega
        have hfin := copy_mid (ia := A6) (ic := c6) (ta := A10) (tc := c10) (la := A2) (lc := c2) kd ng tx nm ⟨HC2.out, HC6.out, HC10.out⟩ (F2_33.out.keep hst hnot) (F6_33.out.1.keep hst hnot) (TermsIn.keep hst hnot _ _ F6_33.out.2) (F10_33.out.1.keep hst hnot) (TermsIn.keep hst hnot _ _ F10_33.out.2)
        have HFIN := hide hfin; have HRES := hide ((HBR.out.keep HV33.out id).keep hst hgr); have HKK := hide (HV33.out.trans' hst (fun _ _ h => h.elim) (fun _ _ h => h) : Keeps (fun j => j = gb) W0 X3_33)
        clear hst hnot hfin
        go_wp2_with fail
        go_meet
        exact ⟨A2, c2, A6, c6, A10, c10, HB3.out, HRES.out, TermIn.more (fun j _ hj => Nat.le_trans HKW0.out.size hj) _ _ HFIN.out, HKW0.out.trans' HKK.out (fun _ _ h => h.elim) (fun _ _ h => h)⟩
  case rest =>
    obtain ⟨la', lc', ia', ic', ta', tc', h1, h2, h3, h4⟩ := hcut
    have HB1 : Hid (Blk wc gb 26 #[.int .u8 kd, .bool ng, .slice la' ln lc', .string tx, .int .i64 nm, .slice ia' im ic', .slice ta' tn tc']) := hide h1; have HR1 : Hid (Blk wc gr 26 #[.int .u8 0, .bool false, .slice none 0 0, .string { data := #[] }, .int .i64 0, .slice none 0 0, .slice none 0 0]) := hide h2; have HT1 := hide h3; have HK1 := hide h4
    clear h1 h2 h3 h4
    obtain ⟨x0, x1, x2, x3, x4, x5, x6⟩ := Blk.c7 (show Blk wc (gb) _ #[.int .u8 kd, .bool ng, .slice la' ln lc', .string tx, .int .i64 nm, .slice ia' im ic', .slice ta' tn tc'] from HB1.out); obtain ⟨z0, z1, z2, z3, z4, z5, z6⟩ := Blk.c7 (show Blk wc (gr) _ #[.int .u8 0, .bool false, .slice none 0 0, .string { data := #[] }, .int .i64 0, .slice none 0 0, .slice none 0 0] from HR1.out); obtain ⟨f0, f1, f2, f3, f4, f5, f6⟩ := Blk.f7 (w := wc) (g := gr) HR1.out
    go_wp2
    have HBf := hide (HR1.out.tput7 (.int .u8 kd) (.bool ng) (.slice la' ln lc') (.string tx) (.int .i64 nm) (.slice ia' im ic') (.slice ta' tn tc'))
    have hs : Keeps (fun j => j = gr) wc (((((((wc.setCell ⟨gr, 0, none⟩ (.int .u8 kd)).setCell ⟨gr, 1, none⟩ (.bool ng)).setCell ⟨gr, 2, none⟩ (.slice la' ln lc')).setCell ⟨gr, 3, none⟩ (.string tx)).setCell ⟨gr, 4, none⟩ (.int .i64 nm)).setCell ⟨gr, 5, none⟩ (.slice ia' im ic')).setCell ⟨gr, 6, none⟩ (.slice ta' tn tc')) := ((((((((Keeps.refl (fun j => j = gr) wc).setCell (p := ⟨gr, 0, none⟩) (.inl rfl) (.int .u8 kd)).setCell (p := ⟨gr, 1, none⟩) (.inl rfl) (.bool ng)).setCell (p := ⟨gr, 2, none⟩) (.inl rfl) (.slice la' ln lc')).setCell (p := ⟨gr, 3, none⟩) (.inl rfl) (.string tx)).setCell (p := ⟨gr, 4, none⟩) (.inl rfl) (.int .i64 nm)).setCell (p := ⟨gr, 5, none⟩) (.inl rfl) (.slice ia' im ic')).setCell (p := ⟨gr, 6, none⟩) (.inl rfl) (.slice ta' tn tc'))
    have HTf := hide (TermIn.more (B' := Above w) (fun j _ (hj : Above w1 j) => Nat.le_trans HKW.out.size hj) _ _ (TermIn.keep hs (fun j (hj : Above w1 j) e => by have := HLT.out; unfold Above at hj; omega) _ _ HT1.out))
    have HKf : Hid (Keeps NoB w (((((((wc.setCell ⟨gr, 0, none⟩ (.int .u8 kd)).setCell ⟨gr, 1, none⟩ (.bool ng)).setCell ⟨gr, 2, none⟩ (.slice la' ln lc')).setCell ⟨gr, 3, none⟩ (.string tx)).setCell ⟨gr, 4, none⟩ (.int .i64 nm)).setCell ⟨gr, 5, none⟩ (.slice ia' im ic')).setCell ⟨gr, 6, none⟩ (.slice ta' tn tc'))) := hide ((HKW.out.trans' HK1.out (fun _ _ h => h.elim) (fun j hj e => by have := HGB.out; omega) : Keeps NoB w wc).trans' hs (fun _ _ h => h.elim) (fun j hj e => by have := HGR.out; have := HGB.out; omega))
    clear hs x0 x1 x2 x3 x4 x5 x6 z0 z1 z2 z3 z4 z5 z6 f0 f1 f2 f3 f4 f5 f6
    generalize (((((((wc.setCell ⟨gr, 0, none⟩ (.int .u8 kd)).setCell ⟨gr, 1, none⟩ (.bool ng)).setCell ⟨gr, 2, none⟩ (.slice la' ln lc')).setCell ⟨gr, 3, none⟩ (.string tx)).setCell ⟨gr, 4, none⟩ (.int .i64 nm)).setCell ⟨gr, 5, none⟩ (.slice ia' im ic')).setCell ⟨gr, 6, none⟩ (.slice ta' tn tc')) = wf at *
    obtain ⟨d0, d1, d2, d3, d4, d5, d6⟩ := Blk.c7 (show Blk wf (gr) _ #[.int .u8 kd, .bool ng, .slice la' ln lc', .string tx, .int .i64 nm, .slice ia' im ic', .slice ta' tn tc'] from HBf.out)
    refine bodyPost_ret (v := .agg #[.int .u8 kd, .bool ng, .slice la' ln lc', .string tx, .int .i64 nm, .slice ia' im ic', .slice ta' tn tc']) (by simp [results, Tryz.results28, go_sem, d0, d1, d2, d3, d4, d5, d6]) rfl ?_
    exact ⟨la', lc', ia', ic', ta', tc', rfl, HTf.out, HKf.out⟩
end Go.Proofs.YthbbalkhmofndaaGreatDoor
