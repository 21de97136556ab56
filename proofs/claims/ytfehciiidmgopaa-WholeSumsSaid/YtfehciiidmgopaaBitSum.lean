/- sum, less of rows of bits. -/
import Derived.Test.YtfehciiidmgopaaBits
import Derived.Deep.CutRange
import Derived.Deep.DeepCutAuto
namespace Go.Proofs.Ytfehciiidmgopaa
open Go.RowKit

theorem Try.info4 : (Try.prog.info? 4).map (fun i => (i.zero, i.size, i.bytes)) = some (some (.bool false), 1, 1) := by kernel_rfl
/-- A row that the call itself appends to. -/
structure OutB (W0 : World) (A : Option Addr) (n c : Nat) (l : List Bool) (wr : World) : Prop where
  slab : Slab wr 4 1 A n c (bools l)
  fresh : ∀ k, rowB A k → W0.heap.size ≤ k
  keep : Keeps NoB W0 wr
theorem OutB.none (w : World) : OutB w none 0 0 [] w := ⟨Slab.nil _ _ _, (fun k ⟨o, h⟩ => by cases h), Keeps.refl _ _⟩
theorem OutB.step {W0 wr w' : World} {A : Option Addr} {n c : Nat} {l : List Bool} (h : OutB W0 A n c l wr) (hk : Keeps NoB wr w') : OutB W0 A n c l w' := ⟨h.slab.fresh hk, h.fresh, h.keep.trans' hk (fun _ _ h => h) (fun _ _ h => h)⟩
theorem OutB.next {W0 wr w5 : World} {A A5 : Option Addr} {n c c5 : Nat} {l : List Bool} {b : Bool} (h : OutB W0 A n c l wr) (h1 : Slab w5 4 1 A5 (n + 1) c5 (bools l ++ [.bool b])) (h2 : Keeps (rowB A) wr w5) (h3 : Moved wr A A5) : OutB W0 A5 (n + 1) c5 (l ++ [b]) w5 := by
  refine ⟨by rw [bools_append]; exact h1, fun k hr => ?_, h.keep.trans' h2 (fun _ _ h => h) (fun k hk hr => absurd (h.fresh k hr) (Nat.not_le.2 hk))⟩
  rcases h3 k hr with e | e
  · exact h.fresh k e
  · exact Nat.le_trans h.keep.size e
theorem OutB.bits {W0 wr : World} {A : Option Addr} {n c : Nat} {l : List Bool} (h : OutB W0 A n c l wr) : BitsIn wr (fun k => W0.heap.size ≤ k) A n c l := (BitsIn.of_slab h.slab).more (fun k _ hr => h.fresh k hr)
theorem OutB.len {W0 wr : World} {A : Option Addr} {n c : Nat} {l : List Bool} (h : OutB W0 A n c l wr) : l.length = n := h.bits.len
/-- What is told: a number's bits. -/
def BitP (w : World) (z : Nat) (e : Ending) (w' : World) : Prop := ∃ A m c, e = .returned (.slice A m c) ∧ m = lenB z ∧ BitsIn w' (fun k => w.heap.size ≤ k) A m c (digB z) ∧ Keeps NoB w w'

theorem sum_end {a b m z : Nat} {c : Bool} (h : z + 2 ^ (m + 1) * c.toNat = a % 2 ^ (m + 1) + b % 2 ^ (m + 1)) (ha : a < 2 ^ m) (hb : b < 2 ^ m) : z = a + b := by
  have e : 2 ^ (m + 1) = 2 ^ m + 2 ^ m := by rw [Nat.pow_succ]; omega
  rw [Nat.mod_eq_of_lt (by omega), Nat.mod_eq_of_lt (by omega)] at h
  cases c with
  | false => simpa using h
  | true => rw [show true.toNat = 1 from rfl, Nat.mul_one] at h; omega
set_option maxHeartbeats 2000000 in
set_option maxRecDepth 100000 in
theorem bsum_any (A A' : Option Addr) (n c n' c' N : Nat) (la lb : List Bool) (w : World) (B B' : Nat → Prop) (h : BitsIn w B A n c la) (h' : BitsIn w B' A' n' c' lb) (hN : N = max n n') (hN2 : N ≤ 100000) :
    Calls Try.prog 37 #[.slice A n c, .slice A' n' c'] w (BitP w (natB la + natB lb)) := by
  have hl := h.len; have hl' := h'.len
  have HA := hide h; have HA' := hide h'
  obtain ⟨i0, hi0, hz0, hz1, hz2⟩ := info_parts Try.info4
  have hmax : (if (n : Int) < (n' : Int) then (n' : Int) else (n : Int)) = (N : Int) := by split <;> omega
  have hmax2 : (if n < n' then (n' : Int) else (n : Int)) = (N : Int) := by split <;> omega
  have HLT := hide (And.intro (show natB la < 2 ^ N from Nat.lt_of_lt_of_le (natB_lt la) (Nat.pow_le_pow_right (by decide) (by omega))) (show natB lb < 2 ^ N from Nat.lt_of_lt_of_le (natB_lt lb) (Nat.pow_le_pow_right (by decide) (by omega))))
  have hn : n ≤ 100000 := by omega
  have hn' : n' ≤ 100000 := by omega
  clear h h' hN hl hl'
  go_enter Try.func37, Try.ntmps37
  go_wp2
  go_loopw [5, 6, 7] (fun ov cv iv wr => ∃ (A : Option Addr) (k c : Nat) (l : List Bool) (cy : Bool), ov = .slice A k c ∧ cv = .bool cy ∧ iv = .int .i64 (k : Int) ∧ k ≤ N + 1 ∧ Hid (OutB w A k c l wr) ∧ Hid (natB l + 2 ^ k * cy.toNat = natB la % 2 ^ k + natB lb % 2 ^ k)) (fun _ _ iv _ => N + 1 - (intOf iv).toNat)
  case atStart => exact ⟨none, 0, 0, [], false, rfl, rfl, rfl, Nat.zero_le _, hide (OutB.none w), hide (by simp [natB, Nat.mod_one])⟩
  case round =>
    obtain ⟨AO, k, cO, l, cy, rfl, rfl, rfl, hk, HO, HV⟩ := hrel
    by_cases hlt : k ≤ N
    · have hk0 : (k : Int) ≤ (N : Int) := by omega
      have HL1 := hide (bit_any A n c k la wr _ (HA.out.keep HO.out.keep) (by omega) (by omega))
      have HL2 := hide (fun w2 (hk : Keeps NoB wr w2) => bit_any A' n' c' k lb w2 _ ((HA'.out.keep HO.out.keep).keep hk) (by omega) (by omega))
      have HST := hide (sum_step HO.out.len HV.out)
      rw [natB_test, natB_test] at HST
      obtain ⟨X, hX⟩ : ∃ X, la.getD k false = X := ⟨_, rfl⟩
      obtain ⟨Y, hY⟩ : ∃ Y, lb.getD k false = Y := ⟨_, rfl⟩
      rw [hX] at HL1 HST
      rw [hY] at HL2 HST
      clear hX hY
      have M1 := hide True.intro
      go_upto_region 7 with first | (clear M1; go_at_call 60; refine HL1.out.mono ?_; rintro e w2 ⟨rfl, hk2⟩; have HK2 := hide hk2; clear hk2) | (go_at_call 60; refine (HL2.out w2 HK2.out).mono ?_; rintro e w3 ⟨rfl, hk3⟩; have HK3 := hide (HK2.out.trans' hk3 (fun _ _ h => h) (fun _ _ h => h)); clear hk3 HK2) | fail
      have HO3 := hide (HO.out.step HK3.out)
      clear HO HK3 HL1 HL2 HV
      rcases X with _ | _ <;> rcases Y with _ | _ <;> rcases cy with _ | _
      · skip
        have HO4 := hide (HO3.out.step ((Keeps.refl NoB w3).alloc (.cells #[.bool false] 4)))
        have HR4 := hide (one_reads (Blk.new w3 4 #[.bool false]))
        clear HO3
        go_wp2_with (at_builtin; refine wpList_append_slab _ rfl (.tmp 25) (.tmp 31) 48 rfl 4 i0 _ 1 1 Try.underlying48 hi0 hz0 hz1 hz2 rfl (by omega) AO k cO (bools l) rfl HO4.out.slab (fun _ => True) true (some ⟨w3.heap.size, 0, none⟩) 1 1 [.bool false] rfl HR4.out (Nat.zero_lt_one) (fun u hu => by simp at hu; subst hu; rfl) (by unfold maxLen; omega) (by omega) ?_)
        intro A5 c5 w5 h1 h2 h3
        have HO5 := hide (HO4.out.next h1 h2 h3)
        clear h1 h2 h3 HO4 HR4
        go_wp2
        go_roundw
        case rel => exact ⟨A5, k + 1, c5, l ++ [false], false, rfl, rfl, rfl, by omega, HO5, HST⟩
        case measure => simp [intOf]; omega
      · skip
        have HO4 := hide (HO3.out.step ((Keeps.refl NoB w3).alloc (.cells #[.bool true] 4)))
        have HR4 := hide (one_reads (Blk.new w3 4 #[.bool true]))
        clear HO3
        go_wp2_with (at_builtin; refine wpList_append_slab _ rfl (.tmp 25) (.tmp 31) 48 rfl 4 i0 _ 1 1 Try.underlying48 hi0 hz0 hz1 hz2 rfl (by omega) AO k cO (bools l) rfl HO4.out.slab (fun _ => True) true (some ⟨w3.heap.size, 0, none⟩) 1 1 [.bool true] rfl HR4.out (Nat.zero_lt_one) (fun u hu => by simp at hu; subst hu; rfl) (by unfold maxLen; omega) (by omega) ?_)
        intro A5 c5 w5 h1 h2 h3
        have HO5 := hide (HO4.out.next h1 h2 h3)
        clear h1 h2 h3 HO4 HR4
        go_wp2
        go_roundw
        case rel => exact ⟨A5, k + 1, c5, l ++ [true], false, rfl, rfl, rfl, by omega, HO5, HST⟩
        case measure => simp [intOf]; omega
      · skip
        have HO4 := hide (HO3.out.step ((Keeps.refl NoB w3).alloc (.cells #[.bool true] 4)))
        have HR4 := hide (one_reads (Blk.new w3 4 #[.bool true]))
        clear HO3
        go_wp2_with (at_builtin; refine wpList_append_slab _ rfl (.tmp 25) (.tmp 31) 48 rfl 4 i0 _ 1 1 Try.underlying48 hi0 hz0 hz1 hz2 rfl (by omega) AO k cO (bools l) rfl HO4.out.slab (fun _ => True) true (some ⟨w3.heap.size, 0, none⟩) 1 1 [.bool true] rfl HR4.out (Nat.zero_lt_one) (fun u hu => by simp at hu; subst hu; rfl) (by unfold maxLen; omega) (by omega) ?_)
        intro A5 c5 w5 h1 h2 h3
        have HO5 := hide (HO4.out.next h1 h2 h3)
        clear h1 h2 h3 HO4 HR4
        go_wp2
        go_roundw
        case rel => exact ⟨A5, k + 1, c5, l ++ [true], false, rfl, rfl, rfl, by omega, HO5, HST⟩
        case measure => simp [intOf]; omega
      · skip
        have HO4 := hide (HO3.out.step ((Keeps.refl NoB w3).alloc (.cells #[.bool false] 4)))
        have HR4 := hide (one_reads (Blk.new w3 4 #[.bool false]))
        clear HO3
        go_wp2_with (at_builtin; refine wpList_append_slab _ rfl (.tmp 25) (.tmp 31) 48 rfl 4 i0 _ 1 1 Try.underlying48 hi0 hz0 hz1 hz2 rfl (by omega) AO k cO (bools l) rfl HO4.out.slab (fun _ => True) true (some ⟨w3.heap.size, 0, none⟩) 1 1 [.bool false] rfl HR4.out (Nat.zero_lt_one) (fun u hu => by simp at hu; subst hu; rfl) (by unfold maxLen; omega) (by omega) ?_)
        intro A5 c5 w5 h1 h2 h3
        have HO5 := hide (HO4.out.next h1 h2 h3)
        clear h1 h2 h3 HO4 HR4
        go_wp2
        go_roundw
        case rel => exact ⟨A5, k + 1, c5, l ++ [false], true, rfl, rfl, rfl, by omega, HO5, HST⟩
        case measure => simp [intOf]; omega
      · skip
        have HO4 := hide (HO3.out.step ((Keeps.refl NoB w3).alloc (.cells #[.bool true] 4)))
        have HR4 := hide (one_reads (Blk.new w3 4 #[.bool true]))
        clear HO3
        go_wp2_with (at_builtin; refine wpList_append_slab _ rfl (.tmp 25) (.tmp 31) 48 rfl 4 i0 _ 1 1 Try.underlying48 hi0 hz0 hz1 hz2 rfl (by omega) AO k cO (bools l) rfl HO4.out.slab (fun _ => True) true (some ⟨w3.heap.size, 0, none⟩) 1 1 [.bool true] rfl HR4.out (Nat.zero_lt_one) (fun u hu => by simp at hu; subst hu; rfl) (by unfold maxLen; omega) (by omega) ?_)
        intro A5 c5 w5 h1 h2 h3
        have HO5 := hide (HO4.out.next h1 h2 h3)
        clear h1 h2 h3 HO4 HR4
        go_wp2
        go_roundw
        case rel => exact ⟨A5, k + 1, c5, l ++ [true], false, rfl, rfl, rfl, by omega, HO5, HST⟩
        case measure => simp [intOf]; omega
      · skip
        have HO4 := hide (HO3.out.step ((Keeps.refl NoB w3).alloc (.cells #[.bool false] 4)))
        have HR4 := hide (one_reads (Blk.new w3 4 #[.bool false]))
        clear HO3
        go_wp2_with (at_builtin; refine wpList_append_slab _ rfl (.tmp 25) (.tmp 31) 48 rfl 4 i0 _ 1 1 Try.underlying48 hi0 hz0 hz1 hz2 rfl (by omega) AO k cO (bools l) rfl HO4.out.slab (fun _ => True) true (some ⟨w3.heap.size, 0, none⟩) 1 1 [.bool false] rfl HR4.out (Nat.zero_lt_one) (fun u hu => by simp at hu; subst hu; rfl) (by unfold maxLen; omega) (by omega) ?_)
        intro A5 c5 w5 h1 h2 h3
        have HO5 := hide (HO4.out.next h1 h2 h3)
        clear h1 h2 h3 HO4 HR4
        go_wp2
        go_roundw
        case rel => exact ⟨A5, k + 1, c5, l ++ [false], true, rfl, rfl, rfl, by omega, HO5, HST⟩
        case measure => simp [intOf]; omega
      · skip
        have HO4 := hide (HO3.out.step ((Keeps.refl NoB w3).alloc (.cells #[.bool false] 4)))
        have HR4 := hide (one_reads (Blk.new w3 4 #[.bool false]))
        clear HO3
        go_wp2_with (at_builtin; refine wpList_append_slab _ rfl (.tmp 25) (.tmp 31) 48 rfl 4 i0 _ 1 1 Try.underlying48 hi0 hz0 hz1 hz2 rfl (by omega) AO k cO (bools l) rfl HO4.out.slab (fun _ => True) true (some ⟨w3.heap.size, 0, none⟩) 1 1 [.bool false] rfl HR4.out (Nat.zero_lt_one) (fun u hu => by simp at hu; subst hu; rfl) (by unfold maxLen; omega) (by omega) ?_)
        intro A5 c5 w5 h1 h2 h3
        have HO5 := hide (HO4.out.next h1 h2 h3)
        clear h1 h2 h3 HO4 HR4
        go_wp2
        go_roundw
        case rel => exact ⟨A5, k + 1, c5, l ++ [false], true, rfl, rfl, rfl, by omega, HO5, HST⟩
        case measure => simp [intOf]; omega
      · skip
        have HO4 := hide (HO3.out.step ((Keeps.refl NoB w3).alloc (.cells #[.bool true] 4)))
        have HR4 := hide (one_reads (Blk.new w3 4 #[.bool true]))
        clear HO3
        go_wp2_with (at_builtin; refine wpList_append_slab _ rfl (.tmp 25) (.tmp 31) 48 rfl 4 i0 _ 1 1 Try.underlying48 hi0 hz0 hz1 hz2 rfl (by omega) AO k cO (bools l) rfl HO4.out.slab (fun _ => True) true (some ⟨w3.heap.size, 0, none⟩) 1 1 [.bool true] rfl HR4.out (Nat.zero_lt_one) (fun u hu => by simp at hu; subst hu; rfl) (by unfold maxLen; omega) (by omega) ?_)
        intro A5 c5 w5 h1 h2 h3
        have HO5 := hide (HO4.out.next h1 h2 h3)
        clear h1 h2 h3 HO4 HR4
        go_wp2
        go_roundw
        case rel => exact ⟨A5, k + 1, c5, l ++ [true], true, rfl, rfl, rfl, by omega, HO5, HST⟩
        case measure => simp [intOf]; omega
    · obtain rfl : k = N + 1 := by omega
      have HS := hide (sum_end HV.out HLT.out.1 HLT.out.2)
      have hk1 : ¬ ((N + 1 : Nat) : Int) ≤ (N : Int) := by omega
      obtain ⟨k, hkk⟩ : ∃ k, N + 1 = k := ⟨_, rfl⟩
      rw [hkk] at HO hk1 ⊢
      have hkl : k ≤ 100001 := by omega
      have HC := hide (cutb_any AO k cO l wr _ HO.out.bits (by omega))
      rw [HS.out] at HC
      clear HV hkk hlt
      go_wp2_with (go_at_call 59; refine HC.out.mono ?_; rintro e w5 ⟨m, rfl, hm, hb, hk⟩; have HB5 := hide hb; have HM := hide hm; have HK5 := hide (HO.out.keep.trans' hk (fun _ _ h => h) (fun _ _ h => h)); clear hb hm hk)
      go_ret
      exact ⟨AO, m, cO, rfl, HM.out, HB5.out, HK5.out⟩
end Go.Proofs.Ytfehciiidmgopaa
