/- The document's names in memory: End. -/
import Derived.Test.YthoaaihghgabcaaGreatRef2
namespace Go.Proofs.YthoaaihghgabcaaGreat
open Go.RowKit Go.Maps

def REndPost (w : World) (r : Nat) (B : Option Addr) (xs : List ByteArray) (R' : List Nm) (e : Ending) (w' : World) : Prop :=
  ∃ A B' c', e = .returned (.slice A xs.length xs.length) ∧ Reads w' (fun _ => True) true 1 A xs.length (xs.map Value.string) ∧ RefAt w' r B' c' R' ∧ Keeps (refFp r B) w w' ∧ Moved w B B'
set_option maxRecDepth 100000 in
set_option maxHeartbeats 2000000 in
theorem rend_any (r c : Nat) (B : Option Addr) (p : Int) (R R' : List Nm) (xs : List ByteArray) (w : World) (h : RefAt w r B c R) (hu : Up R) (ho : OncePid R) (hl : R.length ≤ 1000000) (hf : EndsTo R p xs R') :
    Calls Tryz.prog 17 #[.pointer (some ⟨r, 0, none⟩), .int .i64 p] w (REndPost w r B xs R') := by
  obtain ⟨n, hn⟩ : ∃ n, R.length = n := ⟨_, rfl⟩
  have k0 : w.cell? ⟨r, 0, none⟩ = some (.slice B n c) := by rw [← hn]; exact h.blk.cell 0
  have HROW := hide (show Slab w 42 2 B n c (nms R) from hn ▸ h.row)
  have HN := hide hn; have HF := hide hf; have HU := hide hu; have HO := hide ho; have H := hide h
  rw [hn] at hl
  clear h hn hf hu ho
  go_enter Tryz.func17, Tryz.ntmps17
  go_wp2_with fail
  go_loopg [5] n (fun g s5 wx => ∃ k : Nat, k ≤ n ∧ g = n - k ∧ s5 = .int .i64 k ∧ w = wx ∧ Hid (∀ j x, j < k → R[j]? = some x → x.2 ≠ p))
  case atStart => exact ⟨0, Nat.zero_le _, rfl, rfl, rfl, hide (fun j x h => by omega)⟩
  case round =>
    obtain ⟨k, hk, rfl, rfl, rfl, HI⟩ := hrel
    by_cases hlt : k < n
    · obtain ⟨⟨g, o, sp⟩, hA, hs, _, _, hc⟩ := HROW.out.reads.2 (by omega)
      simp only at hs
      subst hs hA
      obtain ⟨x, hx⟩ : ∃ x, R[k]? = some x := ⟨_, List.getElem?_eq_getElem (by have := HN.out; omega)⟩
      obtain ⟨e0, e1⟩ := nms_at hx
      obtain ⟨t, q⟩ := x
      have c0 : w.cell? ⟨g, o + k * 2, none⟩ = some (.string t) := (hc _ _ e0).1
      have c1 : w.cell? ⟨g, o + k * 2 + 1, none⟩ = some (.int .i64 q) := (hc _ _ e1).1
      have HX := hide hx
      have hkz : (k : Int) < n := by omega
      have hk0 : (0 : Int) ≤ k := by omega
      clear hc e0 e1 hx
      by_cases hq : q = p
      · have hqb : (q == p) = true := by simp [hq]
        have HE := hide (show xs = [t] ∧ R' = dropName t R from by
          rcases HF.out with ⟨s, h1, h2, h3⟩ | ⟨h1, _⟩
          · have e : (s, p) = (t, q) := HO.out.pid_one h1 (List.mem_of_getElem? HX.out) hq.symm
            injection e with e1 e2
            exact ⟨by rw [h2, e1], by rw [h3, e1]⟩
          · rw [hasP_at HX.out hq] at h1; cases h1)
        clear HI hq
        go_wp2_with fail
        refine (rtake_any r c (some ⟨g, o, none⟩) t R w H.out HU.out (by rw [HN.out]; exact hl)).mono ?_
        rintro e w2 ⟨B', c', rfl, h1, h2, h3⟩
        have HR := hide (And.intro h1 (And.intro h2 h3))
        clear h1 h2 h3
        go_wp2_with fail
        go_ret
        obtain ⟨rfl, rfl⟩ := HE.out
        have hv := Blk.new w2 9 #[.string t]
        exact ⟨_, B', c', rfl, ⟨rfl, fun _ => ⟨_, rfl, rfl, trivial, hv.lt, fun j u hu => ⟨by rw [hv.cell, ← hu]; simp, fun _ => hv.free _⟩⟩⟩, HR.out.1.fresh ((Keeps.refl NoB w2).alloc _), HR.out.2.1.alloc _, HR.out.2.2⟩
      · have hqb : (q == p) = false := int_ne hq
        have HT := hide hq
        clear hq
        go_wp2_with fail
        go_roundg (n - (k + 1))
        case measure => omega
        case rel => exact ⟨k + 1, by omega, rfl, by go_num, rfl, hide (fun j x hj hx => by
          rcases Nat.lt_succ_iff_lt_or_eq.1 hj with h | rfl
          · exact HI.out j x h hx
          · rw [HX.out] at hx; cases hx; exact HT.out)⟩
    · obtain rfl : n = k := by omega
      have hkz : ¬ (n : Int) < n := by omega
      have hno := hasP_all (fun j x hj hx => HI.out j x (by rw [← HN.out]; exact hj) hx)
      have HE := hide (show xs = [] ∧ R' = R from by
        rcases HF.out with ⟨s, h1, _⟩ | ⟨_, h2⟩
        · rw [hasP_iff.2 (mem_pids h1)] at hno; cases hno
        · exact h2)
      clear HI hno
      go_wp2_with fail
      go_ret
      obtain ⟨rfl, rfl⟩ := HE.out
      exact ⟨none, B, c, rfl, Reads.zero _ _ _ _ _, H.out, Keeps.refl _ _, Moved.same _ _⟩
end Go.Proofs.YthoaaihghgabcaaGreat
