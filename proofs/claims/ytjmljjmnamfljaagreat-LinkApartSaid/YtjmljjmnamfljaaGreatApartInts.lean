/- pigeonholekit: ApartInts. -/
import Derived.Test.YtjmljjmnamfljaaGreatApart
namespace Go.Proofs.YtjmljjmnamfljaaGreat
open Go.RowKit

theorem cellsL_succ (L : Nat → Ld) (k : Nat) : cellsL L (k + 1) = cellsL L k ++ [.slice (L k).A (L k).n (L k).c] := by
  unfold cellsL; rw [List.range_succ, List.map_append]; rfl

structure BagInv (w wr : World) (bb : Nat) (L : Nat → Ld) (k : Nat) (O : Option Addr) (cO : Nat) : Prop where
  blk : Blk wr bb 76 (bagC (.slice O k cO))
  row : Slab wr 25 1 O k cO (cellsL L k)
  keep : Keeps NoB w wr
  new : ∀ b, rowB O b → w.heap.size ≤ b

set_option maxRecDepth 100000 in
theorem apart_ints (K c0 : Nat) (Q : Option Addr) (L : Nat → Ld) (w : World) (BB : Nat → Prop) (F : Bool) (hQ : Reads w BB F 1 Q K (cellsL L K)) (hL : ∀ k, k < K → ∃ ys, Slab w 3 1 (L k).A (L k).n (L k).c ys) (ap : ∀ k j, k < K → j < K → k ≠ j → ∀ b, rowB (L k).A b → ¬ rowB (L j).A b) (hK : K ≤ 1000) (hn : ∀ k, k < K → (L k).n ≤ 100000) :
    Calls Tryz.prog 8 #[.slice Q K c0] w fun e w' => e = .returned (.bool true) ∧ Keeps (fpL L K) w w' := by
  have HQ := hide hQ; have HLS := hide hL; have HAP := hide ap; have HN := hide hn
  have H0 := hide (show BagInv w (w.alloc (.cells (bagC (.slice none 0 0)) 76)) w.heap.size L 0 none 0 from
    ⟨Blk.new w 76 _, by simpa [cellsL] using Slab.nil _ 25 1, (Keeps.refl NoB w).alloc _, fun b ⟨o, h⟩ => by cases h⟩)
  clear hQ hL ap hn
  go_enter Tryz.func8, Tryz.ntmps8
  go_wp2_with fail
  generalize w.alloc (.cells (bagC (.slice none 0 0)) 76) = w1 at *
  have HBB := hide (Nat.le_refl w.heap.size)
  have HBB := hide (show w.heap.size ≤ w.heap.size from HBB.out)
  generalize hbb : w.heap.size = bb at H0 ⊢
  have HBE := hide hbb
  clear hbb HBB
  go_loopg [4] K (fun g s4 wr => ∃ (k : Nat) (O : Option Addr) (cO : Nat), k ≤ K ∧ g = K - k ∧ s4 = .int .i64 k ∧ BagInv w wr bb L k O cO)
  case atStart => exact ⟨0, none, 0, Nat.zero_le _, rfl, rfl, H0.out⟩
  case round =>
    clear H0
    obtain ⟨k, O, cO, hk, rfl, rfl, hinv⟩ := hrel
    have HI := hide hinv
    clear hinv
    by_cases hlt : k < K
    · obtain ⟨⟨g, o, sp⟩, hA, hs, _, _, hc⟩ := (HQ.out.keep HI.out.keep (fun _ _ => id)).2 (by omega)
      simp only at hs
      subst hs hA
      obtain ⟨A, hA⟩ : ∃ A, (L k).A = A := ⟨_, rfl⟩
      obtain ⟨n, hn⟩ : ∃ n, (L k).n = n := ⟨_, rfl⟩
      obtain ⟨c, hcc⟩ : ∃ c, (L k).c = c := ⟨_, rfl⟩
      have c1 : wr.cell? ⟨g, o + k, none⟩ = some (.slice A n c) := by
        have := (hc k _ (cellsL_at hlt)).1
        rw [hA, hn, hcc] at this; exact this
      have HE := hide (show cellsL L (k + 1) = cellsL L k ++ [.slice A n c] from by rw [cellsL_succ, hA, hn, hcc])
      have hkz : (k : Int) < K := by omega
      have hk0 : (0 : Int) ≤ k := by omega
      clear hc hA hn hcc
      go_wp2_with fail
      refine (put_any bb k cO n c O A (cellsL L k) _ HI.out.blk HI.out.row (by omega)).mono ?_
      rintro e w2 ⟨rfl, O', cO', h1, h2, h3, h4⟩
      have HI2 := hide (show BagInv w w2 bb L (k + 1) O' cO' from ⟨h1, by rw [HE.out]; exact h2, HI.out.keep.trans' h3 (fun _ _ => id) (fun b hb hf => by
        rcases hf with e | hf
        · have := HBE.out; omega
        · have := HI.out.new b hf; omega), fun b hb => (h4 b hb).elim (HI.out.new b) (fun h => Nat.le_trans HI.out.keep.size h)⟩)
      clear h1 h2 h3 h4
      go_wp2_with fail
      go_roundg (K - (k + 1))
      case measure => omega
      case rel => exact ⟨k + 1, O', cO', by omega, rfl, by go_num, HI2.out⟩
    · obtain rfl : K = k := by omega
      have hkz : ¬ (K : Int) < K := by omega
      go_wp2_with fail
      refine (apart_any bb K cO O L _ HI.out.blk ⟨HI.out.row, fun k hk => by
        obtain ⟨ys, h⟩ := HLS.out k hk
        exact ⟨ys, h.fresh HI.out.keep, fun j hj => by omega⟩, HAP.out, Keeps.refl _ _⟩ hK HN.out).mono ?_
      rintro e w2 ⟨rfl, hk2⟩
      have HF := hide (HI.out.keep.trans' hk2 (fun _ _ h => h.elim) (fun _ _ h => h) : Keeps (fpL L K) w w2)
      clear hk2
      go_wp2_with fail
      go_ret
      exact ⟨rfl, HF.out⟩
end Go.Proofs.YtjmljjmnamfljaaGreat
