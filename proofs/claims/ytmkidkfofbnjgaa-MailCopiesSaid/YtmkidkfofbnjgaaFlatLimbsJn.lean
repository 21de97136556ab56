/- pigeonholekit: flatLimbs: lists of digits that lie apart. Printed by mkflatl.py. -/
import Derived.Test.YtmkidkfofbnjgaaMarkLJn
namespace Go.Proofs.Ytmkidkfofbnjgaa
open Go.RowKit

theorem Try.infoGL31 : (Try.prog.info? 31).map (fun i => (i.zero, i.size, i.bytes)) = some (some (.slice none 0 0), 1, 24) := by kernel_rfl
theorem Try.infoGE92 : (Try.prog.info? 92).map (fun i => (i.zero, i.size, i.bytes)) = some (some (.int .u32 0), 1, 4) := by kernel_rfl

set_option maxRecDepth 100000 in
set_option maxHeartbeats 8000000 in
theorem flat52 (K cO : Nat) (O : Option Addr) (L : Nat → Ld) (w : World) (h : P1 KL w w K O cO L (fun _ => 0)) (hK : K ≤ 100000) (hn : ∀ k, k < K → (L k).n ≤ 35184372087808) :
    Calls Try.prog 52 #[.slice O K cO] w fun e w' => e = .returned (.bool true) ∧ Keeps (fpL L K) w w' := by
  obtain ⟨i0, hi0, hz0, hz1, hz2⟩ := info_parts Try.infoGL31
  obtain ⟨j0, hj0, hy0, hy1, hy2⟩ := info_parts Try.infoGE92
  have H := hide h; have HNN := hide hn
  have HB0 := hide (show i0.bytes * K ≤ 281474976710656 from by rw [hz2]; omega)
  have HB1 := hide (show j0.bytes * 64 ≤ 281474976710656 from by rw [hy2]; omega)
  clear h hn
  go_enter Try.func52, Try.ntmps52
  go_wp2_with fail
  go_loopg [3] K (fun g s3 wr => ∃ k : Nat, k ≤ K ∧ g = K - k ∧ s3 = .int .i64 k ∧ P1 KL w wr K O cO L (fun x => if x < k then (L x).n else 0))
  case atStart => exact ⟨0, Nat.zero_le _, rfl, rfl, H.out.cong (fun _ _ => by simp)⟩
  case round =>
    obtain ⟨k, hk, rfl, rfl, hp⟩ := hrel
    have HP := hide hp
    clear hp
    by_cases hlt : k < K
    · obtain ⟨go, oo, hO, hc⟩ := HP.out.head hlt
      subst hO
      obtain ⟨n, hn⟩ : ∃ n, (L k).n = n := ⟨_, rfl⟩
      have HN := hide hn
      have hn5 : n ≤ 35184372087808 := hn ▸ HNN.out k hlt
      have hkz : (k : Int) < K := by omega
      have hk0 : (0 : Int) ≤ k := by omega
      have HP0 := hide (show P1 KL w wr K (some ⟨go, oo, none⟩) cO L (fun x => if x < k then (L x).n else if x = k then 0 else 0) from HP.out.cong (fun x _ => by split <;> simp))
      clear hn hc HP
      go_wp2_with fail
      go_loopg [4] n (fun g s4 wr => ∃ i : Nat, i ≤ n ∧ g = n - i ∧ s4 = .int .i64 i ∧ P1 KL w wr K (some ⟨go, oo, none⟩) cO L (fun x => if x < k then (L x).n else if x = k then i else 0))
      case atStart => exact ⟨0, Nat.zero_le _, rfl, rfl, HP0.out⟩
      case round =>
        clear HP0
        obtain ⟨i, hi, rfl, rfl, hp⟩ := hrel
        have HP := hide hp
        clear hp
        obtain ⟨go', oo', hO', hc⟩ := HP.out.head hlt
        injection hO' with hO'; injection hO' with e1 e2; subst e1 e2
        rw [HN.out] at hc
        obtain ⟨A, hA⟩ : ∃ A, (L k).A = A := ⟨_, rfl⟩
        obtain ⟨c, hcc⟩ : ∃ c, (L k).c = c := ⟨_, rfl⟩
        rw [hA, hcc] at hc
        have HA := hide hA; have HCC := hide hcc
        clear hA hcc
        by_cases hil : i < n
        · have HML := hide (show Marked KL wr A n c k i from by have := HP.out.ls k hlt; rw [HA.out, HN.out, HCC.out] at this; simpa using this)
          obtain ⟨g, o, hA2, hpl⟩ := HML.out.place hil
          subst hA2
          have hiz : (i : Int) < n := by omega
          have hi0' : (0 : Int) ≤ i := by omega
          have HPL := hide hpl
          clear hpl
          as_aux_lemma =>
          go_wp2_with fail
          refine order_begin (fun W => Keeps NoB wr W) (fun j => !(j == 10)) (by kernel_rfl) 11 rfl ?_
          have HS : Keeps NoB wr wr.drew := (Keeps.refl _ _).drew
          have HC := hide hc
          clear hc
          refine order_pure (i := 0) rfl (by kernel_rfl) (fun _ _ _ h => h) (.inl ⟨rfl, fun _ => by go_simp; rfl⟩) ?_
          try simp only [Act.put, List.setIfInBounds_toArray, List.set_cons_succ, List.set_cons_zero]
          refine order_pure (i := 1) rfl (by kernel_rfl) (fun _ _ _ h => h) (.inl ⟨rfl, fun _ => by go_simp; rfl⟩) ?_
          try simp only [Act.put, List.setIfInBounds_toArray, List.set_cons_succ, List.set_cons_zero]
          refine order_pure (i := 2) rfl (by kernel_rfl) (fun _ _ _ h => h) (.inl ⟨rfl, fun _ => by go_simp; rfl⟩) ?_
          try simp only [Act.put, List.setIfInBounds_toArray, List.set_cons_succ, List.set_cons_zero]
          refine order_held (i := 3) rfl (by kernel_rfl) (fun _ _ _ h => h) (.inl ⟨rfl, fun W hW => by
            have q0 : W.cell? ⟨go, oo + k, none⟩ = some (.slice (some ⟨g, o, none⟩) n c) := hW.cell id HC.out
            go_simp; rfl⟩) HS ?_
          try simp only [Act.put, List.setIfInBounds_toArray, List.set_cons_succ, List.set_cons_zero]
          refine order_pure (i := 4) rfl (by kernel_rfl) (fun _ _ _ h => h) (.inl ⟨rfl, fun _ => by go_simp; rfl⟩) ?_
          try simp only [Act.put, List.setIfInBounds_toArray, List.set_cons_succ, List.set_cons_zero]
          refine order_pure (i := 5) rfl (by kernel_rfl) (fun _ _ _ h => h) (.inl ⟨rfl, fun _ => by go_simp; rfl⟩) ?_
          try simp only [Act.put, List.setIfInBounds_toArray, List.set_cons_succ, List.set_cons_zero]
          refine order_pure (i := 6) rfl (by kernel_rfl) (fun _ _ _ h => h) (.inl ⟨rfl, fun _ => by go_simp; rfl⟩) ?_
          try simp only [Act.put, List.setIfInBounds_toArray, List.set_cons_succ, List.set_cons_zero]
          refine order_one (i := 7) rfl (by kernel_rfl) (fun K hK => ?_)
          go_simp
          refine (mark_big _ _ _ _ (by omega) (by omega) (by omega) (by omega) (mkI_eq k i)).mono ?_
          rintro e w4 ⟨rfl, rfl⟩
          refine hK _ _ (fun _ _ => HS) ?_
          have HP4 := hide (HP.out.fresh HS)
          have HM4 := hide (HML.out.fresh HS)
          obtain ⟨v0, p0, f0⟩ := HPL.out 0 (by show 0 < 1; omega)
          have gl : g < wr.heap.size := HML.out.lt ⟨o, rfl⟩
          have p0 : wr.drew.cell? ⟨g, o + i, none⟩ = some v0 := by have := HS.cell id p0; simpa using this
          have f0 : wr.drew.frozen? ⟨g, o + i, none⟩ = false := by have := (HS.frozen gl id).trans f0; simpa using this
          have HP2 := hide (HP4.out.put (j := i + 1) (w' := wr.drew.setCell ⟨g, o + i, none⟩ (.int .u32 (IntKind.u32.wrap (mkI k i)))) hlt (by
              rw [HA.out]
              exact (Keeps.refl (rowB (some ⟨g, o, none⟩)) wr.drew).setCell (p := ⟨g, o + i, none⟩) (.inl ⟨o, rfl⟩) _) (by
              rw [HA.out, HN.out, HCC.out]; exact limb_put HM4.out hil))
          have HP2 := hide (HP2.out.cong (q := fun x => if x < k then (L x).n else if x = k then i + 1 else 0) (fun x _ => by
            by_cases e : x = k
            · subst e; simp
            · simp [e]))
          clear hK HS HP4 HM4 HP HML HPL gl
          try simp only [Act.put, List.setIfInBounds_toArray, List.set_cons_succ, List.set_cons_zero]
          refine order_pure (i := 8) rfl (by kernel_rfl) (fun _ _ _ h => h) (.inl ⟨rfl, fun _ => by go_simp; rfl⟩) ?_
          try simp only [Act.put, List.setIfInBounds_toArray, List.set_cons_succ, List.set_cons_zero]
          refine order_pure (i := 9) rfl (by kernel_rfl) (fun _ _ _ h => h) (.inl ⟨rfl, fun _ => by go_simp; rfl⟩) ?_
          try simp only [Act.put, List.setIfInBounds_toArray, List.set_cons_succ, List.set_cons_zero]
          refine order_one (i := 10) rfl (by kernel_rfl) (fun K hK => ?_)
          go_simp
          refine hK _ _ (fun h => absurd h (by decide)) ?_
          clear hK
          try simp only [Act.put, List.setIfInBounds_toArray, List.set_cons_succ, List.set_cons_zero]
          refine order_done (by kernel_rfl) ?_
          go_wp2_with fail
          go_roundg (n - (i + 1))
          case measure => omega
          case rel => exact ⟨i + 1, by omega, rfl, by go_num, HP2.out⟩
        · obtain rfl : n = i := by omega
          have hiz : ¬ (n : Int) < n := by omega
          have HP2 := hide (HP.out.cong (q := fun x => if x < k + 1 then (L x).n else 0) (fun x _ => by
            by_cases e : x = k
            · subst e; simp [HN.out]
            · by_cases e2 : x < k
              · simp [e2, show x < k + 1 from by omega]
              · simp [e2, e, show ¬ x < k + 1 from by omega]))
          go_wp2_with fail
          go_roundg (K - (k + 1))
          case measure => omega
          case rel => exact ⟨k + 1, by omega, rfl, by go_num, HP2.out⟩
    · obtain rfl : K = k := by omega
      have hkz : ¬ (K : Int) < K := by omega
      have HP1 := hide (HP.out.cong (q := fun x => (L x).n) (fun x hx => by simp [hx]))
      clear HP
      go_wp2_with (refine wpList_make_full _ rfl _ _ 69 rfl wr.heap.size 31 i0 _ 1 Try.underlying69 hi0 hz0 hz1 .i64 .i64 (K : Int) (K : Int) K rfl rfl rfl rfl HB0.out (by unfold maxLen; omega) (Nat.le_refl _) ?_)
      intro w2 how hg
      have hk2 : Keeps NoB wr w2 := (Keeps.refl NoB wr).grown hg (fun k h _ => by cases h)
      obtain ⟨_, _, hv, hsl⟩ := Slab.of_own how
      injection hv with hv1 hv2 hv3
      subst hv1 hv3
      have HQ0 := hide (show P2 KL w w2 K O cO L wr.heap.size (fun _ => ⟨none, 0, 0⟩) 0 (fun x => (L x).n + 64) from
        ⟨HP1.out.fresh hk2, ⟨_, hsl, fun k hk => by omega⟩, fun k hk => by omega, fun k j hk => by omega, fun k j hk => by omega, HP1.out.kp.size, fun hr => by have := HP1.out.out.lt hr; omega⟩)
      clear how hg hk2 hsl HP1
      generalize wr.heap.size = gb at *
      clear wr
      go_wp2_with fail
      go_loopg [6, 7] K (fun g s6 _ wr => ∃ (k : Nat) (G : Nat → Ld), k ≤ K ∧ g = K - k ∧ s6 = .int .i64 k ∧ P2 KL w wr K O cO L gb G k (fun x => (L x).n + 64))
      case atStart => exact ⟨0, _, Nat.zero_le _, rfl, rfl, HQ0.out⟩
      case round =>
        clear HQ0
        obtain ⟨k, G, hk, rfl, rfl, hq⟩ := hrel
        have HQ := hide hq
        clear hq
        by_cases hlt : k < K
        · obtain ⟨go, oo, hO, hc⟩ := HQ.out.base.head hlt
          subst hO
          obtain ⟨n, hn⟩ : ∃ n, (L k).n = n := ⟨_, rfl⟩
          have HN := hide hn
          have hn5 : n ≤ 35184372087808 := hn ▸ HNN.out k hlt
          obtain ⟨A, hA⟩ : ∃ A, (L k).A = A := ⟨_, rfl⟩
          obtain ⟨c, hcc⟩ : ∃ c, (L k).c = c := ⟨_, rfl⟩
          rw [hn, hA, hcc] at hc
          have hkz : (k : Int) < K := by omega
          have hk0 : (0 : Int) ≤ k := by omega
          have HG0 := hide (show Marked KL wr A (n + 0) c k (n + 0) from by
            have := HQ.out.base.ls k hlt
            rw [hA, hn, hcc] at this; exact this)
          have HM0 := hide (show Mine w K L G k A c from .inl ⟨hA.symm, hcc.symm⟩)
          clear hn hA hcc
          go_wp2_with fail
          go_loopg [7, 8] 64 (fun g s7 s8 wx => ∃ (i : Nat) (A' : Option Addr) (c' : Nat), i ≤ 64 ∧ g = 64 - i ∧ s8 = .int .i64 i ∧ s7 = .slice A' (n + i) c' ∧ P2 KL w wx K (some ⟨go, oo, none⟩) cO L gb G k (fun x => (L x).n + 64) ∧ Mine w K L G k A' c' ∧ Marked KL wx A' (n + i) c' k (n + i))
          case atStart => exact ⟨0, A, c, by omega, rfl, rfl, rfl, HQ.out, HM0.out, HG0.out⟩
          case round =>
            clear HQ HM0 HG0 hc
            obtain ⟨i, A', c', hi, rfl, rfl, rfl, hq, hm, hs⟩ := hrel
            have HQ := hide hq; have HM := hide hm; have HS := hide hs
            clear hq hm hs
            obtain ⟨go', oo', hO', hc⟩ := HQ.out.base.head hlt
            injection hO' with hO'; injection hO' with e1 e2; subst e1 e2
            rw [HN.out] at hc
            by_cases hil : i < 64
            · have hiz : (i : Int) < 64 := by omega
              have hi0' : (0 : Int) ≤ i := by omega
              obtain ⟨Ak, hAk⟩ : ∃ Ak, (L k).A = Ak := ⟨_, rfl⟩
              obtain ⟨ck, hck⟩ : ∃ ck, (L k).c = ck := ⟨_, rfl⟩
              rw [hAk, hck] at hc
              clear hAk hck
              have HBD := hide (show n + i + 1 ≤ maxLen ∧ (n + i + 1) * 4 ≤ 140737488355328 from by unfold maxLen; omega)
              have hmk : 1000003 * ((k : Int) + 7) + ((n : Int) + (i : Int)) = mkI k (n + i) := by unfold mkI; omega
              have HMK := hide hmk
              clear hmk
              as_aux_lemma =>
              go_wp2_with fail
              refine (mark_big _ _ _ _ (by omega) (by omega) (by omega) (by omega) HMK.out).mono ?_
              rintro e w4 ⟨rfl, rfl⟩
              have HQ4 := hide (HQ.out.fresh ((Keeps.refl NoB wr).alloc (.cells #[.int .u32 (IntKind.u32.wrap (mkI k (n + i)))] 92)))
              have HS4 := hide (HS.out.fresh ((Keeps.refl NoB wr).alloc (.cells #[.int .u32 (IntKind.u32.wrap (mkI k (n + i)))] 92)))
              clear hc HQ HS
              obtain ⟨ys, hs1, hs2⟩ := HS4.out
              have HS1 := hide hs1; have HS2 := hide hs2
              clear hs1 hs2
              go_wp2_with (at_builtin; go_loud (refine wpList_append_grew _ rfl (.tmp 58) (.tmp 69) 31 rfl 92 j0 _ 1 4 Try.underlying31 hj0 hy0 hy1 hy2 rfl (by omega) A' (n + i) c' ys rfl HS1.out (fun _ => True) true (some ⟨_, 0, none⟩) 1 1 [.int .u32 (IntKind.u32.wrap (mkI k (n + i)))] rfl (one_reads1 (Blk.new _ 92 #[.int .u32 (IntKind.u32.wrap (mkI k (n + i)))])) (by omega) (by intro u hu; simp only [List.mem_cons, List.not_mem_nil, or_false] at hu; subst hu; rfl) HBD.out.1 HBD.out.2 ?_))
              intro A2 c2 w2 h1 h2
              have hyl : ys.length = (n + i) * 1 := HS1.out.1
              have hgr := HQ4.out.grow (i := i) (c' := c2) (A' := A2) (n' := n + i + 1) (ys := ys) hlt (by rw [HN.out]; exact HS1.out) HM.out (by rw [HN.out]; exact Marked.more (S := KL) (n := n + i) (m := 1) (q := n) HS2.out hyl h1 (by omega)) (by rw [HN.out]; omega) h2
              have HQ2 := hide hgr.1; have HM2 := hide hgr.2
              have HS3 := hide (show Marked KL w2 A2 (n + (i + 1)) c2 k (n + (i + 1)) from Marked.one (S := KL) (n := n + i) HS2.out hyl h1)
              clear h1 h2 hgr HS4 HS1 HS2 HQ4 HM hyl
              go_wp2_with fail
              go_roundg (64 - (i + 1))
              case measure => omega
              case rel => exact ⟨i + 1, A2, c2, by omega, rfl, by go_num, rfl, HQ2.out, HM2.out, HS3.out⟩
            · obtain rfl : i = 64 := by omega
              obtain ⟨zv, g0, f0⟩ := HQ.out.slot hlt
              have HQ2 := hide (HQ.out.lay hlt (A := A') (c := c') (by rw [HN.out]; exact HS.out) HM.out)
              have HQ2 := hide (show P2 KL w (wr.setCell ⟨gb, k, none⟩ (.slice A' (n + 64) c')) K (some ⟨go, oo, none⟩) cO L gb (fun x => if x = k then ⟨A', 0, c'⟩ else G x) (k + 1) (fun x => (L x).n + 64) from HN.out ▸ HQ2.out)
              clear HQ HS HM hc
              go_wp2_with fail
              go_roundg (K - (k + 1))
              case measure => omega
              case rel => exact ⟨k + 1, _, by omega, rfl, by go_num, HQ2.out⟩
        · obtain rfl : K = k := by omega
          have hkz : ¬ (K : Int) < K := by omega
          go_wp2_with fail
          go_loopg [9] K (fun g s9 wx => ∃ k : Nat, k ≤ K ∧ g = K - k ∧ s9 = .int .i64 k ∧ Keeps NoB wr wx)
          case atStart => exact ⟨0, Nat.zero_le _, rfl, rfl, Keeps.refl _ _⟩
          case round =>
            obtain ⟨k, hk, rfl, rfl, hkp⟩ := hrel
            have HQ3 := hide (HQ.out.fresh hkp)
            have HKP := hide hkp
            clear hkp
            by_cases hlt : k < K
            · obtain ⟨go, oo, hO, hc⟩ := HQ3.out.base.head hlt
              subst hO
              have hcg := HQ3.out.head (k := k) hlt
              obtain ⟨n, hn⟩ : ∃ n, (L k).n = n := ⟨_, rfl⟩
              have hn5 : n ≤ 35184372087808 := hn ▸ HNN.out k hlt
              obtain ⟨A, hA⟩ : ∃ A, (L k).A = A := ⟨_, rfl⟩
              obtain ⟨c, hcc⟩ : ∃ c, (L k).c = c := ⟨_, rfl⟩
              obtain ⟨A2, hA2⟩ : ∃ A2, (G k).A = A2 := ⟨_, rfl⟩
              obtain ⟨c2, hcc2⟩ : ∃ c2, (G k).c = c2 := ⟨_, rfl⟩
              rw [hn, hA, hcc] at hc
              rw [hn, hA2, hcc2] at hcg
              have HC := hide hc; have HCG := hide hcg
              have HML := hide (show Marked KL wr A n c k n from by have := HQ3.out.base.ls k hlt; rw [hA, hn, hcc] at this; exact this)
              have HMG := hide (show Marked KL wr A2 (n + 64) c2 k (n + 64) from by have := HQ3.out.gm k hlt; rw [hA2, hn, hcc2] at this; exact this)
              have hkz : (k : Int) < K := by omega
              have hk0 : (0 : Int) ≤ k := by omega
              clear hn hA hcc hA2 hcc2 hc hcg HQ3
              go_wp2_with fail
              generalize hwq : wr = wq at *
              clear hwq
              go_loopg [10] (n + 64) (fun g s10 wx => ∃ i : Nat, i ≤ n + 64 ∧ g = n + 64 - i ∧ s10 = .int .i64 i ∧ Keeps NoB wq wx)
              case atStart => exact ⟨0, Nat.zero_le _, rfl, rfl, Keeps.refl _ _⟩
              case round =>
                obtain ⟨i, hi, rfl, rfl, hki⟩ := hrel
                have hcg : wr.cell? ⟨gb, k, none⟩ = some (.slice A2 (n + 64) c2) := hki.cell id HCG.out
                have hc : wr.cell? ⟨go, oo + k, none⟩ = some (.slice A n c) := hki.cell id HC.out
                have HKI := hide hki
                by_cases hil : i < n + 64
                · obtain ⟨g2, o2, e2, x2⟩ := HMG.out.cells hil (Nat.le_refl _)
                  subst e2
                  have x20' := x2 0 _ (by show 0 < 1; omega) rfl; have x20 := hide (show _ = some (Value.int .u32 (IntKind.u32.wrap (mkI k i))) from x20'); clear x20'
                  have hiz : (i : Int) < (n : Int) + 64 := by omega
                  have hi0' : (0 : Int) ≤ i := by omega
                  by_cases hin : i < n
                  · obtain ⟨g1, o1, e1, x1⟩ := HML.out.cells hin (Nat.le_refl _)
                    subst e1
                    have x10' := x1 0 _ (by show 0 < 1; omega) rfl; have x10 := hide (show _ = some (Value.int .u32 (IntKind.u32.wrap (mkI k i))) from x10'); clear x10'
                    have hinz : (i : Int) < n := by omega
                    clear x1 x2
                    as_aux_lemma =>
                    go_wp2_with fail
                    refine order_begin (fun W => Keeps NoB wq W) (fun _ => true) (by kernel_rfl) 37 rfl ?_
                    have HS : Keeps NoB wq wr.drew := HKI.out.drew
                    clear hki hc hcg
                    refine order_pure (i := 0) rfl (by kernel_rfl) (fun _ _ _ h => h) (.inl ⟨rfl, fun _ => by go_simp; rfl⟩) ?_
                    try simp only [Act.put, List.setIfInBounds_toArray, List.set_cons_succ, List.set_cons_zero]
                    refine order_pure (i := 1) rfl (by kernel_rfl) (fun _ _ _ h => h) (.inl ⟨rfl, fun _ => by go_simp; rfl⟩) ?_
                    try simp only [Act.put, List.setIfInBounds_toArray, List.set_cons_succ, List.set_cons_zero]
                    refine order_pure (i := 2) rfl (by kernel_rfl) (fun _ _ _ h => h) (.inl ⟨rfl, fun _ => by go_simp; rfl⟩) ?_
                    try simp only [Act.put, List.setIfInBounds_toArray, List.set_cons_succ, List.set_cons_zero]
                    refine order_held (i := 3) rfl (by kernel_rfl) (fun _ _ _ h => h) (.inl ⟨rfl, fun W hW => by
                      have q0 : W.cell? ⟨gb, k, none⟩ = some (.slice (some ⟨g2, o2, none⟩) (n + 64) c2) := hW.cell id HCG.out
                      go_simp; rfl⟩) HS ?_
                    try simp only [Act.put, List.setIfInBounds_toArray, List.set_cons_succ, List.set_cons_zero]
                    refine order_pure (i := 4) rfl (by kernel_rfl) (fun _ _ _ h => h) (.inl ⟨rfl, fun _ => by go_simp; rfl⟩) ?_
                    try simp only [Act.put, List.setIfInBounds_toArray, List.set_cons_succ, List.set_cons_zero]
                    refine order_pure (i := 5) rfl (by kernel_rfl) (fun _ _ _ h => h) (.inl ⟨rfl, fun _ => by go_simp; rfl⟩) ?_
                    try simp only [Act.put, List.setIfInBounds_toArray, List.set_cons_succ, List.set_cons_zero]
                    refine order_held (i := 6) rfl (by kernel_rfl) (fun _ _ _ h => h) (.inl ⟨rfl, fun W hW => by
                      have q0 : W.cell? ⟨g2, o2 + i, none⟩ = some (.int .u32 (IntKind.u32.wrap (mkI k i))) := (by have := hW.cell id x20.out; simpa using this)
                      go_simp; rfl⟩) HS ?_
                    try simp only [Act.put, List.setIfInBounds_toArray, List.set_cons_succ, List.set_cons_zero]
                    refine order_pure (i := 7) rfl (by kernel_rfl) (fun _ _ _ h => h) (.inl ⟨rfl, fun _ => by go_simp; rfl⟩) ?_
                    try simp only [Act.put, List.setIfInBounds_toArray, List.set_cons_succ, List.set_cons_zero]
                    refine order_pure (i := 8) rfl (by kernel_rfl) (fun _ _ _ h => h) (.inl ⟨rfl, fun _ => by go_simp; rfl⟩) ?_
                    try simp only [Act.put, List.setIfInBounds_toArray, List.set_cons_succ, List.set_cons_zero]
                    refine order_one (i := 9) rfl (by kernel_rfl) (fun K hK => ?_)
                    go_simp
                    refine (mark_big _ _ _ _ (by omega) (by omega) (by omega) (by omega) (mkI_eq k i)).mono ?_
                    rintro e w4 ⟨rfl, rfl⟩
                    refine hK _ _ (fun _ _ => HS) ?_
                    clear hK
                    try simp only [Act.put, List.setIfInBounds_toArray, List.set_cons_succ, List.set_cons_zero]
                    refine order_pure (i := 10) rfl (by kernel_rfl) (fun _ _ _ h => h) (.inl ⟨rfl, fun _ => by go_simp; rfl⟩) ?_
                    try simp only [Act.put, List.setIfInBounds_toArray, List.set_cons_succ, List.set_cons_zero]
                    refine order_pure (i := 11) rfl (by kernel_rfl) (fun _ _ _ h => h) (.inl ⟨rfl, fun _ => by go_simp; rfl⟩) ?_
                    try simp only [Act.put, List.setIfInBounds_toArray, List.set_cons_succ, List.set_cons_zero]
                    refine order_pure (i := 12) rfl (by kernel_rfl) (fun _ _ _ h => h) (.inl ⟨rfl, fun _ => by go_simp; rfl⟩) ?_
                    try simp only [Act.put, List.setIfInBounds_toArray, List.set_cons_succ, List.set_cons_zero]
                    refine order_pure (i := 13) rfl (by kernel_rfl) (fun _ _ _ h => h) (.inl ⟨rfl, fun _ => by go_simp; rfl⟩) ?_
                    try simp only [Act.put, List.setIfInBounds_toArray, List.set_cons_succ, List.set_cons_zero]
                    refine order_pure (i := 14) rfl (by kernel_rfl) (fun _ _ _ h => h) (.inl ⟨rfl, fun _ => by go_simp; rfl⟩) ?_
                    try simp only [Act.put, List.setIfInBounds_toArray, List.set_cons_succ, List.set_cons_zero]
                    refine order_pure (i := 15) rfl (by kernel_rfl) (fun _ _ _ h => h) (.inl ⟨rfl, fun _ => by go_simp; rfl⟩) ?_
                    try simp only [Act.put, List.setIfInBounds_toArray, List.set_cons_succ, List.set_cons_zero]
                    refine order_pure (i := 16) rfl (by kernel_rfl) (fun _ _ _ h => h) (.inl ⟨rfl, fun _ => by go_simp; rfl⟩) ?_
                    try simp only [Act.put, List.setIfInBounds_toArray, List.set_cons_succ, List.set_cons_zero]
                    refine order_pure (i := 17) rfl (by kernel_rfl) (fun _ _ _ h => h) (.inl ⟨rfl, fun _ => by go_simp; rfl⟩) ?_
                    try simp only [Act.put, List.setIfInBounds_toArray, List.set_cons_succ, List.set_cons_zero]
                    refine order_held (i := 18) rfl (by kernel_rfl) (fun _ _ _ h => h) (.inl ⟨rfl, fun W hW => by
                      have q0 : W.cell? ⟨go, oo + k, none⟩ = some (.slice (some ⟨g1, o1, none⟩) n c) := hW.cell id HC.out
                      go_simp; rfl⟩) HS ?_
                    try simp only [Act.put, List.setIfInBounds_toArray, List.set_cons_succ, List.set_cons_zero]
                    refine order_pure (i := 19) rfl (by kernel_rfl) (fun _ _ _ h => h) (.inl ⟨rfl, fun _ => by go_simp; rfl⟩) ?_
                    try simp only [Act.put, List.setIfInBounds_toArray, List.set_cons_succ, List.set_cons_zero]
                    refine order_pure (i := 20) rfl (by kernel_rfl) (fun _ _ _ h => h) (.inl ⟨rfl, fun _ => by go_simp; rfl⟩) ?_
                    try simp only [Act.put, List.setIfInBounds_toArray, List.set_cons_succ, List.set_cons_zero]
                    refine order_pure (i := 21) rfl (by kernel_rfl) (fun _ _ _ h => h) (.inl ⟨rfl, fun _ => by go_simp; rfl⟩) ?_
                    try simp only [Act.put, List.setIfInBounds_toArray, List.set_cons_succ, List.set_cons_zero]
                    refine order_pure (i := 22) rfl (by kernel_rfl) (fun _ _ _ h => h) (.inl ⟨rfl, fun _ => by go_simp; rfl⟩) ?_
                    try simp only [Act.put, List.setIfInBounds_toArray, List.set_cons_succ, List.set_cons_zero]
                    refine order_pure (i := 23) rfl (by kernel_rfl) (fun _ _ _ h => h) (.inl ⟨rfl, fun _ => by go_simp; rfl⟩) ?_
                    try simp only [Act.put, List.setIfInBounds_toArray, List.set_cons_succ, List.set_cons_zero]
                    refine order_pure (i := 24) rfl (by kernel_rfl) (fun _ _ _ h => h) (.inl ⟨rfl, fun _ => by go_simp; rfl⟩) ?_
                    try simp only [Act.put, List.setIfInBounds_toArray, List.set_cons_succ, List.set_cons_zero]
                    refine order_held (i := 25) rfl (by kernel_rfl) (fun _ _ _ h => h) (.inl ⟨rfl, fun W hW => by
                      have q0 : W.cell? ⟨go, oo + k, none⟩ = some (.slice (some ⟨g1, o1, none⟩) n c) := hW.cell id HC.out
                      go_simp; rfl⟩) HS ?_
                    try simp only [Act.put, List.setIfInBounds_toArray, List.set_cons_succ, List.set_cons_zero]
                    refine order_pure (i := 26) rfl (by kernel_rfl) (fun _ _ _ h => h) (.inl ⟨rfl, fun _ => by go_simp; rfl⟩) ?_
                    try simp only [Act.put, List.setIfInBounds_toArray, List.set_cons_succ, List.set_cons_zero]
                    refine order_pure (i := 27) rfl (by kernel_rfl) (fun _ _ _ h => h) (.inl ⟨rfl, fun _ => by go_simp; rfl⟩) ?_
                    try simp only [Act.put, List.setIfInBounds_toArray, List.set_cons_succ, List.set_cons_zero]
                    refine order_held (i := 28) rfl (by kernel_rfl) (fun _ _ _ h => h) (.inl ⟨rfl, fun W hW => by
                      have q0 : W.cell? ⟨g1, o1 + i, none⟩ = some (.int .u32 (IntKind.u32.wrap (mkI k i))) := (by have := hW.cell id x10.out; simpa using this)
                      go_simp; rfl⟩) HS ?_
                    try simp only [Act.put, List.setIfInBounds_toArray, List.set_cons_succ, List.set_cons_zero]
                    refine order_pure (i := 29) rfl (by kernel_rfl) (fun _ _ _ h => h) (.inl ⟨rfl, fun _ => by go_simp; rfl⟩) ?_
                    try simp only [Act.put, List.setIfInBounds_toArray, List.set_cons_succ, List.set_cons_zero]
                    refine order_pure (i := 30) rfl (by kernel_rfl) (fun _ _ _ h => h) (.inl ⟨rfl, fun _ => by go_simp; rfl⟩) ?_
                    try simp only [Act.put, List.setIfInBounds_toArray, List.set_cons_succ, List.set_cons_zero]
                    refine order_one (i := 31) rfl (by kernel_rfl) (fun K hK => ?_)
                    go_simp
                    refine (mark_big _ _ _ _ (by omega) (by omega) (by omega) (by omega) (mkI_eq k i)).mono ?_
                    rintro e w5 ⟨rfl, rfl⟩
                    have hk5 := HS
                    refine hK _ _ (fun _ _ => hk5) ?_
                    clear hK
                    try simp only [Act.put, List.setIfInBounds_toArray, List.set_cons_succ, List.set_cons_zero]
                    refine order_pure (i := 32) rfl (by kernel_rfl) (fun _ _ _ h => h) (.inl ⟨rfl, fun _ => by go_simp; rfl⟩) ?_
                    try simp only [Act.put, List.setIfInBounds_toArray, List.set_cons_succ, List.set_cons_zero]
                    refine order_pure (i := 33) rfl (by kernel_rfl) (fun _ _ _ h => h) (.inl ⟨rfl, fun _ => by go_simp; rfl⟩) ?_
                    try simp only [Act.put, List.setIfInBounds_toArray, List.set_cons_succ, List.set_cons_zero]
                    refine order_pure (i := 34) rfl (by kernel_rfl) (fun _ _ _ h => h) (.inl ⟨rfl, fun _ => by go_simp; rfl⟩) ?_
                    try simp only [Act.put, List.setIfInBounds_toArray, List.set_cons_succ, List.set_cons_zero]
                    refine order_pure (i := 35) rfl (by kernel_rfl) (fun _ _ _ h => h) (.inl ⟨rfl, fun _ => by go_simp; rfl⟩) ?_
                    try simp only [Act.put, List.setIfInBounds_toArray, List.set_cons_succ, List.set_cons_zero]
                    refine order_pure (i := 36) rfl (by kernel_rfl) (fun _ _ _ h => h) (.inl ⟨rfl, fun _ => by go_simp; rfl⟩) ?_
                    try simp only [Act.put, List.setIfInBounds_toArray, List.set_cons_succ, List.set_cons_zero]
                    refine order_done (by kernel_rfl) ?_
                    clear HS
                    have HK5 := hide hk5
                    clear hk5
                    go_wp2_with fail
                    go_roundg (n + 64 - (i + 1))
                    case measure => omega
                    case rel => exact ⟨i + 1, by omega, rfl, by go_num, HK5.out⟩
                  · have hinz : ¬ (i : Int) < n := by omega
                    clear x2
                    as_aux_lemma =>
                    go_wp2_with fail
                    refine order_begin (fun W => Keeps NoB wq W) (fun _ => true) (by kernel_rfl) 37 rfl ?_
                    have HS : Keeps NoB wq wr.drew := HKI.out.drew
                    clear hki hc hcg
                    refine order_pure (i := 0) rfl (by kernel_rfl) (fun _ _ _ h => h) (.inl ⟨rfl, fun _ => by go_simp; rfl⟩) ?_
                    try simp only [Act.put, List.setIfInBounds_toArray, List.set_cons_succ, List.set_cons_zero]
                    refine order_pure (i := 1) rfl (by kernel_rfl) (fun _ _ _ h => h) (.inl ⟨rfl, fun _ => by go_simp; rfl⟩) ?_
                    try simp only [Act.put, List.setIfInBounds_toArray, List.set_cons_succ, List.set_cons_zero]
                    refine order_pure (i := 2) rfl (by kernel_rfl) (fun _ _ _ h => h) (.inl ⟨rfl, fun _ => by go_simp; rfl⟩) ?_
                    try simp only [Act.put, List.setIfInBounds_toArray, List.set_cons_succ, List.set_cons_zero]
                    refine order_held (i := 3) rfl (by kernel_rfl) (fun _ _ _ h => h) (.inl ⟨rfl, fun W hW => by
                      have q0 : W.cell? ⟨gb, k, none⟩ = some (.slice (some ⟨g2, o2, none⟩) (n + 64) c2) := hW.cell id HCG.out
                      go_simp; rfl⟩) HS ?_
                    try simp only [Act.put, List.setIfInBounds_toArray, List.set_cons_succ, List.set_cons_zero]
                    refine order_pure (i := 4) rfl (by kernel_rfl) (fun _ _ _ h => h) (.inl ⟨rfl, fun _ => by go_simp; rfl⟩) ?_
                    try simp only [Act.put, List.setIfInBounds_toArray, List.set_cons_succ, List.set_cons_zero]
                    refine order_pure (i := 5) rfl (by kernel_rfl) (fun _ _ _ h => h) (.inl ⟨rfl, fun _ => by go_simp; rfl⟩) ?_
                    try simp only [Act.put, List.setIfInBounds_toArray, List.set_cons_succ, List.set_cons_zero]
                    refine order_held (i := 6) rfl (by kernel_rfl) (fun _ _ _ h => h) (.inl ⟨rfl, fun W hW => by
                      have q0 : W.cell? ⟨g2, o2 + i, none⟩ = some (.int .u32 (IntKind.u32.wrap (mkI k i))) := (by have := hW.cell id x20.out; simpa using this)
                      go_simp; rfl⟩) HS ?_
                    try simp only [Act.put, List.setIfInBounds_toArray, List.set_cons_succ, List.set_cons_zero]
                    refine order_pure (i := 7) rfl (by kernel_rfl) (fun _ _ _ h => h) (.inl ⟨rfl, fun _ => by go_simp; rfl⟩) ?_
                    try simp only [Act.put, List.setIfInBounds_toArray, List.set_cons_succ, List.set_cons_zero]
                    refine order_pure (i := 8) rfl (by kernel_rfl) (fun _ _ _ h => h) (.inl ⟨rfl, fun _ => by go_simp; rfl⟩) ?_
                    try simp only [Act.put, List.setIfInBounds_toArray, List.set_cons_succ, List.set_cons_zero]
                    refine order_one (i := 9) rfl (by kernel_rfl) (fun K hK => ?_)
                    go_simp
                    refine (mark_big _ _ _ _ (by omega) (by omega) (by omega) (by omega) (mkI_eq k i)).mono ?_
                    rintro e w4 ⟨rfl, rfl⟩
                    refine hK _ _ (fun _ _ => HS) ?_
                    clear hK
                    try simp only [Act.put, List.setIfInBounds_toArray, List.set_cons_succ, List.set_cons_zero]
                    refine order_pure (i := 10) rfl (by kernel_rfl) (fun _ _ _ h => h) (.inl ⟨rfl, fun _ => by go_simp; rfl⟩) ?_
                    try simp only [Act.put, List.setIfInBounds_toArray, List.set_cons_succ, List.set_cons_zero]
                    refine order_pure (i := 11) rfl (by kernel_rfl) (fun _ _ _ h => h) (.inl ⟨rfl, fun _ => by go_simp; rfl⟩) ?_
                    try simp only [Act.put, List.setIfInBounds_toArray, List.set_cons_succ, List.set_cons_zero]
                    refine order_pure (i := 12) rfl (by kernel_rfl) (fun _ _ _ h => h) (.inl ⟨rfl, fun _ => by go_simp; rfl⟩) ?_
                    try simp only [Act.put, List.setIfInBounds_toArray, List.set_cons_succ, List.set_cons_zero]
                    refine order_pure (i := 13) rfl (by kernel_rfl) (fun _ _ _ h => h) (.inl ⟨rfl, fun _ => by go_simp; rfl⟩) ?_
                    try simp only [Act.put, List.setIfInBounds_toArray, List.set_cons_succ, List.set_cons_zero]
                    refine order_pure (i := 14) rfl (by kernel_rfl) (fun _ _ _ h => h) (.inl ⟨rfl, fun _ => by go_simp; rfl⟩) ?_
                    try simp only [Act.put, List.setIfInBounds_toArray, List.set_cons_succ, List.set_cons_zero]
                    refine order_pure (i := 15) rfl (by kernel_rfl) (fun _ _ _ h => h) (.inl ⟨rfl, fun _ => by go_simp; rfl⟩) ?_
                    try simp only [Act.put, List.setIfInBounds_toArray, List.set_cons_succ, List.set_cons_zero]
                    refine order_pure (i := 16) rfl (by kernel_rfl) (fun _ _ _ h => h) (.inl ⟨rfl, fun _ => by go_simp; rfl⟩) ?_
                    try simp only [Act.put, List.setIfInBounds_toArray, List.set_cons_succ, List.set_cons_zero]
                    refine order_pure (i := 17) rfl (by kernel_rfl) (fun _ _ _ h => h) (.inl ⟨rfl, fun _ => by go_simp; rfl⟩) ?_
                    try simp only [Act.put, List.setIfInBounds_toArray, List.set_cons_succ, List.set_cons_zero]
                    refine order_held (i := 18) rfl (by kernel_rfl) (fun _ _ _ h => h) (.inl ⟨rfl, fun W hW => by
                      have q0 : W.cell? ⟨go, oo + k, none⟩ = some (.slice A n c) := hW.cell id HC.out
                      go_simp; rfl⟩) HS ?_
                    try simp only [Act.put, List.setIfInBounds_toArray, List.set_cons_succ, List.set_cons_zero]
                    refine order_pure (i := 19) rfl (by kernel_rfl) (fun _ _ _ h => h) (.inl ⟨rfl, fun _ => by go_simp; rfl⟩) ?_
                    try simp only [Act.put, List.setIfInBounds_toArray, List.set_cons_succ, List.set_cons_zero]
                    refine order_pure (i := 20) rfl (by kernel_rfl) (fun _ _ _ h => h) (.inl ⟨rfl, fun _ => by go_simp; rfl⟩) ?_
                    try simp only [Act.put, List.setIfInBounds_toArray, List.set_cons_succ, List.set_cons_zero]
                    refine order_pure (i := 21) rfl (by kernel_rfl) (fun _ _ _ h => h) (.inl ⟨rfl, fun _ => by go_simp; rfl⟩) ?_
                    try simp only [Act.put, List.setIfInBounds_toArray, List.set_cons_succ, List.set_cons_zero]
                    refine order_skip (i := 22) rfl (by kernel_rfl) (fun _ _ _ h => h) (by kernel_rfl) ?_
                    try simp only [Act.put, List.setIfInBounds_toArray, List.set_cons_succ, List.set_cons_zero]
                    refine order_skip (i := 23) rfl (by kernel_rfl) (fun _ _ _ h => h) (by kernel_rfl) ?_
                    try simp only [Act.put, List.setIfInBounds_toArray, List.set_cons_succ, List.set_cons_zero]
                    refine order_skip (i := 24) rfl (by kernel_rfl) (fun _ _ _ h => h) (by kernel_rfl) ?_
                    try simp only [Act.put, List.setIfInBounds_toArray, List.set_cons_succ, List.set_cons_zero]
                    refine order_skip (i := 25) rfl (by kernel_rfl) (fun _ _ _ h => h) (by kernel_rfl) ?_
                    try simp only [Act.put, List.setIfInBounds_toArray, List.set_cons_succ, List.set_cons_zero]
                    refine order_skip (i := 26) rfl (by kernel_rfl) (fun _ _ _ h => h) (by kernel_rfl) ?_
                    try simp only [Act.put, List.setIfInBounds_toArray, List.set_cons_succ, List.set_cons_zero]
                    refine order_skip (i := 27) rfl (by kernel_rfl) (fun _ _ _ h => h) (by kernel_rfl) ?_
                    try simp only [Act.put, List.setIfInBounds_toArray, List.set_cons_succ, List.set_cons_zero]
                    refine order_skip (i := 28) rfl (by kernel_rfl) (fun _ _ _ h => h) (by kernel_rfl) ?_
                    try simp only [Act.put, List.setIfInBounds_toArray, List.set_cons_succ, List.set_cons_zero]
                    refine order_skip (i := 29) rfl (by kernel_rfl) (fun _ _ _ h => h) (by kernel_rfl) ?_
                    try simp only [Act.put, List.setIfInBounds_toArray, List.set_cons_succ, List.set_cons_zero]
                    refine order_skip (i := 30) rfl (by kernel_rfl) (fun _ _ _ h => h) (by kernel_rfl) ?_
                    try simp only [Act.put, List.setIfInBounds_toArray, List.set_cons_succ, List.set_cons_zero]
                    refine order_skip (i := 31) rfl (by kernel_rfl) (fun _ _ _ h => h) (by kernel_rfl) ?_
                    try simp only [Act.put, List.setIfInBounds_toArray, List.set_cons_succ, List.set_cons_zero]
                    refine order_skip (i := 32) rfl (by kernel_rfl) (fun _ _ _ h => h) (by kernel_rfl) ?_
                    try simp only [Act.put, List.setIfInBounds_toArray, List.set_cons_succ, List.set_cons_zero]
                    refine order_skip (i := 33) rfl (by kernel_rfl) (fun _ _ _ h => h) (by kernel_rfl) ?_
                    try simp only [Act.put, List.setIfInBounds_toArray, List.set_cons_succ, List.set_cons_zero]
                    refine order_skip (i := 34) rfl (by kernel_rfl) (fun _ _ _ h => h) (by kernel_rfl) ?_
                    try simp only [Act.put, List.setIfInBounds_toArray, List.set_cons_succ, List.set_cons_zero]
                    refine order_pure (i := 35) rfl (by kernel_rfl) (fun _ _ _ h => h) (.inl ⟨rfl, fun _ => by go_simp; rfl⟩) ?_
                    try simp only [Act.put, List.setIfInBounds_toArray, List.set_cons_succ, List.set_cons_zero]
                    refine order_pure (i := 36) rfl (by kernel_rfl) (fun _ _ _ h => h) (.inl ⟨rfl, fun _ => by go_simp; rfl⟩) ?_
                    try simp only [Act.put, List.setIfInBounds_toArray, List.set_cons_succ, List.set_cons_zero]
                    refine order_done (by kernel_rfl) ?_
                    have HK5 := hide HS
                    clear HS
                    go_wp2_with fail
                    go_roundg (n + 64 - (i + 1))
                    case measure => omega
                    case rel => exact ⟨i + 1, by omega, rfl, by go_num, HK5.out⟩
                · obtain rfl : i = n + 64 := by omega
                  have hiz : ¬ ((n : Int) + 64) < (n : Int) + 64 := by omega
                  go_wp2_with fail
                  go_roundg (K - (k + 1))
                  case measure => omega
                  case rel => exact ⟨k + 1, by omega, rfl, by go_num, HKP.out.trans' HKI.out (fun _ _ => id) (fun _ _ => id)⟩
            · obtain rfl : K = k := by omega
              have hkz : ¬ (K : Int) < K := by omega
              have HQ4 := hide (show P2 KL w wr K O cO L gb (fun _ => ⟨none, 0, 0⟩) 0 (fun x => (L x).n) from by
                obtain ⟨ys, h1, _⟩ := HQ3.out.row
                exact ⟨HQ3.out.base, ⟨ys, h1, fun k hk => by omega⟩, fun k hk => by omega, fun k j hk => by omega, fun k j hk => by omega, HQ3.out.gn, HQ3.out.og⟩)
              clear HQ3 HQ HKP
              as_aux_lemma =>
              go_wp2_with fail
              go_loopg [11] K (fun g s11 wx => ∃ (k : Nat) (G' : Nat → Ld), k ≤ K ∧ g = K - k ∧ s11 = .int .i64 k ∧ P2 KL w wx K O cO L gb G' k (fun x => (L x).n))
              case atStart => exact ⟨0, _, Nat.zero_le _, rfl, rfl, HQ4.out⟩
              case round =>
                clear HQ4 G
                obtain ⟨k, G, hk, rfl, rfl, hq⟩ := hrel
                have HQ := hide hq
                clear hq
                by_cases hlt : k < K
                · have hkz : (k : Int) < K := by omega
                  have hk0 : (0 : Int) ≤ k := by omega
                  as_aux_lemma =>
                  go_wp2_with (refine wpList_make_full _ rfl _ _ 31 rfl wr.heap.size 92 j0 _ 1 Try.underlying31 hj0 hy0 hy1 .i64 .i64 (64 : Int) (64 : Int) 64 rfl rfl rfl rfl HB1.out (by unfold maxLen; omega) (Nat.le_refl _) ?_)
                  intro w2 how hg
                  have hk2 : Keeps NoB wr w2 := (Keeps.refl NoB wr).grown hg (fun k h _ => by cases h)
                  obtain ⟨_, _, hv, hsl⟩ := Slab.of_own how
                  injection hv with hv1 hv2 hv3
                  subst hv1 hv3
                  have hon : ∀ u ∈ (madeCells (Value.int IntKind.u32 0).cells (64 * 1)).toList, u.oneCell' = true := by decide +kernel
                  have HMB := hide (show ∀ b, rowB (some ⟨wr.heap.size, 0, none⟩) b → (∀ j, j < K → ¬ rowB (L j).A b) ∧ (∀ j, j < k → ¬ rowB (G j).A b) ∧ w.heap.size ≤ b from by
                    rintro b ⟨o, e⟩
                    injection e with e; injection e with e
                    subst e
                    refine ⟨fun j hj hr => ?_, fun j hj hr => ?_, HQ.out.base.kp.size⟩
                    · have := (HQ.out.base.ls j hj).lt hr; omega
                    · have := (HQ.out.gm j hj).lt hr; omega)
                  have HI0 := hide (show P2 KL w w2 K O cO L gb G k (fun x => (L x).n) ∧ ∃ ys, Slab w2 92 1 (some ⟨wr.heap.size, 0, none⟩) 64 64 ys ∧ ∀ u ∈ ys, u.oneCell' = true from ⟨HQ.out.fresh hk2, _, hsl, hon⟩)
                  clear how hg hk2 hsl hon HQ
                  generalize wr.heap.size = mb at *
                  clear wr
                  go_wp2_with fail
                  go_loopg [13] 64 (fun g s13 wx => ∃ i : Nat, i ≤ 64 ∧ g = 64 - i ∧ s13 = .int .i64 i ∧ P2 KL w wx K O cO L gb G k (fun x => (L x).n) ∧ ∃ ys, Slab wx 92 1 (some ⟨mb, 0, none⟩) 64 64 ys ∧ ∀ u ∈ ys, u.oneCell' = true)
                  case atStart => exact ⟨0, by omega, rfl, rfl, HI0.out⟩
                  case round =>
                    clear HI0
                    obtain ⟨i, hi, rfl, rfl, hq, ys, hs, hon⟩ := hrel
                    have HQ := hide hq; have HS := hide hs; have HON := hide hon
                    clear hq hs hon
                    by_cases hil : i < 64
                    · have hiz : (i : Int) < 64 := by omega
                      have hi0' : (0 : Int) ≤ i := by omega
                      obtain ⟨v, hv⟩ : ∃ v, 1000003 * ((k : Int) + (K : Int) + 7) + (i : Int) = v := ⟨_, rfl⟩
                      have HV := hide hv
                      clear hv
                      as_aux_lemma =>
                      go_wp2_with fail
                      refine (mark_big _ _ _ _ (by omega) (by omega) (by omega) (by omega) HV.out).mono ?_
                      rintro e w4 ⟨rfl, rfl⟩
                      have hs4 := HS.out
                      obtain ⟨⟨g1, o1, s1⟩, hA1, _, _, _, hc1⟩ := hs4.reads.2 (by omega)
                      injection hA1 with hA1; injection hA1 with e1 e2 e3; subst e1 e2
                      obtain ⟨y0, hy0'⟩ : ∃ y0, ys[i]? = some y0 := ⟨_, List.getElem?_eq_getElem (by have := HS.out.1; omega)⟩
                      have m0 : wr.cell? ⟨mb, i, none⟩ = some y0 := by have := (hc1 _ y0 hy0').1; simpa using this
                      have mf0 : wr.frozen? ⟨mb, i, none⟩ = false := by have := (hc1 _ y0 hy0').2 rfl; simpa using this
                      have HQ2 := hide (HQ.out.keepInts hs4 ((Keeps.refl (rowB (some ⟨mb, 0, none⟩)) wr).setCell (p := ⟨mb, i, none⟩) (.inl ⟨0, rfl⟩) (.int .u32 (IntKind.u32.wrap v))) HMB.out)
                      have HS2 := hide (show Slab (wr.setCell ⟨mb, i, none⟩ (.int .u32 (IntKind.u32.wrap v))) 92 1 (some ⟨mb, 0, none⟩) 64 64 (ys.set i (.int .u32 (IntKind.u32.wrap v))) from by
                        have h := hs4.put1 (j := i) (by omega) (.int .u32 (IntKind.u32.wrap v))
                        simp only [Nat.zero_add] at h; exact h)
                      clear hs4 hc1 hy0' e3 HQ HS
                      go_wp2_with fail
                      go_roundg (64 - (i + 1))
                      case measure => omega
                      case rel => exact ⟨i + 1, by omega, rfl, by go_num, HQ2.out, _, HS2.out, on_set1 HON.out _ rfl⟩
                    · obtain rfl : i = 64 := by omega
                      obtain ⟨go, oo, hO, hc⟩ := HQ.out.base.head hlt
                      subst hO
                      obtain ⟨n, hn⟩ : ∃ n, (L k).n = n := ⟨_, rfl⟩
                      have HN := hide hn
                      have hn5 : n ≤ 35184372087808 := hn ▸ HNN.out k hlt
                      obtain ⟨A, hA⟩ : ∃ A, (L k).A = A := ⟨_, rfl⟩
                      obtain ⟨c, hcc⟩ : ∃ c, (L k).c = c := ⟨_, rfl⟩
                      rw [hn, hA, hcc] at hc
                      obtain ⟨xs, hx1, hx2⟩ := HQ.out.base.ls k hlt
                      rw [hA, hn, hcc] at hx1
                      rw [hn] at hx2
                      have HX1 := hide hx1; have HX2 := hide hx2
                      have HM := hide (show Mine w K L G k A c from .inl ⟨hA.symm, hcc.symm⟩)
                      have HBD := hide (show n + 64 ≤ maxLen ∧ (n + 64) * 4 ≤ 140737488355328 from by unfold maxLen; omega)
                      clear hn hA hcc hx1 hx2
                      as_aux_lemma =>
                      go_wp2_with (at_builtin; go_loud (refine wpList_append_grew _ rfl (.tmp 153) (.tmp 154) 31 rfl 92 j0 _ 1 4 Try.underlying31 hj0 hy0 hy1 hy2 rfl (by omega) A n c xs rfl HX1.out _ _ (some ⟨mb, 0, none⟩) 64 64 ys rfl HS.out.reads (by omega) HON.out HBD.out.1 HBD.out.2 ?_))
                      intro A' c' w2 h1 h2
                      have hxl : xs.length = n * 1 := HX1.out.1
                      have hmm : Marked KL w2 A' (n + 64) c' k n := Marked.more (S := KL) (n := n) (m := 64) (q := n) HX2.out hxl h1 (Nat.le_refl _)
                      have hgr := HQ.out.grow (i := 0) (c' := c') (A' := A') (n' := n + 64) (ys := xs) hlt (by rw [HN.out]; exact HX1.out) HM.out (by rw [HN.out]; exact hmm) (by rw [HN.out]; omega) h2
                      obtain ⟨zv, g0, f0⟩ := hgr.1.slot hlt
                      have HQ2 := hide (hgr.1.lay hlt (A := A') (c := c') (by show Marked KL w2 A' ((L k).n + 64) c' k (L k).n; rw [HN.out]; exact hmm) hgr.2)
                      have HQ2 := hide (show P2 KL w (w2.setCell ⟨gb, k, none⟩ (.slice A' (n + 64) c')) K (some ⟨go, oo, none⟩) cO L gb (fun x => if x = k then ⟨A', 0, c'⟩ else G x) (k + 1) (fun x => (L x).n) from HN.out ▸ HQ2.out)
                      clear h1 h2 hgr hmm HQ HX1 HX2 HM HS HON hc
                      go_wp2_with fail
                      go_roundg (K - (k + 1))
                      case measure => omega
                      case rel => exact ⟨k + 1, _, by omega, rfl, by go_num, HQ2.out⟩
                · obtain rfl : K = k := by omega
                  have hkz : ¬ (K : Int) < K := by omega
                  as_aux_lemma =>
                  go_wp2_with fail
                  go_loopg [14] K (fun g s14 wx => ∃ k : Nat, k ≤ K ∧ g = K - k ∧ s14 = .int .i64 k ∧ Keeps NoB wr wx)
                  case atStart => exact ⟨0, Nat.zero_le _, rfl, rfl, Keeps.refl _ _⟩
                  case round =>
                    obtain ⟨k, hk, rfl, rfl, hkp⟩ := hrel
                    have HQ3 := hide (HQ.out.fresh hkp)
                    have HKP := hide hkp
                    clear hkp
                    by_cases hlt : k < K
                    · obtain ⟨go, oo, hO, hc⟩ := HQ3.out.base.head hlt
                      subst hO
                      have hcg := HQ3.out.head (k := k) hlt
                      obtain ⟨n, hn⟩ : ∃ n, (L k).n = n := ⟨_, rfl⟩
                      have hn5 : n ≤ 35184372087808 := hn ▸ HNN.out k hlt
                      obtain ⟨A, hA⟩ : ∃ A, (L k).A = A := ⟨_, rfl⟩
                      obtain ⟨c, hcc⟩ : ∃ c, (L k).c = c := ⟨_, rfl⟩
                      obtain ⟨A2, hA2⟩ : ∃ A2, (G k).A = A2 := ⟨_, rfl⟩
                      obtain ⟨c2, hcc2⟩ : ∃ c2, (G k).c = c2 := ⟨_, rfl⟩
                      rw [hn, hA, hcc] at hc
                      rw [hn, hA2, hcc2] at hcg
                      have HC := hide hc; have HCG := hide hcg
                      have HML := hide (show Marked KL wr A n c k n from by have := HQ3.out.base.ls k hlt; rw [hA, hn, hcc] at this; exact this)
                      have HMG := hide (show Marked KL wr A2 (n + 64) c2 k n from by have := HQ3.out.gm k hlt; rw [hA2, hn, hcc2] at this; exact this)
                      have hkz : (k : Int) < K := by omega
                      have hk0 : (0 : Int) ≤ k := by omega
                      clear hn hA hcc hA2 hcc2 hc hcg HQ3
                      go_wp2_with fail
                      generalize hwq : wr = wq at *
                      clear hwq
                      go_loopg [15] n (fun g s15 wx => ∃ i : Nat, i ≤ n ∧ g = n - i ∧ s15 = .int .i64 i ∧ Keeps NoB wq wx)
                      case atStart => exact ⟨0, Nat.zero_le _, rfl, rfl, Keeps.refl _ _⟩
                      case round =>
                        obtain ⟨i, hi, rfl, rfl, hki⟩ := hrel
                        have hcg : wr.cell? ⟨gb, k, none⟩ = some (.slice A2 (n + 64) c2) := hki.cell id HCG.out
                        have hc : wr.cell? ⟨go, oo + k, none⟩ = some (.slice A n c) := hki.cell id HC.out
                        have HKI := hide hki
                        by_cases hil : i < n
                        · obtain ⟨g2, o2, e2, x2⟩ := HMG.out.cells hil (by omega)
                          obtain ⟨g1, o1, e1, x1⟩ := HML.out.cells hil (Nat.le_refl _)
                          subst e2
                          subst e1
                          have x20' := x2 0 _ (by show 0 < 1; omega) rfl; have x20 := hide (show _ = some (Value.int .u32 (IntKind.u32.wrap (mkI k i))) from x20'); clear x20'
                          have x10' := x1 0 _ (by show 0 < 1; omega) rfl; have x10 := hide (show _ = some (Value.int .u32 (IntKind.u32.wrap (mkI k i))) from x10'); clear x10'
                          have hiz : (i : Int) < (n : Int) := by omega
                          have hiz2 : (i : Int) < (n : Int) + 64 := by omega
                          have hi0' : (0 : Int) ≤ i := by omega
                          clear x1 x2
                          as_aux_lemma =>
                          go_wp2_with fail
                          refine order_begin (fun W => Keeps NoB wq W) (fun _ => true) (by kernel_rfl) 28 rfl ?_
                          have HS : Keeps NoB wq wr.drew := HKI.out.drew
                          clear hki hc hcg
                          refine order_pure (i := 0) rfl (by kernel_rfl) (fun _ _ _ h => h) (.inl ⟨rfl, fun _ => by go_simp; rfl⟩) ?_
                          try simp only [Act.put, List.setIfInBounds_toArray, List.set_cons_succ, List.set_cons_zero]
                          refine order_pure (i := 1) rfl (by kernel_rfl) (fun _ _ _ h => h) (.inl ⟨rfl, fun _ => by go_simp; rfl⟩) ?_
                          try simp only [Act.put, List.setIfInBounds_toArray, List.set_cons_succ, List.set_cons_zero]
                          refine order_pure (i := 2) rfl (by kernel_rfl) (fun _ _ _ h => h) (.inl ⟨rfl, fun _ => by go_simp; rfl⟩) ?_
                          try simp only [Act.put, List.setIfInBounds_toArray, List.set_cons_succ, List.set_cons_zero]
                          refine order_held (i := 3) rfl (by kernel_rfl) (fun _ _ _ h => h) (.inl ⟨rfl, fun W hW => by
                            have q0 : W.cell? ⟨go, oo + k, none⟩ = some (.slice (some ⟨g1, o1, none⟩) n c) := hW.cell id HC.out
                            go_simp; rfl⟩) HS ?_
                          try simp only [Act.put, List.setIfInBounds_toArray, List.set_cons_succ, List.set_cons_zero]
                          refine order_pure (i := 4) rfl (by kernel_rfl) (fun _ _ _ h => h) (.inl ⟨rfl, fun _ => by go_simp; rfl⟩) ?_
                          try simp only [Act.put, List.setIfInBounds_toArray, List.set_cons_succ, List.set_cons_zero]
                          refine order_pure (i := 5) rfl (by kernel_rfl) (fun _ _ _ h => h) (.inl ⟨rfl, fun _ => by go_simp; rfl⟩) ?_
                          try simp only [Act.put, List.setIfInBounds_toArray, List.set_cons_succ, List.set_cons_zero]
                          refine order_held (i := 6) rfl (by kernel_rfl) (fun _ _ _ h => h) (.inl ⟨rfl, fun W hW => by
                            have q0 : W.cell? ⟨g1, o1 + i, none⟩ = some (.int .u32 (IntKind.u32.wrap (mkI k i))) := (by have := hW.cell id x10.out; simpa using this)
                            go_simp; rfl⟩) HS ?_
                          try simp only [Act.put, List.setIfInBounds_toArray, List.set_cons_succ, List.set_cons_zero]
                          refine order_pure (i := 7) rfl (by kernel_rfl) (fun _ _ _ h => h) (.inl ⟨rfl, fun _ => by go_simp; rfl⟩) ?_
                          try simp only [Act.put, List.setIfInBounds_toArray, List.set_cons_succ, List.set_cons_zero]
                          refine order_pure (i := 8) rfl (by kernel_rfl) (fun _ _ _ h => h) (.inl ⟨rfl, fun _ => by go_simp; rfl⟩) ?_
                          try simp only [Act.put, List.setIfInBounds_toArray, List.set_cons_succ, List.set_cons_zero]
                          refine order_one (i := 9) rfl (by kernel_rfl) (fun K hK => ?_)
                          go_simp
                          refine (mark_big _ _ _ _ (by omega) (by omega) (by omega) (by omega) (mkI_eq k i)).mono ?_
                          rintro e w4 ⟨rfl, rfl⟩
                          refine hK _ _ (fun _ _ => HS) ?_
                          clear hK
                          try simp only [Act.put, List.setIfInBounds_toArray, List.set_cons_succ, List.set_cons_zero]
                          refine order_pure (i := 10) rfl (by kernel_rfl) (fun _ _ _ h => h) (.inl ⟨rfl, fun _ => by go_simp; rfl⟩) ?_
                          try simp only [Act.put, List.setIfInBounds_toArray, List.set_cons_succ, List.set_cons_zero]
                          refine order_pure (i := 11) rfl (by kernel_rfl) (fun _ _ _ h => h) (.inl ⟨rfl, fun _ => by go_simp; rfl⟩) ?_
                          try simp only [Act.put, List.setIfInBounds_toArray, List.set_cons_succ, List.set_cons_zero]
                          refine order_pure (i := 12) rfl (by kernel_rfl) (fun _ _ _ h => h) (.inl ⟨rfl, fun _ => by go_simp; rfl⟩) ?_
                          try simp only [Act.put, List.setIfInBounds_toArray, List.set_cons_succ, List.set_cons_zero]
                          refine order_pure (i := 13) rfl (by kernel_rfl) (fun _ _ _ h => h) (.inl ⟨rfl, fun _ => by go_simp; rfl⟩) ?_
                          try simp only [Act.put, List.setIfInBounds_toArray, List.set_cons_succ, List.set_cons_zero]
                          refine order_pure (i := 14) rfl (by kernel_rfl) (fun _ _ _ h => h) (.inl ⟨rfl, fun _ => by go_simp; rfl⟩) ?_
                          try simp only [Act.put, List.setIfInBounds_toArray, List.set_cons_succ, List.set_cons_zero]
                          refine order_pure (i := 15) rfl (by kernel_rfl) (fun _ _ _ h => h) (.inl ⟨rfl, fun _ => by go_simp; rfl⟩) ?_
                          try simp only [Act.put, List.setIfInBounds_toArray, List.set_cons_succ, List.set_cons_zero]
                          refine order_pure (i := 16) rfl (by kernel_rfl) (fun _ _ _ h => h) (.inl ⟨rfl, fun _ => by go_simp; rfl⟩) ?_
                          try simp only [Act.put, List.setIfInBounds_toArray, List.set_cons_succ, List.set_cons_zero]
                          refine order_held (i := 17) rfl (by kernel_rfl) (fun _ _ _ h => h) (.inl ⟨rfl, fun W hW => by
                            have q0 : W.cell? ⟨gb, k, none⟩ = some (.slice (some ⟨g2, o2, none⟩) (n + 64) c2) := hW.cell id HCG.out
                            go_simp; rfl⟩) HS ?_
                          try simp only [Act.put, List.setIfInBounds_toArray, List.set_cons_succ, List.set_cons_zero]
                          refine order_pure (i := 18) rfl (by kernel_rfl) (fun _ _ _ h => h) (.inl ⟨rfl, fun _ => by go_simp; rfl⟩) ?_
                          try simp only [Act.put, List.setIfInBounds_toArray, List.set_cons_succ, List.set_cons_zero]
                          refine order_pure (i := 19) rfl (by kernel_rfl) (fun _ _ _ h => h) (.inl ⟨rfl, fun _ => by go_simp; rfl⟩) ?_
                          try simp only [Act.put, List.setIfInBounds_toArray, List.set_cons_succ, List.set_cons_zero]
                          refine order_held (i := 20) rfl (by kernel_rfl) (fun _ _ _ h => h) (.inl ⟨rfl, fun W hW => by
                            have q0 : W.cell? ⟨g2, o2 + i, none⟩ = some (.int .u32 (IntKind.u32.wrap (mkI k i))) := (by have := hW.cell id x20.out; simpa using this)
                            go_simp; rfl⟩) HS ?_
                          try simp only [Act.put, List.setIfInBounds_toArray, List.set_cons_succ, List.set_cons_zero]
                          refine order_pure (i := 21) rfl (by kernel_rfl) (fun _ _ _ h => h) (.inl ⟨rfl, fun _ => by go_simp; rfl⟩) ?_
                          try simp only [Act.put, List.setIfInBounds_toArray, List.set_cons_succ, List.set_cons_zero]
                          refine order_pure (i := 22) rfl (by kernel_rfl) (fun _ _ _ h => h) (.inl ⟨rfl, fun _ => by go_simp; rfl⟩) ?_
                          try simp only [Act.put, List.setIfInBounds_toArray, List.set_cons_succ, List.set_cons_zero]
                          refine order_one (i := 23) rfl (by kernel_rfl) (fun K hK => ?_)
                          go_simp
                          refine (mark_big _ _ _ _ (by omega) (by omega) (by omega) (by omega) (mkI_eq k i)).mono ?_
                          rintro e w5 ⟨rfl, rfl⟩
                          have hk5 := HS
                          refine hK _ _ (fun _ _ => hk5) ?_
                          clear hK
                          try simp only [Act.put, List.setIfInBounds_toArray, List.set_cons_succ, List.set_cons_zero]
                          refine order_pure (i := 24) rfl (by kernel_rfl) (fun _ _ _ h => h) (.inl ⟨rfl, fun _ => by go_simp; rfl⟩) ?_
                          try simp only [Act.put, List.setIfInBounds_toArray, List.set_cons_succ, List.set_cons_zero]
                          refine order_pure (i := 25) rfl (by kernel_rfl) (fun _ _ _ h => h) (.inl ⟨rfl, fun _ => by go_simp; rfl⟩) ?_
                          try simp only [Act.put, List.setIfInBounds_toArray, List.set_cons_succ, List.set_cons_zero]
                          refine order_pure (i := 26) rfl (by kernel_rfl) (fun _ _ _ h => h) (.inl ⟨rfl, fun _ => by go_simp; rfl⟩) ?_
                          try simp only [Act.put, List.setIfInBounds_toArray, List.set_cons_succ, List.set_cons_zero]
                          refine order_pure (i := 27) rfl (by kernel_rfl) (fun _ _ _ h => h) (.inl ⟨rfl, fun _ => by go_simp; rfl⟩) ?_
                          try simp only [Act.put, List.setIfInBounds_toArray, List.set_cons_succ, List.set_cons_zero]
                          refine order_done (by kernel_rfl) ?_
                          clear HS
                          have HK5 := hide hk5
                          clear hk5
                          go_wp2_with fail
                          go_roundg (n - (i + 1))
                          case measure => omega
                          case rel => exact ⟨i + 1, by omega, rfl, by go_num, HK5.out⟩
                        · obtain rfl : i = n := by omega
                          have hiz : ¬ (i : Int) < (i : Int) := by omega
                          go_wp2_with fail
                          go_roundg (K - (k + 1))
                          case measure => omega
                          case rel => exact ⟨k + 1, by omega, rfl, by go_num, HKP.out.trans' HKI.out (fun _ _ => id) (fun _ _ => id)⟩
                    · obtain rfl : K = k := by omega
                      have hkz : ¬ (K : Int) < K := by omega
                      go_wp2_with fail
                      go_ret
                      exact ⟨rfl, HQ3.out.base.kp⟩
end Go.Proofs.Ytmkidkfofbnjgaa
