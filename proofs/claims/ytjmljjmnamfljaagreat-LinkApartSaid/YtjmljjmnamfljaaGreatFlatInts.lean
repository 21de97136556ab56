/- pigeonholekit: flatInts: lists of numbers that lie apart. -/
import Derived.Test.YtjmljjmnamfljaaGreatFlatLaw2
import Derived.Test.YtjmljjmnamfljaaGreatKitInts
import Derived.Deep.QuietTactic
import Derived.BigQuiet
namespace Go.Proofs.YtjmljjmnamfljaaGreat
open Go.RowKit

theorem Tryz.info25 : (Tryz.prog.info? 25).map (fun i => (i.zero, i.size, i.bytes)) = some (some (.slice none 0 0), 1, 24) := by kernel_rfl
theorem Tryz.infoF3 : (Tryz.prog.info? 3).map (fun i => (i.zero, i.size, i.bytes)) = some (some (.int .i64 0), 1, 8) := by kernel_rfl
theorem int_reads {w : World} {g : Nat} {x : Int} (h : Blk w g 3 #[.int .i64 x]) : Reads w (fun _ => True) true 1 (some ⟨g, 0, none⟩) 1 [.int .i64 x] := by
  refine ⟨rfl, fun _ => ⟨_, rfl, rfl, trivial, h.lt, fun j u hu => ⟨?_, fun _ => h.free _⟩⟩⟩
  rw [h.cell, ← hu]; simp
theorem one_ones {x : Int} : ∀ u ∈ [Value.int .i64 x], u.oneCell' = true := by intro u hu; simp only [List.mem_singleton] at hu; rw [hu]; rfl
theorem mark_any (a b v : Int) (w : World) (ha : 0 ≤ a) (ha2 : a ≤ 1000000) (hb : 0 ≤ b) (hb2 : b ≤ 1000000000) (hv : 1000003 * (a + 7) + b = v) : Calls Tryz.prog 60 #[.int .i64 a, .int .i64 b] w fun e w' => e = .returned (.int .i64 v) ∧ w = w' := by
  have HV := hide hv
  clear hv
  go_enter Tryz.func60, Tryz.ntmps60
  go_wp2
  go_ret
  exact ⟨by rw [← HV.out]; rfl, rfl⟩
theorem mark_q (a b v : Int) (w : World) (ha : 0 ≤ a) (ha2 : a ≤ 1000000) (hb : 0 ≤ b) (hb2 : b ≤ 1000000000) (hv : 1000003 * (a + 7) + b = v) : Calls Tryz.prog 60 #[.int .i64 a, .int .i64 b] w fun e w' => e = .returned (.int .i64 v) ∧ w' = w :=
  (mark_any a b v w ha ha2 hb hb2 hv).mono fun _ _ ⟨h1, h2⟩ => ⟨h1, h2.symm⟩
theorem mkI_eq (k i : Nat) : 1000003 * ((k : Int) + 7) + (i : Int) = mkI k i := rfl

/-- The k-th list, as the outer one tells it. -/
theorem P1.head {w wr : World} {K cO k : Nat} {O : Option Addr} {L : Nat → Ld} {p : Nat → Nat} (h : P1 w wr K O cO L p) (hk : k < K) : ∃ g o, O = some ⟨g, o, none⟩ ∧ wr.cell? ⟨g, o + k, none⟩ = some (.slice (L k).A (L k).n (L k).c) := by
  obtain ⟨⟨g, o, sp⟩, hA, hs, _, _, hc⟩ := h.out.reads.2 (by omega)
  simp only at hs
  subst hs
  exact ⟨g, o, hA, (hc k _ (cellsL_at hk)).1⟩
/-- The k-th that has grown, as the row tells it. -/
theorem P2.head {w wr : World} {K cO gb k0 k : Nat} {O : Option Addr} {L G : Nat → Ld} {lim : Nat → Nat} (h : P2 w wr K O cO L gb G k0 lim) (hk : k < k0) : wr.cell? ⟨gb, k, none⟩ = some (.slice (G k).A ((L k).n + 64) (G k).c) := by
  obtain ⟨ys, h1, h2⟩ := h.row
  have hy := h2 k hk
  have hlt := (List.getElem?_eq_some_iff.1 hy).1
  obtain ⟨⟨g, o, sp⟩, hA, hs, _, _, hc⟩ := h1.reads.2 (by have := h1.1; omega)
  injection hA with hA; injection hA with e1 e2 e3; subst e1 e2 e3
  have := (hc k _ hy).1
  simpa using this
/-- The row's k-th place is there. -/
theorem P2.slot {w wr : World} {K cO gb k0 k : Nat} {O : Option Addr} {L G : Nat → Ld} {lim : Nat → Nat} (h : P2 w wr K O cO L gb G k0 lim) (hk : k < K) : ∃ v, wr.cell? ⟨gb, k, none⟩ = some v ∧ wr.frozen? ⟨gb, k, none⟩ = false := by
  obtain ⟨zs, h1, _⟩ := h.row
  obtain ⟨⟨g, o, sp⟩, hA, hs, _, _, hc⟩ := h1.reads.2 (by omega)
  injection hA with hA; injection hA with e1 e2 e3; subst e1 e2 e3
  obtain ⟨zv, hzv⟩ : ∃ zv, zs[k]? = some zv := ⟨_, List.getElem?_eq_getElem (by have := h1.1; omega)⟩
  have := hc k zv hzv
  exact ⟨zv, by simpa using this.1, by simpa using this.2 rfl⟩
/-- A cell of the k-th list is there. -/
theorem P1.place {w wr : World} {K cO k j : Nat} {O : Option Addr} {L : Nat → Ld} {p : Nat → Nat} (h : P1 w wr K O cO L p) (hk : k < K) (hj : j < (L k).n) : ∃ g o v, (L k).A = some ⟨g, o, none⟩ ∧ wr.cell? ⟨g, o + j, none⟩ = some v ∧ wr.frozen? ⟨g, o + j, none⟩ = false := by
  obtain ⟨ys, h1, _⟩ := h.ls k hk
  obtain ⟨⟨g, o, sp⟩, hA, hs, _, _, hc⟩ := h1.reads.2 (by omega)
  simp only at hs
  subst hs
  obtain ⟨u, hu⟩ : ∃ u, ys[j]? = some u := ⟨_, List.getElem?_eq_getElem (by have := h1.1; omega)⟩
  exact ⟨g, o, u, hA, (hc j u hu).1, (hc j u hu).2 rfl⟩

set_option maxRecDepth 100000 in
set_option maxHeartbeats 4000000 in
theorem flat36 (K cO : Nat) (O : Option Addr) (L : Nat → Ld) (w : World) (h : P1 w w K O cO L (fun _ => 0)) (hK : K ≤ 1000) (hn : ∀ k, k < K → (L k).n ≤ 100000) :
    Calls Tryz.prog 36 #[.slice O K cO] w fun e w' => e = .returned (.bool true) ∧ Keeps (fpL L K) w w' := by
  obtain ⟨i0, hi0, hz0, hz1, hz2⟩ := info_parts Tryz.info25
  obtain ⟨j0, hj0, hy0, hy1, hy2⟩ := info_parts Tryz.infoF3
  have H := hide h; have HNN := hide hn
  have HB0 := hide (show i0.bytes * K ≤ 281474976710656 from by rw [hz2]; omega)
  have HB1 := hide (show j0.bytes * 64 ≤ 281474976710656 from by rw [hy2]; omega)
  clear h hn
  go_enter Tryz.func36, Tryz.ntmps36
  go_wp2_with fail
  go_loopg [3] K (fun g s3 wr => ∃ k : Nat, k ≤ K ∧ g = K - k ∧ s3 = .int .i64 k ∧ P1 w wr K O cO L (fun x => if x < k then (L x).n else 0))
  case atStart => exact ⟨0, Nat.zero_le _, rfl, rfl, H.out.cong (fun _ _ => by simp)⟩
  case round =>
    obtain ⟨k, hk, rfl, rfl, hp⟩ := hrel
    have HP := hide hp
    clear hp
    by_cases hlt : k < K
    · obtain ⟨go, oo, hO, hc⟩ := HP.out.head hlt
      subst hO
      obtain ⟨n, hn⟩ : ∃ n, (L k).n = n := ⟨_, rfl⟩
      have HN := hide hn
      have hn5 : n ≤ 100000 := hn ▸ HNN.out k hlt
      have hkz : (k : Int) < K := by omega
      have hk0 : (0 : Int) ≤ k := by omega
      have HP0 := hide (show P1 w wr K (some ⟨go, oo, none⟩) cO L (fun x => if x < k then (L x).n else if x = k then 0 else 0) from HP.out.cong (fun x _ => by split <;> simp))
      clear hn hc HP
      go_wp2_with fail
      go_loopg [4] n (fun g s4 wr => ∃ i : Nat, i ≤ n ∧ g = n - i ∧ s4 = .int .i64 i ∧ P1 w wr K (some ⟨go, oo, none⟩) cO L (fun x => if x < k then (L x).n else if x = k then i else 0))
      case atStart => exact ⟨0, Nat.zero_le _, rfl, rfl, HP0.out⟩
      case round =>
        clear HP0
        obtain ⟨i, hi, rfl, rfl, hp⟩ := hrel
        have HP := hide hp
        clear hp
        obtain ⟨go', oo', hO', hc⟩ := HP.out.head hlt
        injection hO' with hO'; injection hO' with e1 e2; subst e1 e2
        rw [HN.out] at hc
        obtain ⟨A, hA⟩ : ∃ A, (L k).A = A := ⟨_, rfl⟩
        obtain ⟨c, hcc⟩ : ∃ c, (L k).c = c := ⟨_, rfl⟩
        rw [hA, hcc] at hc
        have HA := hide hA
        clear hA hcc
        by_cases hil : i < n
        · obtain ⟨g, o, v, hA2, hcv, hfv⟩ := HP.out.place (j := i) hlt (by rw [HN.out]; exact hil)
          rw [HA.out] at hA2
          subst hA2
          have hiz : (i : Int) < n := by omega
          have hi0' : (0 : Int) ≤ i := by omega
          have HP2 := hide (HP.out.put (j := i) hlt HA.out (by simp) (by rw [HN.out]; exact hil))
          have HP2 := hide (HP2.out.cong (q := fun x => if x < k then (L x).n else if x = k then i + 1 else 0) (fun x _ => by
            by_cases e : x = k
            · subst e; simp
            · simp [e]))
          go_wp2_with fail
          refine order_begin (fun W => Keeps NoB wr W) (fun j => !(j == 9)) (by kernel_rfl) 10 rfl ?_
          have HS : Keeps NoB wr wr.drew := (Keeps.refl _ _).drew
          have HC := hide hc
          clear hc
          refine order_pure (i := 0) rfl (by kernel_rfl) (fun _ _ _ h => h) (.inl ⟨rfl, fun _ => by go_simp; rfl⟩) ?_
          try simp only [Act.put, List.setIfInBounds_toArray, List.set_cons_succ, List.set_cons_zero]
          refine order_pure (i := 1) rfl (by kernel_rfl) (fun _ _ _ h => h) (.inl ⟨rfl, fun _ => by go_simp; rfl⟩) ?_
          try simp only [Act.put, List.setIfInBounds_toArray, List.set_cons_succ, List.set_cons_zero]
          refine order_pure (i := 2) rfl (by kernel_rfl) (fun _ _ _ h => h) (.inl ⟨rfl, fun _ => by go_simp; rfl⟩) ?_
          try simp only [Act.put, List.setIfInBounds_toArray, List.set_cons_succ, List.set_cons_zero]
          refine order_held (i := 3) rfl (by kernel_rfl) (fun _ _ _ h => h) (.inl ⟨rfl, fun W hW => by
            have q0 : W.cell? ⟨go, oo + k, none⟩ = some (.slice (some ⟨g, o, none⟩) n c) := hW.cell id HC.out
            go_simp; rfl⟩) HS ?_
          try simp only [Act.put, List.setIfInBounds_toArray, List.set_cons_succ, List.set_cons_zero]
          refine order_pure (i := 4) rfl (by kernel_rfl) (fun _ _ _ h => h) (.inl ⟨rfl, fun _ => by go_simp; rfl⟩) ?_
          try simp only [Act.put, List.setIfInBounds_toArray, List.set_cons_succ, List.set_cons_zero]
          refine order_pure (i := 5) rfl (by kernel_rfl) (fun _ _ _ h => h) (.inl ⟨rfl, fun _ => by go_simp; rfl⟩) ?_
          try simp only [Act.put, List.setIfInBounds_toArray, List.set_cons_succ, List.set_cons_zero]
          refine order_pure (i := 6) rfl (by kernel_rfl) (fun _ _ _ h => h) (.inl ⟨rfl, fun _ => by go_simp; rfl⟩) ?_
          try simp only [Act.put, List.setIfInBounds_toArray, List.set_cons_succ, List.set_cons_zero]
          refine order_one (i := 7) rfl (by kernel_rfl) (fun K hK => ?_)
          go_simp
          refine (mark_any _ _ _ _ (by omega) (by omega) (by omega) (by omega) (mkI_eq k i)).mono ?_
          rintro e w' ⟨rfl, rfl⟩
          refine hK _ _ (fun _ h => h) ?_
          clear hK HS
          try simp only [Act.put, List.setIfInBounds_toArray, List.set_cons_succ, List.set_cons_zero]
          refine order_pure (i := 8) rfl (by kernel_rfl) (fun _ _ _ h => h) (.inl ⟨rfl, fun _ => by go_simp; rfl⟩) ?_
          try simp only [Act.put, List.setIfInBounds_toArray, List.set_cons_succ, List.set_cons_zero]
          refine order_one (i := 9) rfl (by kernel_rfl) (fun K hK => ?_)
          go_simp
          refine hK _ _ (fun h => absurd h (by decide)) ?_
          clear hK
          try simp only [Act.put, List.setIfInBounds_toArray, List.set_cons_succ, List.set_cons_zero]
          refine order_done (by kernel_rfl) ?_
          go_wp2_with fail
          go_roundg (n - (i + 1))
          case measure => omega
          case rel => exact ⟨i + 1, by omega, rfl, by go_num, HP2.out.fresh ((Keeps.refl NoB _).drew)⟩
        · obtain rfl : n = i := by omega
          have hiz : ¬ (n : Int) < n := by omega
          have HP2 := hide (HP.out.cong (q := fun x => if x < k + 1 then (L x).n else 0) (fun x _ => by
            by_cases e : x = k
            · subst e; simp [HN.out]
            · by_cases e2 : x < k
              · simp [e2, show x < k + 1 from by omega]
              · simp [e2, e, show ¬ x < k + 1 from by omega]))
          go_wp2_with fail
          go_roundg (K - (k + 1))
          case measure => omega
          case rel => exact ⟨k + 1, by omega, rfl, by go_num, HP2.out⟩
    · obtain rfl : K = k := by omega
      have hkz : ¬ (K : Int) < K := by omega
      have HP1 := hide (HP.out.cong (q := fun x => (L x).n) (fun x hx => by simp [hx]))
      clear HP
      go_wp2_with (refine wpList_make_full _ rfl _ _ 31 rfl wr.heap.size 25 i0 _ 1 Tryz.underlying31 hi0 hz0 hz1 .i64 .i64 (K : Int) (K : Int) K rfl rfl rfl rfl HB0.out (by unfold maxLen; omega) (Nat.le_refl _) ?_)
      intro w2 how hg
      have hk2 : Keeps NoB wr w2 := (Keeps.refl NoB wr).grown hg (fun k h _ => by cases h)
      obtain ⟨_, _, hv, hsl⟩ := Slab.of_own how
      injection hv with hv1 hv2 hv3
      subst hv1 hv3
      have HQ0 := hide (show P2 w w2 K O cO L wr.heap.size (fun _ => ⟨none, 0, 0⟩) 0 (fun x => (L x).n + 64) from
        ⟨HP1.out.fresh hk2, ⟨_, hsl, fun k hk => by omega⟩, fun k hk => by omega, fun k j hk => by omega, fun k j hk => by omega, HP1.out.kp.size, fun hr => by have := HP1.out.out.lt hr; omega⟩)
      clear how hg hk2 hsl HP1
      generalize wr.heap.size = gb at *
      clear wr
      go_wp2_with fail
      go_loopg [6, 7] K (fun g s6 _ wr => ∃ (k : Nat) (G : Nat → Ld), k ≤ K ∧ g = K - k ∧ s6 = .int .i64 k ∧ P2 w wr K O cO L gb G k (fun x => (L x).n + 64))
      case atStart => exact ⟨0, _, Nat.zero_le _, rfl, rfl, HQ0.out⟩
      case round =>
        clear HQ0
        obtain ⟨k, G, hk, rfl, rfl, hq⟩ := hrel
        have HQ := hide hq
        clear hq
        by_cases hlt : k < K
        · obtain ⟨go, oo, hO, hc⟩ := HQ.out.base.head hlt
          subst hO
          obtain ⟨n, hn⟩ : ∃ n, (L k).n = n := ⟨_, rfl⟩
          have HN := hide hn
          have hn5 : n ≤ 100000 := hn ▸ HNN.out k hlt
          obtain ⟨A, hA⟩ : ∃ A, (L k).A = A := ⟨_, rfl⟩
          obtain ⟨c, hcc⟩ : ∃ c, (L k).c = c := ⟨_, rfl⟩
          rw [hn, hA, hcc] at hc
          have hkz : (k : Int) < K := by omega
          have hk0 : (0 : Int) ≤ k := by omega
          have HG0 := hide (show ∃ ys, Slab wr 3 1 A (n + 0) c ys ∧ ∀ j, j < n + 0 → ys[j]? = some (.int .i64 (mkI k j)) from by
            obtain ⟨ys, h1, h2⟩ := HQ.out.base.ls k hlt
            rw [hA, hn, hcc] at h1
            rw [hn] at h2
            exact ⟨ys, h1, h2⟩)
          have HM0 := hide (show Mine w K L G k A c from .inl ⟨hA.symm, hcc.symm⟩)
          clear hn hA hcc
          go_wp2_with fail
          go_loopg [7, 8] 64 (fun g s7 s8 wx => ∃ (i : Nat) (A' : Option Addr) (c' : Nat), i ≤ 64 ∧ g = 64 - i ∧ s8 = .int .i64 i ∧ s7 = .slice A' (n + i) c' ∧ P2 w wx K (some ⟨go, oo, none⟩) cO L gb G k (fun x => (L x).n + 64) ∧ Mine w K L G k A' c' ∧ ∃ ys, Slab wx 3 1 A' (n + i) c' ys ∧ ∀ j, j < n + i → ys[j]? = some (.int .i64 (mkI k j)))
          case atStart => exact ⟨0, A, c, by omega, rfl, rfl, rfl, HQ.out, HM0.out, HG0.out⟩
          case round =>
            clear HQ HM0 HG0 hc
            obtain ⟨i, A', c', hi, rfl, rfl, rfl, hq, hm, ys, hs, hy⟩ := hrel
            have HQ := hide hq; have HM := hide hm; have HS := hide hs; have HYS := hide hy
            clear hq hm hs hy
            obtain ⟨go', oo', hO', hc⟩ := HQ.out.base.head hlt
            injection hO' with hO'; injection hO' with e1 e2; subst e1 e2
            rw [HN.out] at hc
            by_cases hil : i < 64
            · have hiz : (i : Int) < 64 := by omega
              have hi0' : (0 : Int) ≤ i := by omega
              obtain ⟨Ak, hAk⟩ : ∃ Ak, (L k).A = Ak := ⟨_, rfl⟩
              obtain ⟨ck, hck⟩ : ∃ ck, (L k).c = ck := ⟨_, rfl⟩
              rw [hAk, hck] at hc
              clear hAk hck
              have HBD := hide (show n + i + 1 ≤ maxLen ∧ (n + i + 1) * 8 ≤ 140737488355328 from by unfold maxLen; omega)
              have hmk : 1000003 * ((k : Int) + 7) + ((n : Int) + (i : Int)) = mkI k (n + i) := by unfold mkI; omega
              have HMK := hide hmk
              clear hmk
              go_wp2_with (first
                | (go_at_call 60; refine (mark_any _ _ _ _ (by omega) (by omega) (by omega) (by omega) HMK.out).mono ?_; rintro e w' ⟨rfl, rfl⟩)
                | (at_builtin; go_loud (refine wpList_append_grew _ rfl (.tmp 57) (.tmp 67) 25 rfl 3 j0 _ 1 8 Tryz.underlying25 hj0 hy0 hy1 hy2 rfl (by omega) A' (n + i) c' ys rfl (HS.out.fresh ((Keeps.refl NoB wr).alloc _)) (fun _ => True) true (some ⟨_, 0, none⟩) 1 1 [.int .i64 (mkI k (n + i))] rfl (int_reads (Blk.new _ 3 #[.int .i64 (mkI k (n + i))])) (by omega) one_ones HBD.out.1 HBD.out.2 ?_)))
              intro A2 c2 w2 h1 h2
              have hgr := (HQ.out.fresh ((Keeps.refl NoB wr).alloc (.cells #[.int .i64 (mkI k (n + i))] 3))).grow (i := i) (c' := c2) (A' := A2) hlt (by rw [HN.out]; exact HS.out.fresh ((Keeps.refl NoB wr).alloc _)) (by rw [HN.out]; exact HYS.out) HM.out 1 [.int .i64 (mkI k (n + i))] (by rw [HN.out]; exact h1) h2
              have HQ2 := hide hgr.1; have HM2 := hide hgr.2
              have HS2 := hide (show ∃ ys', Slab w2 3 1 A2 (n + (i + 1)) c2 ys' ∧ ∀ j, j < n + (i + 1) → ys'[j]? = some (.int .i64 (mkI k j)) from ⟨_, h1, fun j hj => by
                have hyl : ys.length = n + i := by have := HS.out.1; omega
                by_cases e : j < n + i
                · rw [List.getElem?_append_left (by omega)]; exact HYS.out j e
                · obtain rfl : n + i = j := by omega
                  rw [List.getElem?_append_right (by omega), hyl, Nat.sub_self]; rfl⟩)
              clear h1 h2 hgr HS HYS HQ HM
              go_wp2_with fail
              go_roundg (64 - (i + 1))
              case measure => omega
              case rel => exact ⟨i + 1, A2, c2, by omega, rfl, by go_num, rfl, HQ2.out, HM2.out, HS2.out⟩
            · obtain rfl : i = 64 := by omega
              obtain ⟨zs, hz1', hz2'⟩ := HQ.out.row
              have hlK : k < zs.length := by have := hz1'.1; omega
              obtain ⟨⟨gb', ob', sb'⟩, hG, hsG, _, _, hcG⟩ := hz1'.reads.2 (by omega)
              injection hG with hG; injection hG with e1 e2 e3; subst e1 e2 e3
              obtain ⟨zv, hzv⟩ : ∃ zv, zs[k]? = some zv := ⟨_, List.getElem?_eq_getElem hlK⟩
              have g0 : wr.cell? ⟨gb, k, none⟩ = some zv := by have := (hcG k zv hzv).1; simpa using this
              have f0 : wr.frozen? ⟨gb, k, none⟩ = false := by have := (hcG k zv hzv).2 rfl; simpa using this
              have HQ2 := hide (HQ.out.lay hlt (A := A') (c := c') ⟨ys, by rw [HN.out]; exact HS.out, fun j hj => HYS.out j (by rw [← HN.out]; exact hj)⟩ HM.out)
              have HQ2 := hide (show P2 w (wr.setCell ⟨gb, k, none⟩ (.slice A' (n + 64) c')) K (some ⟨go, oo, none⟩) cO L gb (fun x => if x = k then ⟨A', 0, c'⟩ else G x) (k + 1) (fun x => (L x).n + 64) from HN.out ▸ HQ2.out)
              clear hz1' hz2' hcG hsG hzv HQ HS HYS HM hc
              go_wp2_with fail
              go_roundg (K - (k + 1))
              case measure => omega
              case rel => exact ⟨k + 1, _, by omega, rfl, by go_num, HQ2.out⟩
        · obtain rfl : K = k := by omega
          have hkz : ¬ (K : Int) < K := by omega
          go_wp2_with fail
          go_loopg [9] K (fun g s9 wx => ∃ k : Nat, k ≤ K ∧ g = K - k ∧ s9 = .int .i64 k ∧ Keeps NoB wr wx)
          case atStart => exact ⟨0, Nat.zero_le _, rfl, rfl, Keeps.refl _ _⟩
          case round =>
            obtain ⟨k, hk, rfl, rfl, hkp⟩ := hrel
            have HQ3 := hide (HQ.out.fresh hkp)
            have HKP := hide hkp
            clear hkp
            by_cases hlt : k < K
            · obtain ⟨go, oo, hO, hc⟩ := HQ3.out.base.head hlt
              subst hO
              have hcg := HQ3.out.head (k := k) hlt
              obtain ⟨n, hn⟩ : ∃ n, (L k).n = n := ⟨_, rfl⟩
              have HN := hide hn
              have hn5 : n ≤ 100000 := hn ▸ HNN.out k hlt
              obtain ⟨A, hA⟩ : ∃ A, (L k).A = A := ⟨_, rfl⟩
              obtain ⟨c, hcc⟩ : ∃ c, (L k).c = c := ⟨_, rfl⟩
              obtain ⟨A2, hA2⟩ : ∃ A2, (G k).A = A2 := ⟨_, rfl⟩
              obtain ⟨c2, hcc2⟩ : ∃ c2, (G k).c = c2 := ⟨_, rfl⟩
              rw [hn, hA, hcc] at hc
              rw [hn, hA2, hcc2] at hcg
              have HC := hide hc; have HCG := hide hcg
              have HML := hide (show Marked wr A n c k n from by have := HQ3.out.base.ls k hlt; rw [hA, hn, hcc] at this; exact this)
              have HMG := hide (show Marked wr A2 (n + 64) c2 k (n + 64) from by have := HQ3.out.gm k hlt; rw [hA2, hn, hcc2] at this; exact this)
              have hkz : (k : Int) < K := by omega
              have hk0 : (0 : Int) ≤ k := by omega
              clear hn hA hcc hA2 hcc2 hc hcg HQ3
              go_wp2_with fail
              generalize hwq : wr = wq at *
              clear hwq
              go_loopg [10] (n + 64) (fun g s10 wx => ∃ i : Nat, i ≤ n + 64 ∧ g = n + 64 - i ∧ s10 = .int .i64 i ∧ Keeps NoB wq wx)
              case atStart => exact ⟨0, Nat.zero_le _, rfl, rfl, Keeps.refl _ _⟩
              case round =>
                obtain ⟨i, hi, rfl, rfl, hki⟩ := hrel
                have hcg : wr.cell? ⟨gb, k, none⟩ = some (.slice A2 (n + 64) c2) := hki.cell id HCG.out
                have hc : wr.cell? ⟨go, oo + k, none⟩ = some (.slice A n c) := hki.cell id HC.out
                have HKI := hide hki
                by_cases hil : i < n + 64
                · obtain ⟨g2, o2, e2, x2⟩ := (HMG.out.fresh hki).cell hil (Nat.le_refl _)
                  subst e2
                  have hiz : (i : Int) < (n : Int) + 64 := by omega
                  have hi0' : (0 : Int) ≤ i := by omega
                  have b1 : (mkI k i == mkI k i) = true := by simp
                  generalize hv : mkI k i = v at *
                  have HV := hide (show 1000003 * ((k : Int) + 7) + (i : Int) = v from hv)
                  clear hv hki
                  by_cases hin : i < n
                  · obtain ⟨g1, o1, e1, x1⟩ := (HML.out.fresh HKI.out).cell hin (Nat.le_refl _)
                    subst e1
                    rw [mkI, HV.out] at x1
                    have hinz : decide ((i : Int) < n) = true := by simp; omega
                    go_wp2_with (go_quiet ((go_at_call 60; exact Calls.quiet_of_same (mark_q _ _ v _ (by omega) (by omega) (by omega) (by omega) HV.out))))
                    go_roundg (n + 64 - (i + 1))
                    case measure => omega
                    case rel => exact ⟨i + 1, by omega, rfl, by go_num, HKI.out.drewN _⟩
                  · have hinz : decide ((i : Int) < n) = false := by simp; omega
                    go_wp2_with (go_quiet ((go_at_call 60; exact Calls.quiet_of_same (mark_q _ _ v _ (by omega) (by omega) (by omega) (by omega) HV.out))))
                    go_roundg (n + 64 - (i + 1))
                    case measure => omega
                    case rel => exact ⟨i + 1, by omega, rfl, by go_num, HKI.out.drewN _⟩
                · obtain rfl : i = n + 64 := by omega
                  have hiz : ¬ ((n : Int) + 64) < (n : Int) + 64 := by omega
                  go_wp2_with fail
                  go_roundg (K - (k + 1))
                  case measure => omega
                  case rel => exact ⟨k + 1, by omega, rfl, by go_num, HKP.out.trans' HKI.out (fun _ _ => id) (fun _ _ => id)⟩
            · obtain rfl : K = k := by omega
              have hkz : ¬ (K : Int) < K := by omega
              have HQ4 := hide (show P2 w wr K O cO L gb (fun _ => ⟨none, 0, 0⟩) 0 (fun x => (L x).n) from by
                obtain ⟨ys, h1, _⟩ := HQ3.out.row
                exact ⟨HQ3.out.base, ⟨ys, h1, fun k hk => by omega⟩, fun k hk => by omega, fun k j hk => by omega, fun k j hk => by omega, HQ3.out.gn, HQ3.out.og⟩)
              clear HQ3 HQ HKP
              go_wp2_with fail
              go_loopg [11] K (fun g s11 wx => ∃ (k : Nat) (G' : Nat → Ld), k ≤ K ∧ g = K - k ∧ s11 = .int .i64 k ∧ P2 w wx K O cO L gb G' k (fun x => (L x).n))
              case atStart => exact ⟨0, _, Nat.zero_le _, rfl, rfl, HQ4.out⟩
              case round =>
                clear HQ4 G
                obtain ⟨k, G, hk, rfl, rfl, hq⟩ := hrel
                have HQ := hide hq
                clear hq
                by_cases hlt : k < K
                · have hkz : (k : Int) < K := by omega
                  have hk0 : (0 : Int) ≤ k := by omega
                  go_wp2_with (refine wpList_make_full _ rfl _ _ 25 rfl wr.heap.size 3 j0 _ 1 Tryz.underlying25 hj0 hy0 hy1 .i64 .i64 (64 : Int) (64 : Int) 64 rfl rfl rfl rfl HB1.out (by unfold maxLen; omega) (Nat.le_refl _) ?_)
                  intro w2 how hg
                  have hk2 : Keeps NoB wr w2 := (Keeps.refl NoB wr).grown hg (fun k h _ => by cases h)
                  obtain ⟨_, _, hv, hsl⟩ := Slab.of_own how
                  injection hv with hv1 hv2 hv3
                  subst hv1 hv3
                  have hon : ∀ u ∈ (madeCells (Value.int IntKind.i64 0).cells (64 * 1)).toList, u.oneCell' = true := by decide +kernel
                  have HMB := hide (show ∀ b, rowB (some ⟨wr.heap.size, 0, none⟩) b → (∀ j, j < K → ¬ rowB (L j).A b) ∧ (∀ j, j < k → ¬ rowB (G j).A b) ∧ w.heap.size ≤ b from by
                    rintro b ⟨o, e⟩
                    injection e with e; injection e with e
                    subst e
                    refine ⟨fun j hj hr => ?_, fun j hj hr => ?_, HQ.out.base.kp.size⟩
                    · have := (HQ.out.base.ls j hj).lt hr; omega
                    · have := (HQ.out.gm j hj).lt hr; omega)
                  have HI0 := hide (show P2 w w2 K O cO L gb G k (fun x => (L x).n) ∧ ∃ ys, Slab w2 3 1 (some ⟨wr.heap.size, 0, none⟩) 64 64 ys ∧ ∀ u ∈ ys, u.oneCell' = true from ⟨HQ.out.fresh hk2, _, hsl, hon⟩)
                  clear how hg hk2 hsl hon HQ
                  generalize wr.heap.size = mb at *
                  clear wr
                  go_wp2_with fail
                  go_loopg [13] 64 (fun g s13 wx => ∃ i : Nat, i ≤ 64 ∧ g = 64 - i ∧ s13 = .int .i64 i ∧ P2 w wx K O cO L gb G k (fun x => (L x).n) ∧ ∃ ys, Slab wx 3 1 (some ⟨mb, 0, none⟩) 64 64 ys ∧ ∀ u ∈ ys, u.oneCell' = true)
                  case atStart => exact ⟨0, by omega, rfl, rfl, HI0.out⟩
                  case round =>
                    clear HI0
                    obtain ⟨i, hi, rfl, rfl, hq, ys, hs, hon⟩ := hrel
                    have HQ := hide hq; have HS := hide hs; have HON := hide hon
                    clear hq hs hon
                    by_cases hil : i < 64
                    · have hiz : (i : Int) < 64 := by omega
                      have hi0' : (0 : Int) ≤ i := by omega
                      obtain ⟨⟨g1, o1, s1⟩, hA1, _, _, _, hc1⟩ := HS.out.reads.2 (by omega)
                      injection hA1 with hA1; injection hA1 with e1 e2 e3; subst e1 e2
                      obtain ⟨yv, hyv⟩ : ∃ yv, ys[i]? = some yv := ⟨_, List.getElem?_eq_getElem (by have := HS.out.1; omega)⟩
                      have m0 : wr.cell? ⟨mb, i, none⟩ = some yv := by have := (hc1 i yv hyv).1; simpa using this
                      have mf : wr.frozen? ⟨mb, i, none⟩ = false := by have := (hc1 i yv hyv).2 rfl; simpa using this
                      clear hc1 hyv e3
                      obtain ⟨v, hv⟩ : ∃ v, 1000003 * ((k : Int) + (K : Int) + 7) + (i : Int) = v := ⟨_, rfl⟩
                      have HV := hide hv
                      have HQ2 := hide (HQ.out.keepInts (A := some ⟨mb, 0, none⟩) (n := 64) (c := 64) (k := 0) (q := 0) ⟨ys, HS.out, fun j hj => by omega⟩ ((Keeps.refl _ wr).setCell (p := ⟨mb, i, none⟩) (.inl ⟨0, rfl⟩) (.int .i64 v)) HMB.out)
                      have HS2 := hide (show Slab (wr.setCell ⟨mb, i, none⟩ (.int .i64 v)) 3 1 (some ⟨mb, 0, none⟩) 64 64 (ys.set i (.int .i64 v)) from by have := HS.out.put (j := i) hil (.int .i64 v); rw [Nat.zero_add] at this; exact this)
                      clear hv
                      go_wp2_with (go_at_call 60; refine (mark_any _ _ _ _ (by omega) (by omega) (by omega) (by omega) HV.out).mono ?_; rintro e w' ⟨rfl, rfl⟩)
                      go_roundg (64 - (i + 1))
                      case measure => omega
                      case rel => exact ⟨i + 1, by omega, rfl, by go_num, HQ2.out, _, HS2.out, fun u hu => by
                        rcases List.mem_or_eq_of_mem_set hu with h | h
                        · exact HON.out u h
                        · rw [h]; rfl⟩
                    · obtain rfl : i = 64 := by omega
                      obtain ⟨go, oo, hO, hc⟩ := HQ.out.base.head hlt
                      subst hO
                      obtain ⟨n, hn⟩ : ∃ n, (L k).n = n := ⟨_, rfl⟩
                      have HN := hide hn
                      have hn5 : n ≤ 100000 := hn ▸ HNN.out k hlt
                      obtain ⟨A, hA⟩ : ∃ A, (L k).A = A := ⟨_, rfl⟩
                      obtain ⟨c, hcc⟩ : ∃ c, (L k).c = c := ⟨_, rfl⟩
                      rw [hn, hA, hcc] at hc
                      obtain ⟨xs, hx1, hx2⟩ := HQ.out.base.ls k hlt
                      rw [hA, hn, hcc] at hx1
                      rw [hn] at hx2
                      have HX1 := hide hx1; have HX2 := hide hx2
                      have HM := hide (show Mine w K L G k A c from .inl ⟨hA.symm, hcc.symm⟩)
                      have HBD := hide (show n + 64 ≤ maxLen ∧ (n + 64) * 8 ≤ 140737488355328 from by unfold maxLen; omega)
                      clear hn hA hcc hx1 hx2
                      go_wp2_with (at_builtin; go_loud (refine wpList_append_grew _ rfl (.tmp 148) (.tmp 149) 25 rfl 3 j0 _ 1 8 Tryz.underlying25 hj0 hy0 hy1 hy2 rfl (by omega) A n c xs rfl HX1.out _ _ (some ⟨mb, 0, none⟩) 64 64 ys rfl HS.out.reads (by omega) HON.out HBD.out.1 HBD.out.2 ?_))
                      intro A' c' w2 h1 h2
                      have hgr := HQ.out.grow (i := 0) (c' := c') (A' := A') hlt (by rw [HN.out]; exact HX1.out) (by rw [HN.out]; exact HX2.out) HM.out 64 ys (by rw [HN.out]; exact h1) h2
                      obtain ⟨zv, g0, f0⟩ := hgr.1.slot hlt
                      have HQ2 := hide (hgr.1.lay hlt (A := A') (c := c') ⟨_, by rw [HN.out]; exact h1, fun j hj => by
                        have hxl : xs.length = n := by have := HX1.out.1; omega
                        have hj' : j < n := by have := HN.out; omega
                        rw [List.getElem?_append_left (by omega)]; exact HX2.out j hj'⟩ hgr.2)
                      have HQ2 := hide (show P2 w (w2.setCell ⟨gb, k, none⟩ (.slice A' (n + 64) c')) K (some ⟨go, oo, none⟩) cO L gb (fun x => if x = k then ⟨A', 0, c'⟩ else G x) (k + 1) (fun x => (L x).n) from HN.out ▸ HQ2.out)
                      clear h1 h2 hgr HQ HX1 HX2 HM HS HON hc
                      go_wp2_with fail
                      go_roundg (K - (k + 1))
                      case measure => omega
                      case rel => exact ⟨k + 1, _, by omega, rfl, by go_num, HQ2.out⟩
                · obtain rfl : K = k := by omega
                  have hkz : ¬ (K : Int) < K := by omega
                  go_wp2_with fail
                  go_loopg [14] K (fun g s14 wx => ∃ k : Nat, k ≤ K ∧ g = K - k ∧ s14 = .int .i64 k ∧ Keeps NoB wr wx)
                  case atStart => exact ⟨0, Nat.zero_le _, rfl, rfl, Keeps.refl _ _⟩
                  case round =>
                    obtain ⟨k, hk, rfl, rfl, hkp⟩ := hrel
                    have HQ3 := hide (HQ.out.fresh hkp)
                    have HKP := hide hkp
                    clear hkp
                    by_cases hlt : k < K
                    · obtain ⟨go, oo, hO, hc⟩ := HQ3.out.base.head hlt
                      subst hO
                      have hcg := HQ3.out.head (k := k) hlt
                      obtain ⟨n, hn⟩ : ∃ n, (L k).n = n := ⟨_, rfl⟩
                      have hn5 : n ≤ 100000 := hn ▸ HNN.out k hlt
                      obtain ⟨A, hA⟩ : ∃ A, (L k).A = A := ⟨_, rfl⟩
                      obtain ⟨c, hcc⟩ : ∃ c, (L k).c = c := ⟨_, rfl⟩
                      obtain ⟨A2, hA2⟩ : ∃ A2, (G k).A = A2 := ⟨_, rfl⟩
                      obtain ⟨c2, hcc2⟩ : ∃ c2, (G k).c = c2 := ⟨_, rfl⟩
                      rw [hn, hA, hcc] at hc
                      rw [hn, hA2, hcc2] at hcg
                      have HC := hide hc; have HCG := hide hcg
                      have HML := hide (show Marked wr A n c k n from by have := HQ3.out.base.ls k hlt; rw [hA, hn, hcc] at this; exact this)
                      have HMG := hide (show Marked wr A2 (n + 64) c2 k n from by have := HQ3.out.gm k hlt; rw [hA2, hn, hcc2] at this; exact this)
                      have hkz : (k : Int) < K := by omega
                      have hk0 : (0 : Int) ≤ k := by omega
                      clear hn hA hcc hA2 hcc2 hc hcg HQ3
                      go_wp2_with fail
                      generalize hwq : wr = wq at *
                      clear hwq
                      go_loopg [15] n (fun g s15 wx => ∃ i : Nat, i ≤ n ∧ g = n - i ∧ s15 = .int .i64 i ∧ Keeps NoB wq wx)
                      case atStart => exact ⟨0, Nat.zero_le _, rfl, rfl, Keeps.refl _ _⟩
                      case round =>
                        obtain ⟨i, hi, rfl, rfl, hki⟩ := hrel
                        have hcg : wr.cell? ⟨gb, k, none⟩ = some (.slice A2 (n + 64) c2) := hki.cell id HCG.out
                        have hc : wr.cell? ⟨go, oo + k, none⟩ = some (.slice A n c) := hki.cell id HC.out
                        have HKI := hide hki
                        by_cases hil : i < n
                        · obtain ⟨g2, o2, e2, x2⟩ := (HMG.out.fresh hki).cell hil (by omega)
                          obtain ⟨g1, o1, e1, x1⟩ := (HML.out.fresh hki).cell hil (Nat.le_refl _)
                          subst e2
                          subst e1
                          have hiz : (i : Int) < (n : Int) := by omega
                          have hiz2 : (i : Int) < (n : Int) + 64 := by omega
                          have hi0' : (0 : Int) ≤ i := by omega
                          have b1 : (mkI k i == mkI k i) = true := by simp
                          generalize hv : mkI k i = v at *
                          have HV := hide (show 1000003 * ((k : Int) + 7) + (i : Int) = v from hv)
                          clear hv hki
                          go_wp2_with (go_quiet ((go_at_call 60; exact Calls.quiet_of_same (mark_q _ _ v _ (by omega) (by omega) (by omega) (by omega) HV.out))))
                          go_roundg (n - (i + 1))
                          case measure => omega
                          case rel => exact ⟨i + 1, by omega, rfl, by go_num, HKI.out.drewN _⟩
                        · obtain rfl : i = n := by omega
                          have hiz : ¬ (i : Int) < (i : Int) := by omega
                          go_wp2_with fail
                          go_roundg (K - (k + 1))
                          case measure => omega
                          case rel => exact ⟨k + 1, by omega, rfl, by go_num, HKP.out.trans' HKI.out (fun _ _ => id) (fun _ _ => id)⟩
                    · obtain rfl : K = k := by omega
                      have hkz : ¬ (K : Int) < K := by omega
                      go_wp2_with fail
                      go_ret
                      exact ⟨rfl, HQ3.out.base.kp⟩
end Go.Proofs.YtjmljjmnamfljaaGreat
