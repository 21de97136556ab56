/- pigeonholelaw16: ClockLives. -/
import Derived.Test.YtaiphjgklfioeaaStep
import Derived.Test.YtaiphjgklfioeaaApartInts
namespace Go.Proofs.Ytaiphjgklfioeaa
open Go.RowKit

section
variable {P : Program} {ops : Array Oper} {Q : Exit → Act → World → Prop} {S T : World → Prop} {need : Nat → Bool}
theorem wpAnyN_more : ∀ (fuel : Nat) (listed : Array Bool) (a : Act) (w : World), S w → T w → wpAnyN P ops Q (fun W => S W ∧ T W) (fun _ => true) fuel listed a w → wpAnyN P ops Q S need fuel listed a w
  | 0, _, _, _, _, _, h => h
  | fuel + 1, _, _, _, hS, hT, h => ⟨h.1, fun i hi => wpOp_mono (fun a' w' h' => by
      have h2 := h'.1 rfl ⟨hS, hT⟩
      exact ⟨fun _ _ => h2.1, wpAnyN_more fuel _ a' w' h2.1 h2.2 h'.2⟩) (h.2 i hi)⟩
/-- A condition more, from here on. -/
theorem order_more {fuel : Nat} {done : List Nat} {a : Act} {w : World} (T : World → Prop) (hS : S w) (hT : T w) (h : Order P ops Q (fun W => S W ∧ T W) (fun _ => true) fuel done a w) : Order P ops Q S need fuel done a w :=
  fun listed hag => wpAnyN_more fuel listed a w hS hT (h listed hag)
end

def LivesInv (w wx : World) (b r i : Nat) : Prop := ∃ (A : Option Addr) (c : Nat) (B : Option Addr) (f : Nat) (s : St) (R : List Wt), Both w wx b A c r B f s R ∧ s.L.length ≤ i

theorem lives_start (w : World) : LivesInv w ((w.alloc (.cells #[.int .i64 0, .bool true, .slice none 0 0] 47)).alloc (.cells #[.int .i64 0, .slice none 0 0] 39)) w.heap.size (w.heap.size + 1) 0 := by
  have r1 := Run.new w w (Keeps.refl NoB w)
  have hb : Blk ((w.alloc (.cells #[.int .i64 0, .bool true, .slice none 0 0] 47)).alloc (.cells #[.int .i64 0, .slice none 0 0] 39)) (w.heap.size + 1) 39 #[.int .i64 0, .slice none 0 0] := by
    have := Blk.new (w.alloc (.cells #[.int .i64 0, .bool true, .slice none 0 0] 47)) 39 #[.int .i64 0, .slice none 0 0]
    simpa using this
  exact ⟨none, 0, none, 0, ⟨0, []⟩, [], ⟨r1.fresh ((Keeps.refl NoB _).alloc _), ⟨⟨hb, Slab.nil _ _ _⟩, by omega, fun k ⟨o, h⟩ => by cases h⟩, List.Perm.refl _⟩, Nat.le_refl _⟩

theorem Both.ints {w w' w'' : World} {b c r f k xc : Nat} {A B X : Option Addr} {s : St} {R : List Wt} {xs : List Value} (h : Both w w' b A c r B f s R) (hX : Slab w' 3 1 X k xc xs) (hk : Keeps (rowB X) w' w'') (hf : ∀ j, rowB X j → w.heap.size ≤ j) : Both w w'' b A c r B f s R :=
  ⟨h.one.ints hX hk hf, ⟨h.ref.at'.keepInts hX hk, h.ref.hr, h.ref.hB⟩, h.perm⟩
def twoL (X1 X2 : Option Addr) (n c1 c2 : Nat) (k : Nat) : Ld := if k = 0 then ⟨X1, n, c1⟩ else ⟨X2, n, c2⟩

theorem two_reads {w : World} {g n c1 c2 : Nat} {X1 X2 : Option Addr} (h : Blk w g 30 #[.slice X1 n c1, .slice X2 n c2]) : Reads w (fun _ => True) true 1 (some ⟨g, 0, none⟩) 2 (cellsL (twoL X1 X2 n c1 c2) 2) := by
  refine ⟨by simp [cellsL], fun _ => ⟨_, rfl, rfl, trivial, h.lt, fun j u hu => ⟨?_, fun _ => h.free _⟩⟩⟩
  rw [h.cell, ← hu]; simp [cellsL, twoL, List.range_succ]

set_option maxRecDepth 100000 in
set_option maxHeartbeats 8000000 in
theorem clock_lives (A : Option Addr) (n c : Nat) (hnc : n ≤ c) (E : List Do) (w : World) (h : DosAt w A n E) : Calls Try.prog 4 #[.slice A n c] w fun e w' => e = .returned (.bool true) ∧ Keeps NoB w w' := by
  have H := hide h; clear h
  go_enter Try.func4, Try.ntmps4
  go_upto_if 10 with fail
  go_cut [0] (fun s0 wx => wx = w ∧ ∃ m : Nat, m ≤ 80 ∧ m ≤ n ∧ s0 = .slice A m c)
  case first =>
    by_cases h80 : n ≤ 80
    · have hz : (n : Int) ≤ 80 := by omega
      go_wp2_with fail
      go_meet
      exact ⟨rfl, n, h80, Nat.le_refl _, rfl⟩
    · have hz : (80 : Int) < n := by omega
      have hzc : (80 : Int) ≤ c := by omega
      go_wp2_with fail
      go_meet
      exact ⟨rfl, 80, Nat.le_refl _, by omega, rfl⟩
  case rest =>
    obtain ⟨rfl, m, hm80, hmn, rfl⟩ := hcut
    go_wp2_with
      first
      | (go_at_call 9
         refine (new_any _).mono ?_
         rintro e w' ⟨rfl, rfl⟩)
      | fail
    have HI := hide (lives_start wc)
    have HD := hide (H.out.upto hmn)
    generalize (wc.alloc (.cells #[.int .i64 0, .bool true, .slice none 0 0] 47)).alloc (.cells #[.int .i64 0, .slice none 0 0] 39) = w3 at *
    generalize hcb : wc.heap.size = cb at *
    clear hcb
    go_loopg [5] m (fun g s5 wx => ∃ i : Nat, i ≤ m ∧ g = m - i ∧ s5 = .int .i64 i ∧ LivesInv wc wx cb (cb + 1) i)
    case atStart => exact ⟨0, Nat.zero_le _, rfl, rfl, HI.out⟩
    case round =>
      clear HI
      obtain ⟨i, him, rfl, rfl, C1, n1, B1, f1, s, R, hb, hlen⟩ := hrel
      have HB := hide hb
      clear hb
      by_cases hi : i < m
      · obtain ⟨x, hx⟩ : ∃ x, (E.take m)[i]? = some x := ⟨_, List.getElem?_eq_getElem (by rw [HD.out.1]; exact hi)⟩
        obtain ⟨ab, ao, hA, d0, d1, d2⟩ := HD.out.2 i x hx
        subst hA
        obtain ⟨op, pid, nn⟩ := x
        simp only at d0 d1 d2
        have hi1 : (i : Int) < (m : Int) := by omega
        have hi0 : (0 : Int) ≤ (i : Int) := by omega
        have D0 := hide d0; have D1 := hide d1; have D2 := hide d2
        clear hx d0 d1 d2
        go_wp2_with fail
        refine order_begin (fun W => Keeps NoB wc W) (fun _ => true) (by kernel_rfl) 25 rfl ?_
        have HS : Keeps NoB wc wr.drew := HB.out.one.keep.drew
        refine order_pure (i := 0) rfl (by kernel_rfl) (fun _ _ _ h => h) (.inl ⟨rfl, fun _ => by go_simp; rfl⟩) ?_
        try simp only [Act.put, List.setIfInBounds_toArray, List.set_cons_succ, List.set_cons_zero]
        refine order_pure (i := 1) rfl (by kernel_rfl) (fun _ _ _ h => h) (.inl ⟨rfl, fun _ => by go_simp; rfl⟩) ?_
        try simp only [Act.put, List.setIfInBounds_toArray, List.set_cons_succ, List.set_cons_zero]
        refine order_pure (i := 2) rfl (by kernel_rfl) (fun _ _ _ h => h) (.inl ⟨rfl, fun _ => by go_simp; rfl⟩) ?_
        try simp only [Act.put, List.setIfInBounds_toArray, List.set_cons_succ, List.set_cons_zero]
        refine order_pure (i := 3) rfl (by kernel_rfl) (fun _ _ _ h => h) (.inl ⟨rfl, fun _ => by go_simp; rfl⟩) ?_
        try simp only [Act.put, List.setIfInBounds_toArray, List.set_cons_succ, List.set_cons_zero]
        refine order_pure (i := 4) rfl (by kernel_rfl) (fun _ _ _ h => h) (.inl ⟨rfl, fun _ => by go_simp; rfl⟩) ?_
        try simp only [Act.put, List.setIfInBounds_toArray, List.set_cons_succ, List.set_cons_zero]
        refine order_held (i := 5) rfl (by kernel_rfl) (fun _ _ _ h => h) (.inl ⟨rfl, fun W hW => by
          have q0 : W.cell? ⟨ab, ao + i * 3, none⟩ = some (.int .i64 op) := hW.cell id D0.out
          have q1 : W.cell? ⟨ab, ao + i * 3 + 1, none⟩ = some (.int .i64 pid) := hW.cell id D1.out
          have q2 : W.cell? ⟨ab, ao + i * 3 + 2, none⟩ = some (.int .i64 nn) := hW.cell id D2.out
          go_simp; rfl⟩) HS ?_
        try simp only [Act.put, List.setIfInBounds_toArray, List.set_cons_succ, List.set_cons_zero]
        refine order_one (i := 6) rfl (by kernel_rfl) (fun K hK => ?_)
        go_simp
        refine (step_any cb n1 (cb + 1) f1 C1 B1 s R op pid nn wc _ (HB.out.fresh (Keeps.refl NoB wr).drew) (by omega)).mono ?_
        rintro e w4 ⟨C2, n2, B2, f2, s2, R2, rfl, hb2, hl2⟩
        refine hK _ _ (fun _ _ => hb2.one.keep) ?_
        have HB2 := hide hb2
        have HR0 := hide (show w4.cell? ⟨cb + 1, 0, none⟩ = some (.int .i64 s2.now) from hb2.ref.at'.blk.cell 0)
        have HL2 := hide hl2
        clear hK HS hb2 hl2
        try simp only [Act.put, List.setIfInBounds_toArray, List.set_cons_succ, List.set_cons_zero]
        refine order_more (fun W => W.cell? ⟨cb + 1, 0, none⟩ = some (.int .i64 s2.now)) HB2.out.one.keep HR0.out ?_
        have HS := And.intro HB2.out.one.keep HR0.out
        refine order_pure (i := 7) rfl (by kernel_rfl) (fun _ _ _ h => h) (.inl ⟨rfl, fun _ => by go_simp; rfl⟩) ?_
        try simp only [Act.put, List.setIfInBounds_toArray, List.set_cons_succ, List.set_cons_zero]
        refine order_pure (i := 8) rfl (by kernel_rfl) (fun _ _ _ h => h) (.inl ⟨rfl, fun _ => by go_simp; rfl⟩) ?_
        try simp only [Act.put, List.setIfInBounds_toArray, List.set_cons_succ, List.set_cons_zero]
        refine order_pure (i := 9) rfl (by kernel_rfl) (fun _ _ _ h => h) (.inl ⟨rfl, fun _ => by go_simp; rfl⟩) ?_
        try simp only [Act.put, List.setIfInBounds_toArray, List.set_cons_succ, List.set_cons_zero]
        refine order_pure (i := 11) rfl (by kernel_rfl) (fun _ _ _ h => h) (.inl ⟨rfl, fun _ => by go_simp; rfl⟩) ?_
        try simp only [Act.put, List.setIfInBounds_toArray, List.set_cons_succ, List.set_cons_zero]
        refine order_pure (i := 12) rfl (by kernel_rfl) (fun _ _ _ h => h) (.inl ⟨rfl, fun _ => by go_simp; rfl⟩) ?_
        try simp only [Act.put, List.setIfInBounds_toArray, List.set_cons_succ, List.set_cons_zero]
        refine order_pure (i := 13) rfl (by kernel_rfl) (fun _ _ _ h => h) (.inl ⟨rfl, fun _ => by go_simp; rfl⟩) ?_
        try simp only [Act.put, List.setIfInBounds_toArray, List.set_cons_succ, List.set_cons_zero]
        refine order_held (i := 14) rfl (by kernel_rfl) (fun _ _ _ h => h) (.inl ⟨rfl, fun W hW => by
          have q0 : W.cell? ⟨cb + 1, 0, none⟩ = some (.int .i64 s2.now) := hW.2
          go_simp; rfl⟩) HS ?_
        try simp only [Act.put, List.setIfInBounds_toArray, List.set_cons_succ, List.set_cons_zero]
        refine order_one (i := 10) rfl (by kernel_rfl) (fun K hK => ?_)
        go_simp
        refine (now_at cb s2.now w4 (HB2.out.one.at'.blk.cell 1) (HB2.out.one.at'.blk.cell 0)).mono ?_
        rintro e w' ⟨rfl, rfl⟩
        refine hK _ _ (fun _ h => h) ?_
        clear hK
        try simp only [Act.put, List.setIfInBounds_toArray, List.set_cons_succ, List.set_cons_zero]
        have hnn : (s2.now != s2.now) = false := by simp
        refine order_pure (i := 15) rfl (by kernel_rfl) (fun _ _ _ h => h) (.inl ⟨rfl, fun _ => by go_simp; rfl⟩) ?_
        try simp only [Act.put, List.setIfInBounds_toArray, List.set_cons_succ, List.set_cons_zero]
        refine order_pure (i := 16) rfl (by kernel_rfl) (fun _ _ _ h => h) (.inl ⟨rfl, fun _ => by go_simp; rfl⟩) ?_
        try simp only [Act.put, List.setIfInBounds_toArray, List.set_cons_succ, List.set_cons_zero]
        refine order_pure (i := 17) rfl (by kernel_rfl) (fun _ _ _ h => h) (.inl ⟨rfl, fun _ => by go_simp; rfl⟩) ?_
        try simp only [Act.put, List.setIfInBounds_toArray, List.set_cons_succ, List.set_cons_zero]
        refine order_pure (i := 18) rfl (by kernel_rfl) (fun _ _ _ h => h) (.inl ⟨rfl, fun _ => by go_simp; rfl⟩) ?_
        try simp only [Act.put, List.setIfInBounds_toArray, List.set_cons_succ, List.set_cons_zero]
        refine order_pure (i := 20) rfl (by kernel_rfl) (fun _ _ _ h => h) (.inl ⟨rfl, fun _ => by go_simp; rfl⟩) ?_
        try simp only [Act.put, List.setIfInBounds_toArray, List.set_cons_succ, List.set_cons_zero]
        clear hnn
        refine order_one (i := 19) rfl (by kernel_rfl) (fun K hK => ?_)
        go_simp
        refine (waits_any cb n2 C2 s2 w4 HB2.out.one.at' (by have := HL2.out; omega)).mono ?_
        rintro e w5 ⟨X, xc, rfl, hk, hx, _⟩
        have hk5 : Keeps NoB w4 w5 := hk
        refine hK _ _ (fun _ h => ⟨h.1.trans' hk5 (fun _ _ => id) (fun _ _ => id), hk5.cell id h.2⟩) ?_
        have HB3 := hide (HB2.out.fresh hk5); have HX := hide hx
        clear hK hk hx HS hk5
        try simp only [Act.put, List.setIfInBounds_toArray, List.set_cons_succ, List.set_cons_zero]
        refine order_one (i := 21) rfl (by kernel_rfl) (fun K hK => ?_)
        go_simp
        refine (rwaits_any (cb + 1) f2 B2 s2.now s2.L R2 w5 HB3.out.ref.at' HB3.out.perm HB3.out.one.at'.good.up HB3.out.one.at'.good.once (by rw [HB3.out.perm.length_eq]; have := HL2.out; omega)).mono ?_
        rintro e w6 ⟨Y, yc, rfl, hk, hy, _⟩
        have hk6 : Keeps NoB w5 w6 := hk
        refine hK _ _ (fun _ h => ⟨h.1.trans' hk6 (fun _ _ => id) (fun _ _ => id), hk6.cell id h.2⟩) ?_
        have HB4 := hide (HB3.out.fresh hk6); have HX := hide (HX.out.fresh hk6); have HY := hide hy
        clear hK hk hy hk6
        try simp only [Act.put, List.setIfInBounds_toArray, List.set_cons_succ, List.set_cons_zero]
        refine order_one (i := 22) rfl (by kernel_rfl) (fun K hK => ?_)
        go_simp
        refine (same_yes X Y _ xc _ yc (pidsOf s2.L) w6 _ _ _ _ (by have h := HX.out.reads; rw [List.length_map] at h; exact h) (by have h := HY.out.reads; rw [List.length_map] at h; exact h) (Roomy.small (by have := HL2.out; omega) (by omega))).mono ?_
        rintro e w7 ⟨rfl, hk⟩
        have hk7 : Keeps NoB w6 w7 := hk
        refine hK _ _ (fun _ h => ⟨h.1.trans' hk7 (fun _ _ => id) (fun _ _ => id), hk7.cell id h.2⟩) ?_
        have HB5 := hide (HB4.out.fresh hk7)
        clear hK hk hk7 HX HY
        try simp only [Act.put, List.setIfInBounds_toArray, List.set_cons_succ, List.set_cons_zero]
        refine order_pure (i := 23) rfl (by kernel_rfl) (fun _ _ _ h => h) (.inl ⟨rfl, fun _ => by go_simp; rfl⟩) ?_
        try simp only [Act.put, List.setIfInBounds_toArray, List.set_cons_succ, List.set_cons_zero]
        refine order_pure (i := 24) rfl (by kernel_rfl) (fun _ _ _ h => h) (.inl ⟨rfl, fun _ => by go_simp; rfl⟩) ?_
        try simp only [Act.put, List.setIfInBounds_toArray, List.set_cons_succ, List.set_cons_zero]
        refine order_done (by kernel_rfl) ?_
        go_wp2_with fail
        go_roundg (m - (i + 1))
        case measure => omega
        case rel => exact ⟨i + 1, by omega, rfl, by go_num, C2, n2, B2, f2, s2, R2, HB5.out, by have := HL2.out; omega⟩
      · have hi1 : ¬ (i : Int) < (m : Int) := by omega
        have hl80 : s.L.length ≤ 80 := by omega
        go_wp2_with fail
        refine (waits_any cb n1 C1 s wr HB.out.one.at' (by omega)).mono ?_
        rintro e w4 ⟨X, xc, rfl, hk, hx, hxn⟩
        have HB2 := hide (HB.out.fresh hk)
        have HX := hide (show ∃ zs, Slab w4 3 1 X s.L.length xc (ints zs) from ⟨pidsOf s.L, by have h := hx; rw [List.length_map] at h; exact h⟩)
        have HXN := hide (show ∀ b, rowB X b → wc.heap.size ≤ b from fun b hb => Nat.le_trans HB.out.one.keep.size (hxn b hb))
        clear hk hx hxn HB
        obtain ⟨tl, htl⟩ : ∃ tl, s.L.length = tl := ⟨_, rfl⟩
        rw [htl] at HX hl80 ⊢
        have HTL := hide htl
        clear htl
        go_wp2_with fail
        go_loopg [7] tl (fun g s7 wx => ∃ k : Nat, k ≤ tl ∧ g = tl - k ∧ s7 = .int .i64 k ∧ Keeps (rowB X) w4 wx ∧ ∃ zs, Slab wx 3 1 X tl xc (ints zs))
        case atStart => exact ⟨0, Nat.zero_le _, rfl, rfl, Keeps.refl _ _, HX.out⟩
        case round =>
          obtain ⟨k, hkt, rfl, rfl, hk, hz⟩ := hrel
          have HK := hide hk; have HZ := hide hz
          clear hk hz
          by_cases hlt : k < tl
          · obtain ⟨zs, hzs⟩ := HZ.out
            obtain ⟨⟨g, o, sp⟩, hA, hs, _, _, hc⟩ := hzs.reads.2 (by omega)
            simp only at hs
            subst hs hA
            have hzl : zs.length = tl := by have := hzs.1; simpa using this
            obtain ⟨z, hzk⟩ : ∃ z, zs[k]? = some z := ⟨_, List.getElem?_eq_getElem (by omega)⟩
            have h2 := hc k (.int .i64 z) (by rw [List.getElem?_map, hzk]; rfl)
            have c1 := h2.1
            have f1 := h2.2 rfl
            have HS := hide hzs
            have hkz : (k : Int) < tl := by omega
            have hk0 : (0 : Int) ≤ k := by omega
            clear h2 hc hzs hzk hzl HZ
            go_wp2_with fail
            go_roundg (tl - (k + 1))
            case measure => omega
            case rel => exact ⟨k + 1, by omega, rfl, by go_num, HK.out.trans' ((Keeps.refl (rowB (some ⟨g, o, none⟩)) wr).setCell (p := ⟨g, o + k, none⟩) (.inl ⟨o, rfl⟩) (.int .i64 (wrap64 (z + 1)))) (fun _ _ h => h) (fun _ _ h => h), zs.set k (wrap64 (z + 1)), by have h := HS.out.put (j := k) hlt (.int .i64 (wrap64 (z + 1))); rw [show (ints zs).set k (.int .i64 (wrap64 (z + 1))) = ints (zs.set k (wrap64 (z + 1))) from (List.map_set ..).symm] at h; exact h⟩
          · obtain rfl : tl = k := by omega
            have hkz : ¬ (tl : Int) < tl := by omega
            have HB3 := hide (HX.out.elim fun _ hx => HB2.out.ints hx HK.out HXN.out)
            clear HK HZ HX HXN HB2 hlt
            go_wp2_with fail
            refine (waits_any cb n1 C1 s wr HB3.out.one.at' (by have := HTL.out; omega)).mono ?_
            rintro e w5 ⟨X1, c1, rfl, hk, hx, _⟩
            have HB4 := hide (HB3.out.fresh hk); have HX := hide hx
            clear hk hx HB3
            go_wp2_with fail
            refine (rwaits_any (cb + 1) f1 B1 s.now s.L R w5 HB4.out.ref.at' HB4.out.perm HB4.out.one.at'.good.up HB4.out.one.at'.good.once (by rw [HB4.out.perm.length_eq]; have := HTL.out; omega)).mono ?_
            rintro e w6 ⟨Y, yc, rfl, hk, hy, _⟩
            have HB5 := hide (HB4.out.fresh hk); have HX := hide (HX.out.fresh hk); have HY := hide hy
            clear hk hy HB4
            go_wp2_with fail
            refine (same_yes X1 Y _ c1 _ yc (pidsOf s.L) w6 _ _ _ _ (by have h := HX.out.reads; rw [List.length_map] at h; exact h) (by have h := HY.out.reads; rw [List.length_map] at h; exact h) (Roomy.small (by have := HTL.out; omega) (by omega))).mono ?_
            rintro e w7 ⟨rfl, hk⟩
            have HB6 := hide (HB5.out.fresh hk)
            clear hk HX HY HB5
            go_wp2_with fail
            refine (waits_any cb n1 C1 s w7 HB6.out.one.at' (by have := HTL.out; omega)).mono ?_
            rintro e w8 ⟨X1, c1, rfl, hk, hx, hxn⟩
            have HB7 := hide (HB6.out.fresh hk); have HX := hide (And.intro hx (fun b hb => Nat.le_trans HB6.out.one.keep.size (hxn b hb)))
            clear hk hx hxn HB6
            go_wp2_with fail
            refine (waits_any cb n1 C1 s w8 HB7.out.one.at' (by have := HTL.out; omega)).mono ?_
            rintro e w9 ⟨X2, c2, rfl, hk, hx, hxn⟩
            have HB8 := hide (HB7.out.fresh hk); have HX1 := hide (HX.out.1.fresh hk); have HX2 := hide hx
            have HAP := hide (show ∀ b, rowB X1 b → ¬ rowB X2 b from fun b h1 h2 => by have := HX.out.1.lt h1; have := hxn b h2; omega)
            have HG := hide (And.intro HX.out.2 (fun b hb => Nat.le_trans HB7.out.one.keep.size (hxn b hb)))
            clear hk hx hxn HB7 HX
            go_wp2_with fail
            have hkn : Keeps NoB w9 (w9.alloc (.cells #[.slice X1 s.L.length c1, .slice X2 s.L.length c2] 30)) := (Keeps.refl NoB w9).alloc _
            refine (apart_ints 2 2 (some ⟨w9.heap.size, 0, none⟩) (twoL X1 X2 s.L.length c1 c2) _ (fun _ => True) true (two_reads (Blk.new w9 30 _)) (fun k hk => ?_) (fun k j hk hj hkj b h1 h2 => ?_) (by omega) (fun k hk => ?_)).mono ?_
            · rcases (by omega : k = 0 ∨ k = 1) with rfl | rfl
              · exact ⟨_, by have h := HX1.out.fresh hkn; rw [List.length_map] at h; exact h⟩
              · exact ⟨_, by have h := HX2.out.fresh hkn; rw [List.length_map] at h; exact h⟩
            · rcases (by omega : k = 0 ∧ j = 1 ∨ k = 1 ∧ j = 0) with ⟨rfl, rfl⟩ | ⟨rfl, rfl⟩
              · exact HAP.out b h1 h2
              · exact HAP.out b h2 h1
            · have := HTL.out
              rcases (by omega : k = 0 ∨ k = 1) with rfl | rfl
              · show s.L.length ≤ 100000; omega
              · show s.L.length ≤ 100000; omega
            rintro e w10 ⟨rfl, hk⟩
            have HF := hide ((HB8.out.one.keep.trans' hkn (fun _ _ => id) (fun _ _ => id)).trans' hk (fun _ _ => id) (fun b hb hf => by
              obtain ⟨k, hk2, hf⟩ := hf
              rcases (by omega : k = 0 ∨ k = 1) with rfl | rfl
              · have := HG.out.1 b hf; omega
              · have := HG.out.2 b hf; omega) : Keeps NoB wc w10)
            clear hk hkn HX1 HX2 HAP HG HB8
            go_wp2_with fail
            refine (awake_any w10).mono ?_
            rintro e w11 ⟨rfl, hk⟩
            have HF2 := hide (HF.out.trans' hk (fun _ _ => id) (fun _ _ => id))
            clear hk
            go_wp2_with fail
            go_ret
            exact ⟨rfl, HF2.out⟩
end Go.Proofs.Ytaiphjgklfioeaa
