/- WholeTexts: the walk. Printed by mktexts.py. -/
import Derived.Test.YtfehciiidmgopaaRSmall
import Derived.Test.YtfehciiidmgopaaRParse
import Derived.Test.YtfehciiidmgopaaAwake
namespace Go.Proofs.Ytfehciiidmgopaa
open Go.RowKit
theorem parse_same (s : ByteArray) (hs : s.size ≤ maxLen) : ∃ kd ng l ok, ∀ w1, Calls Try.prog 16 #[.string s] w1 (LikeP w1 kd ng l ok) ∧ Calls Try.prog 17 #[.string s] w1 (LikeP w1 kd ng l ok) := by
  have h1 := parse_any s hs; have h2 := rparse_any s hs
  cases hp : parseD (hasMinus s) (codes (cutS s)) with
  | none =>
    rw [hp] at h1 h2
    exact ⟨_, _, _, _, fun w1 => ⟨(h1 w1).mono (no_like w1), (h2 w1).mono (no_like w1)⟩⟩
  | some z =>
    rw [hp] at h1 h2
    obtain ⟨kd, ng, l, ok, hl⟩ := any_like z
    exact ⟨kd, ng, l, ok, fun w1 => ⟨(h1 w1).mono (hl w1), (h2 w1).mono (hl w1)⟩⟩
theorem text_same {w : World} {B : Nat → Prop} {r : Bool} {cs : Array Value} (ha : TermA w B r cs) : ∃ t : ByteArray, ∀ w1, Keeps NoB w w1 →
    Calls Try.prog 18 #[.agg cs] w1 (fun e w' => e = .returned (.string t) ∧ Keeps NoB w1 w') ∧ Calls Try.prog 19 #[.agg cs] w1 (fun e w' => e = .returned (.string t) ∧ Keeps NoB w1 w') := by
  cases r with
  | false =>
    refine ⟨{ data := #[] }, fun w1 hk => ⟨?_, rtext_bad (ha.keep hk)⟩⟩
    obtain ⟨kd, ng, la, ln, lc, tx, nm, ia, im, ic, ta, tm, tc, l, rfl, hl, hi, ht, hr⟩ := ha
    exact text_bad kd nm ng la ia ta ln lc im ic tm tc tx l w1 B (hl.keep hk) hi ht hr
  | true =>
    obtain ⟨ng, A, n, c, x, ia, ta, ic, tc, rfl, i1⟩ := ha.int
    exact ⟨txt x, fun w1 hk => ⟨text_any _ _ _ _ _ _ _ _ x w1 _ (i1.keep hk), rtext_any _ _ _ _ _ _ _ _ x w1 _ (i1.keep hk)⟩⟩
set_option maxHeartbeats 16000000 in
set_option maxRecDepth 100000 in
theorem texts_any {w : World} {B : Nat → Prop} {r : Bool} {cs : Array Value} (ha : TermA w B r cs) {s : ByteArray} (hs : s.size ≤ maxLen) {n : Int} (hn1 : -9223372036854775808 ≤ n) (hn2 : n ≤ 9223372036854775807) : Calls Try.prog 4 #[.agg cs, .string s, .int .i64 n] w fun e w' => e = .returned (.bool true) ∧ Keeps NoB w w' := by
  obtain ⟨sm, hsm⟩ := small_any ha ha
  obtain ⟨kz, ngz, lz, okz, hz⟩ := parse_same s hs
  obtain ⟨tx2, htx⟩ := text_same ha
  have HTI := hide hz; have HTX := hide htx; have HSM := hide hsm
  have HOF := hide (And.intro (of_any n hn1 hn2) (rof_any n hn1 hn2))
  clear hz htx hsm hn1 hn2
  unfold maxLen at hs
  obtain ⟨kd, ng, la, ln, lc, tx, nm, ia, im, ic, ta, tm, tc, l, rfl, hl, hi, ht, hr⟩ := ha
  clear hl hi ht hr
  have Ba0 := hide (Blk.new w 26 #[.int .u8 kd, .bool ng, .slice la ln lc, .string tx, .int .i64 nm, .slice ia im ic, .slice ta tm tc])
  have HK0 := hide ((Keeps.refl NoB w).alloc (.cells #[.int .u8 kd, .bool ng, .slice la ln lc, .string tx, .int .i64 nm, .slice ia im ic, .slice ta tm tc] 26))
  cases sm with
  | false =>
    go_enter Try.func4, Try.ntmps4
    go_wp2_with first | (go_at_call 9; refine (awake_any _).mono ?_; rintro e w1 ⟨rfl, hk1⟩; have hka := hk1; have HK1 := hide (HK0.out.trans' hka (fun _ _ h => h) (fun _ _ h => h)); have Ba1 := hide (Ba0.out.keep hka id); clear hk1 hka HK0 Ba0; have fa0 : w1.cell? ⟨w.heap.size, 0, none⟩ = some (.int .u8 kd) := Ba1.out.cell 0; have fa1 : w1.cell? ⟨w.heap.size, 1, none⟩ = some (.bool ng) := Ba1.out.cell 1; have fa2 : w1.cell? ⟨w.heap.size, 2, none⟩ = some (.slice la ln lc) := Ba1.out.cell 2; have fa3 : w1.cell? ⟨w.heap.size, 3, none⟩ = some (.string tx) := Ba1.out.cell 3; have fa4 : w1.cell? ⟨w.heap.size, 4, none⟩ = some (.int .i64 nm) := Ba1.out.cell 4; have fa5 : w1.cell? ⟨w.heap.size, 5, none⟩ = some (.slice ia im ic) := Ba1.out.cell 5; have fa6 : w1.cell? ⟨w.heap.size, 6, none⟩ = some (.slice ta tm tc) := Ba1.out.cell 6) | (go_at_call 10; refine (HSM.out _).mono ?_; rintro e w2 ⟨rfl, hk2⟩; have hka := hk2; have HK2 := hide (HK1.out.trans' hka (fun _ _ h => h) (fun _ _ h => h)); have Ba2 := hide (Ba1.out.keep hka id); clear hk2 hka HK1 fa0 fa1 fa2 fa3 fa4 fa5 fa6 Ba1) | fail
    go_ret
    exact ⟨rfl, HK2.out⟩
  | true =>
    by_cases h4 : 420 < s.size
    · have h5 : decide ((420 : Int) < (s.size : Int)) = true := by simp; omega
      go_enter Try.func4, Try.ntmps4
      go_wp2_with first | (go_at_call 9; refine (awake_any _).mono ?_; rintro e w1 ⟨rfl, hk1⟩; have hka := hk1; have HK1 := hide (HK0.out.trans' hka (fun _ _ h => h) (fun _ _ h => h)); have Ba1 := hide (Ba0.out.keep hka id); clear hk1 hka HK0 Ba0; have fa0 : w1.cell? ⟨w.heap.size, 0, none⟩ = some (.int .u8 kd) := Ba1.out.cell 0; have fa1 : w1.cell? ⟨w.heap.size, 1, none⟩ = some (.bool ng) := Ba1.out.cell 1; have fa2 : w1.cell? ⟨w.heap.size, 2, none⟩ = some (.slice la ln lc) := Ba1.out.cell 2; have fa3 : w1.cell? ⟨w.heap.size, 3, none⟩ = some (.string tx) := Ba1.out.cell 3; have fa4 : w1.cell? ⟨w.heap.size, 4, none⟩ = some (.int .i64 nm) := Ba1.out.cell 4; have fa5 : w1.cell? ⟨w.heap.size, 5, none⟩ = some (.slice ia im ic) := Ba1.out.cell 5; have fa6 : w1.cell? ⟨w.heap.size, 6, none⟩ = some (.slice ta tm tc) := Ba1.out.cell 6) | (go_at_call 10; refine (HSM.out _).mono ?_; rintro e w2 ⟨rfl, hk2⟩; have hka := hk2; have HK2 := hide (HK1.out.trans' hka (fun _ _ h => h) (fun _ _ h => h)); have Ba2 := hide (Ba1.out.keep hka id); clear hk2 hka HK1 fa0 fa1 fa2 fa3 fa4 fa5 fa6 Ba1) | fail
      go_ret
      exact ⟨rfl, HK2.out⟩
    · have h5 : decide ((420 : Int) < (s.size : Int)) = false := by simp; omega
      clear h4
      cases okz with
      | false =>
        go_enter Try.func4, Try.ntmps4
        go_wp2_with first | (go_at_call 9; refine (awake_any _).mono ?_; rintro e w1 ⟨rfl, hk1⟩; have hka := hk1; have HK1 := hide (HK0.out.trans' hka (fun _ _ h => h) (fun _ _ h => h)); have Ba1 := hide (Ba0.out.keep hka id); clear hk1 hka HK0 Ba0; have fa0 : w1.cell? ⟨w.heap.size, 0, none⟩ = some (.int .u8 kd) := Ba1.out.cell 0; have fa1 : w1.cell? ⟨w.heap.size, 1, none⟩ = some (.bool ng) := Ba1.out.cell 1; have fa2 : w1.cell? ⟨w.heap.size, 2, none⟩ = some (.slice la ln lc) := Ba1.out.cell 2; have fa3 : w1.cell? ⟨w.heap.size, 3, none⟩ = some (.string tx) := Ba1.out.cell 3; have fa4 : w1.cell? ⟨w.heap.size, 4, none⟩ = some (.int .i64 nm) := Ba1.out.cell 4; have fa5 : w1.cell? ⟨w.heap.size, 5, none⟩ = some (.slice ia im ic) := Ba1.out.cell 5; have fa6 : w1.cell? ⟨w.heap.size, 6, none⟩ = some (.slice ta tm tc) := Ba1.out.cell 6) | (go_at_call 10; refine (HSM.out _).mono ?_; rintro e w2 ⟨rfl, hk2⟩; have hka := hk2; have HK2 := hide (HK1.out.trans' hka (fun _ _ h => h) (fun _ _ h => h)); have Ba2 := hide (Ba1.out.keep hka id); clear hk2 hka HK1 fa0 fa1 fa2 fa3 fa4 fa5 fa6 Ba1) | (go_at_call 16; refine ((HTI.out _).1).mono ?_; rintro e w3 ⟨A1, n1, c1, rfl, i1, hk3⟩; have hka := (hk3.alloc (.cells #[.int .u8 kz, .bool ngz, .slice A1 n1 c1, .string { data := #[] }, .int .i64 0, .slice none 0 0, .slice none 0 0] 26)); have HK3 := hide (HK2.out.trans' hka (fun _ _ h => h) (fun _ _ h => h)); have Ba3 := hide (Ba2.out.keep hka id); have It3 := hide (i1.keep (((Keeps.refl NoB w3).alloc (.cells #[.int .u8 kz, .bool ngz, .slice A1 n1 c1, .string { data := #[] }, .int .i64 0, .slice none 0 0, .slice none 0 0] 26)))); have Bt3 := hide ((Blk.new w3 26 #[.int .u8 kz, .bool ngz, .slice A1 n1 c1, .string { data := #[] }, .int .i64 0, .slice none 0 0, .slice none 0 0])); clear hk3 hka HK2 Ba2 i1) | (go_at_call 17; refine ((HTI.out _).2).mono ?_; rintro e w4 ⟨A2, n2, c2, rfl, i2, hk4⟩; have hka := (hk4.alloc (.cells #[.int .u8 kz, .bool ngz, .slice A2 n2 c2, .string { data := #[] }, .int .i64 0, .slice none 0 0, .slice none 0 0] 26)); have HK4 := hide (HK3.out.trans' hka (fun _ _ h => h) (fun _ _ h => h)); have It4 := hide (It3.out.keep hka); have Ba4 := hide (Ba3.out.keep hka id); have Bt4 := hide (Bt3.out.keep hka id); have Iu4 := hide (i2.keep (((Keeps.refl NoB w4).alloc (.cells #[.int .u8 kz, .bool ngz, .slice A2 n2 c2, .string { data := #[] }, .int .i64 0, .slice none 0 0, .slice none 0 0] 26)))); have Bu4 := hide ((Blk.new w4 26 #[.int .u8 kz, .bool ngz, .slice A2 n2 c2, .string { data := #[] }, .int .i64 0, .slice none 0 0, .slice none 0 0])); clear hk4 hka HK3 It3 Ba3 Bt3 i2) | fail
        obtain ⟨wv, hwv⟩ : ∃ wv, (w4.alloc (.cells #[.int .u8 kz, .bool ngz, .slice A2 n2 c2, .string { data := #[] }, .int .i64 0, .slice none 0 0, .slice none 0 0] 26)) = wv := ⟨_, rfl⟩
        rw [hwv] at HK4 It4 Iu4 Ba4 Bt4 Bu4 ⊢
        clear hwv
        refine order_begin (fun W => Keeps NoB wv.drew W) (fun _ => true) (by kernel_rfl) 23 rfl ?_
        have BA := hide Ba4.out.drew; have BT := hide Bt4.out.drew; have BU := hide Bu4.out.drew
        have LT := hide (It4.out.keep (Keeps.refl NoB wv).drew); have LU := hide (Iu4.out.keep (Keeps.refl NoB wv).drew)
        have HKD := hide HK4.out.drew
        clear It4 Iu4 Ba4 Bt4 Bu4 HK4
        generalize wv.drew = W0 at *
        have HS : Keeps NoB W0 W0 := Keeps.refl _ _
        refine order_held (i := 0) rfl (by kernel_rfl) (fun _ _ _ h => h) (.inl ⟨rfl, fun W hW => by
          have q0 : W.cell? ⟨w.heap.size, 0, none⟩ = some (.int .u8 kd) := hW.cell id (BA.out.cell 0)
          have q1 : W.cell? ⟨w.heap.size, 1, none⟩ = some (.bool ng) := hW.cell id (BA.out.cell 1)
          have q2 : W.cell? ⟨w.heap.size, 2, none⟩ = some (.slice la ln lc) := hW.cell id (BA.out.cell 2)
          have q3 : W.cell? ⟨w.heap.size, 3, none⟩ = some (.string tx) := hW.cell id (BA.out.cell 3)
          have q4 : W.cell? ⟨w.heap.size, 4, none⟩ = some (.int .i64 nm) := hW.cell id (BA.out.cell 4)
          have q5 : W.cell? ⟨w.heap.size, 5, none⟩ = some (.slice ia im ic) := hW.cell id (BA.out.cell 5)
          have q6 : W.cell? ⟨w.heap.size, 6, none⟩ = some (.slice ta tm tc) := hW.cell id (BA.out.cell 6)
          go_simp; rfl⟩) HS ?_
        try simp only [Act.put, List.setIfInBounds_toArray, List.set_cons_succ, List.set_cons_zero]
        refine order_held (i := 2) rfl (by kernel_rfl) (fun _ _ _ h => h) (.inl ⟨rfl, fun W hW => by
          have q0 : W.cell? ⟨w.heap.size, 0, none⟩ = some (.int .u8 kd) := hW.cell id (BA.out.cell 0)
          have q1 : W.cell? ⟨w.heap.size, 1, none⟩ = some (.bool ng) := hW.cell id (BA.out.cell 1)
          have q2 : W.cell? ⟨w.heap.size, 2, none⟩ = some (.slice la ln lc) := hW.cell id (BA.out.cell 2)
          have q3 : W.cell? ⟨w.heap.size, 3, none⟩ = some (.string tx) := hW.cell id (BA.out.cell 3)
          have q4 : W.cell? ⟨w.heap.size, 4, none⟩ = some (.int .i64 nm) := hW.cell id (BA.out.cell 4)
          have q5 : W.cell? ⟨w.heap.size, 5, none⟩ = some (.slice ia im ic) := hW.cell id (BA.out.cell 5)
          have q6 : W.cell? ⟨w.heap.size, 6, none⟩ = some (.slice ta tm tc) := hW.cell id (BA.out.cell 6)
          go_simp; rfl⟩) HS ?_
        try simp only [Act.put, List.setIfInBounds_toArray, List.set_cons_succ, List.set_cons_zero]
        clear HS
        refine order_one (i := 1) rfl (by kernel_rfl) (fun K hK => ?_)
        go_simp
        refine ((HTX.out W0 HKD.out).1).mono ?_
        rintro e V1 ⟨rfl, hk⟩
        have HV1 := hide hk
        refine hK _ _ (fun _ hS => hS.trans' hk (fun _ _ => id) (fun _ _ => id)) ?_
        clear hK hk
        try simp only [Act.put, List.setIfInBounds_toArray, List.set_cons_succ, List.set_cons_zero]
        refine order_one (i := 3) rfl (by kernel_rfl) (fun K hK => ?_)
        go_simp
        refine ((HTX.out V1 (HKD.out.trans' HV1.out (fun _ _ h => h) (fun _ _ h => h))).2).mono ?_
        rintro e V2 ⟨rfl, hk⟩
        have HV2 := hide (HV1.out.trans' hk (fun _ _ h => h) (fun _ _ h => h) : Keeps NoB W0 V2)
        refine hK _ _ (fun _ hS => hS.trans' hk (fun _ _ => id) (fun _ _ => id)) ?_
        clear hK hk
        try simp only [Act.put, List.setIfInBounds_toArray, List.set_cons_succ, List.set_cons_zero]
        refine order_pure (i := 4) rfl (by kernel_rfl) (fun _ _ _ h => h) (.inl ⟨rfl, fun _ => by go_simp; rfl⟩) ?_
        try simp only [Act.put, List.setIfInBounds_toArray, List.set_cons_succ, List.set_cons_zero]
        refine order_pure (i := 5) rfl (by kernel_rfl) (fun _ _ _ h => h) (.inl ⟨rfl, fun _ => by go_simp; rfl⟩) ?_
        try simp only [Act.put, List.setIfInBounds_toArray, List.set_cons_succ, List.set_cons_zero]
        refine order_pure (i := 6) rfl (by kernel_rfl) (fun _ _ _ h => h) (.inl ⟨rfl, fun _ => by go_simp; rfl⟩) ?_
        try simp only [Act.put, List.setIfInBounds_toArray, List.set_cons_succ, List.set_cons_zero]
        refine order_pure (i := 7) rfl (by kernel_rfl) (fun _ _ _ h => h) (.inl ⟨rfl, fun _ => by go_simp; rfl⟩) ?_
        try simp only [Act.put, List.setIfInBounds_toArray, List.set_cons_succ, List.set_cons_zero]
        refine order_pure (i := 8) rfl (by kernel_rfl) (fun _ _ _ h => h) (.inl ⟨rfl, fun _ => by go_simp; rfl⟩) ?_
        try simp only [Act.put, List.setIfInBounds_toArray, List.set_cons_succ, List.set_cons_zero]
        refine order_pure (i := 9) rfl (by kernel_rfl) (fun _ _ _ h => h) (.inl ⟨rfl, fun _ => by go_simp; rfl⟩) ?_
        try simp only [Act.put, List.setIfInBounds_toArray, List.set_cons_succ, List.set_cons_zero]
        refine order_pure (i := 10) rfl (by kernel_rfl) (fun _ _ _ h => h) (.inl ⟨rfl, fun _ => by go_simp; rfl⟩) ?_
        try simp only [Act.put, List.setIfInBounds_toArray, List.set_cons_succ, List.set_cons_zero]
        have HS : Keeps NoB W0 V2 := HV2.out
        refine order_held (i := 11) rfl (by kernel_rfl) (fun _ _ _ h => h) (.inl ⟨rfl, fun W hW => by
          have q0 : W.cell? ⟨w3.heap.size, 0, none⟩ = some (.int .u8 kz) := hW.cell id (BT.out.cell 0)
          have q1 : W.cell? ⟨w3.heap.size, 1, none⟩ = some (.bool ngz) := hW.cell id (BT.out.cell 1)
          have q2 : W.cell? ⟨w3.heap.size, 2, none⟩ = some (.slice A1 n1 c1) := hW.cell id (BT.out.cell 2)
          have q3 : W.cell? ⟨w3.heap.size, 3, none⟩ = some (.string { data := #[] }) := hW.cell id (BT.out.cell 3)
          have q4 : W.cell? ⟨w3.heap.size, 4, none⟩ = some (.int .i64 0) := hW.cell id (BT.out.cell 4)
          have q5 : W.cell? ⟨w3.heap.size, 5, none⟩ = some (.slice none 0 0) := hW.cell id (BT.out.cell 5)
          have q6 : W.cell? ⟨w3.heap.size, 6, none⟩ = some (.slice none 0 0) := hW.cell id (BT.out.cell 6)
          go_simp; rfl⟩) HS ?_
        try simp only [Act.put, List.setIfInBounds_toArray, List.set_cons_succ, List.set_cons_zero]
        refine order_held (i := 12) rfl (by kernel_rfl) (fun _ _ _ h => h) (.inl ⟨rfl, fun W hW => by
          have q0 : W.cell? ⟨w4.heap.size, 0, none⟩ = some (.int .u8 kz) := hW.cell id (BU.out.cell 0)
          have q1 : W.cell? ⟨w4.heap.size, 1, none⟩ = some (.bool ngz) := hW.cell id (BU.out.cell 1)
          have q2 : W.cell? ⟨w4.heap.size, 2, none⟩ = some (.slice A2 n2 c2) := hW.cell id (BU.out.cell 2)
          have q3 : W.cell? ⟨w4.heap.size, 3, none⟩ = some (.string { data := #[] }) := hW.cell id (BU.out.cell 3)
          have q4 : W.cell? ⟨w4.heap.size, 4, none⟩ = some (.int .i64 0) := hW.cell id (BU.out.cell 4)
          have q5 : W.cell? ⟨w4.heap.size, 5, none⟩ = some (.slice none 0 0) := hW.cell id (BU.out.cell 5)
          have q6 : W.cell? ⟨w4.heap.size, 6, none⟩ = some (.slice none 0 0) := hW.cell id (BU.out.cell 6)
          go_simp; rfl⟩) HS ?_
        try simp only [Act.put, List.setIfInBounds_toArray, List.set_cons_succ, List.set_cons_zero]
        clear HS
        refine order_one (i := 13) rfl (by kernel_rfl) (fun K hK => ?_)
        go_simp
        refine (same_like kz 0 ngz A1 A2 none none none none n1 c1 n2 c2 0 0 0 0 _ lz V2 _ _ (LT.out.keep HV2.out) (LU.out.keep HV2.out)).mono ?_
        rintro e V3 ⟨rfl, hk⟩
        have HV3 := hide (HV2.out.trans' hk (fun _ _ h => h) (fun _ _ h => h) : Keeps NoB W0 V3)
        refine hK _ _ (fun _ hS => hS.trans' hk (fun _ _ => id) (fun _ _ => id)) ?_
        clear hK hk
        try simp only [Act.put, List.setIfInBounds_toArray, List.set_cons_succ, List.set_cons_zero]
        refine order_pure (i := 14) rfl (by kernel_rfl) (fun _ _ _ h => h) (.inl ⟨rfl, fun _ => by go_simp; rfl⟩) ?_
        try simp only [Act.put, List.setIfInBounds_toArray, List.set_cons_succ, List.set_cons_zero]
        refine order_pure (i := 15) rfl (by kernel_rfl) (fun _ _ _ h => h) (.inl ⟨rfl, fun _ => by go_simp; rfl⟩) ?_
        try simp only [Act.put, List.setIfInBounds_toArray, List.set_cons_succ, List.set_cons_zero]
        refine order_pure (i := 16) rfl (by kernel_rfl) (fun _ _ _ h => h) (.inl ⟨rfl, fun _ => by go_simp; rfl⟩) ?_
        try simp only [Act.put, List.setIfInBounds_toArray, List.set_cons_succ, List.set_cons_zero]
        refine order_pure (i := 18) rfl (by kernel_rfl) (fun _ _ _ h => h) (.inl ⟨rfl, fun _ => by go_simp; rfl⟩) ?_
        try simp only [Act.put, List.setIfInBounds_toArray, List.set_cons_succ, List.set_cons_zero]
        refine order_one (i := 17) rfl (by kernel_rfl) (fun K hK => ?_)
        go_simp
        refine (HOF.out.1 V3).mono ?_
        rintro e V4 ⟨ngx, Ax, nx, cx, rfl, ix, hk⟩
        have HV4 := hide (HV3.out.trans' hk (fun _ _ h => h) (fun _ _ h => h) : Keeps NoB W0 V4)
        have IX := hide ix
        refine hK _ _ (fun _ hS => hS.trans' hk (fun _ _ => id) (fun _ _ => id)) ?_
        clear hK hk ix
        try simp only [Act.put, List.setIfInBounds_toArray, List.set_cons_succ, List.set_cons_zero]
        refine order_one (i := 19) rfl (by kernel_rfl) (fun K hK => ?_)
        go_simp
        refine (HOF.out.2 V4).mono ?_
        rintro e V5 ⟨ngy, Ay, ny, cy, rfl, iy, hk⟩
        have HV5 := hide (HV4.out.trans' hk (fun _ _ h => h) (fun _ _ h => h) : Keeps NoB W0 V5)
        have IX5 := hide (IX.out.keep hk); have IY := hide iy
        refine hK _ _ (fun _ hS => hS.trans' hk (fun _ _ => id) (fun _ _ => id)) ?_
        clear hK hk iy
        try simp only [Act.put, List.setIfInBounds_toArray, List.set_cons_succ, List.set_cons_zero]
        refine order_one (i := 20) rfl (by kernel_rfl) (fun K hK => ?_)
        go_simp
        refine (same_int ngx ngy Ax Ay none none none none nx cx ny cy 0 0 0 0 n V5 _ _ IX5.out IY.out).mono ?_
        rintro e V6 ⟨rfl, hk⟩
        have HV6 := hide (HV5.out.trans' hk (fun _ _ h => h) (fun _ _ h => h) : Keeps NoB W0 V6)
        refine hK _ _ (fun _ hS => hS.trans' hk (fun _ _ => id) (fun _ _ => id)) ?_
        clear hK hk
        try simp only [Act.put, List.setIfInBounds_toArray, List.set_cons_succ, List.set_cons_zero]
        refine order_pure (i := 21) rfl (by kernel_rfl) (fun _ _ _ h => h) (.inl ⟨rfl, fun _ => by go_simp; rfl⟩) ?_
        try simp only [Act.put, List.setIfInBounds_toArray, List.set_cons_succ, List.set_cons_zero]
        refine order_pure (i := 22) rfl (by kernel_rfl) (fun _ _ _ h => h) (.inl ⟨rfl, fun _ => by go_simp; rfl⟩) ?_
        try simp only [Act.put, List.setIfInBounds_toArray, List.set_cons_succ, List.set_cons_zero]
        refine order_done (by kernel_rfl) ?_
        go_wp2
        go_ret
        exact ⟨rfl, HKD.out.trans' HV6.out (fun _ _ h => h) (fun _ _ h => h)⟩
      | true =>
        go_enter Try.func4, Try.ntmps4
        go_wp2_with first | (go_at_call 9; refine (awake_any _).mono ?_; rintro e w1 ⟨rfl, hk1⟩; have hka := hk1; have HK1 := hide (HK0.out.trans' hka (fun _ _ h => h) (fun _ _ h => h)); have Ba1 := hide (Ba0.out.keep hka id); clear hk1 hka HK0 Ba0; have fa0 : w1.cell? ⟨w.heap.size, 0, none⟩ = some (.int .u8 kd) := Ba1.out.cell 0; have fa1 : w1.cell? ⟨w.heap.size, 1, none⟩ = some (.bool ng) := Ba1.out.cell 1; have fa2 : w1.cell? ⟨w.heap.size, 2, none⟩ = some (.slice la ln lc) := Ba1.out.cell 2; have fa3 : w1.cell? ⟨w.heap.size, 3, none⟩ = some (.string tx) := Ba1.out.cell 3; have fa4 : w1.cell? ⟨w.heap.size, 4, none⟩ = some (.int .i64 nm) := Ba1.out.cell 4; have fa5 : w1.cell? ⟨w.heap.size, 5, none⟩ = some (.slice ia im ic) := Ba1.out.cell 5; have fa6 : w1.cell? ⟨w.heap.size, 6, none⟩ = some (.slice ta tm tc) := Ba1.out.cell 6) | (go_at_call 10; refine (HSM.out _).mono ?_; rintro e w2 ⟨rfl, hk2⟩; have hka := hk2; have HK2 := hide (HK1.out.trans' hka (fun _ _ h => h) (fun _ _ h => h)); have Ba2 := hide (Ba1.out.keep hka id); clear hk2 hka HK1 fa0 fa1 fa2 fa3 fa4 fa5 fa6 Ba1) | (go_at_call 16; refine ((HTI.out _).1).mono ?_; rintro e w3 ⟨A1, n1, c1, rfl, i1, hk3⟩; have hka := (hk3.alloc (.cells #[.int .u8 kz, .bool ngz, .slice A1 n1 c1, .string { data := #[] }, .int .i64 0, .slice none 0 0, .slice none 0 0] 26)); have HK3 := hide (HK2.out.trans' hka (fun _ _ h => h) (fun _ _ h => h)); have Ba3 := hide (Ba2.out.keep hka id); have It3 := hide (i1.keep (((Keeps.refl NoB w3).alloc (.cells #[.int .u8 kz, .bool ngz, .slice A1 n1 c1, .string { data := #[] }, .int .i64 0, .slice none 0 0, .slice none 0 0] 26)))); have Bt3 := hide ((Blk.new w3 26 #[.int .u8 kz, .bool ngz, .slice A1 n1 c1, .string { data := #[] }, .int .i64 0, .slice none 0 0, .slice none 0 0])); clear hk3 hka HK2 Ba2 i1) | (go_at_call 17; refine ((HTI.out _).2).mono ?_; rintro e w4 ⟨A2, n2, c2, rfl, i2, hk4⟩; have hka := (hk4.alloc (.cells #[.int .u8 kz, .bool ngz, .slice A2 n2 c2, .string { data := #[] }, .int .i64 0, .slice none 0 0, .slice none 0 0] 26)); have HK4 := hide (HK3.out.trans' hka (fun _ _ h => h) (fun _ _ h => h)); have It4 := hide (It3.out.keep hka); have Ba4 := hide (Ba3.out.keep hka id); have Bt4 := hide (Bt3.out.keep hka id); have Iu4 := hide (i2.keep (((Keeps.refl NoB w4).alloc (.cells #[.int .u8 kz, .bool ngz, .slice A2 n2 c2, .string { data := #[] }, .int .i64 0, .slice none 0 0, .slice none 0 0] 26)))); have Bu4 := hide ((Blk.new w4 26 #[.int .u8 kz, .bool ngz, .slice A2 n2 c2, .string { data := #[] }, .int .i64 0, .slice none 0 0, .slice none 0 0])); clear hk4 hka HK3 It3 Ba3 Bt3 i2) | fail
        obtain ⟨wv, hwv⟩ : ∃ wv, (w4.alloc (.cells #[.int .u8 kz, .bool ngz, .slice A2 n2 c2, .string { data := #[] }, .int .i64 0, .slice none 0 0, .slice none 0 0] 26)) = wv := ⟨_, rfl⟩
        rw [hwv] at HK4 It4 Iu4 Ba4 Bt4 Bu4 ⊢
        clear hwv
        refine order_begin (fun W => Keeps NoB wv.drew W) (fun _ => true) (by kernel_rfl) 23 rfl ?_
        have BA := hide Ba4.out.drew; have BT := hide Bt4.out.drew; have BU := hide Bu4.out.drew
        have LT := hide (It4.out.keep (Keeps.refl NoB wv).drew); have LU := hide (Iu4.out.keep (Keeps.refl NoB wv).drew)
        have HKD := hide HK4.out.drew
        clear It4 Iu4 Ba4 Bt4 Bu4 HK4
        generalize wv.drew = W0 at *
        have HS : Keeps NoB W0 W0 := Keeps.refl _ _
        refine order_held (i := 0) rfl (by kernel_rfl) (fun _ _ _ h => h) (.inl ⟨rfl, fun W hW => by
          have q0 : W.cell? ⟨w.heap.size, 0, none⟩ = some (.int .u8 kd) := hW.cell id (BA.out.cell 0)
          have q1 : W.cell? ⟨w.heap.size, 1, none⟩ = some (.bool ng) := hW.cell id (BA.out.cell 1)
          have q2 : W.cell? ⟨w.heap.size, 2, none⟩ = some (.slice la ln lc) := hW.cell id (BA.out.cell 2)
          have q3 : W.cell? ⟨w.heap.size, 3, none⟩ = some (.string tx) := hW.cell id (BA.out.cell 3)
          have q4 : W.cell? ⟨w.heap.size, 4, none⟩ = some (.int .i64 nm) := hW.cell id (BA.out.cell 4)
          have q5 : W.cell? ⟨w.heap.size, 5, none⟩ = some (.slice ia im ic) := hW.cell id (BA.out.cell 5)
          have q6 : W.cell? ⟨w.heap.size, 6, none⟩ = some (.slice ta tm tc) := hW.cell id (BA.out.cell 6)
          go_simp; rfl⟩) HS ?_
        try simp only [Act.put, List.setIfInBounds_toArray, List.set_cons_succ, List.set_cons_zero]
        refine order_held (i := 2) rfl (by kernel_rfl) (fun _ _ _ h => h) (.inl ⟨rfl, fun W hW => by
          have q0 : W.cell? ⟨w.heap.size, 0, none⟩ = some (.int .u8 kd) := hW.cell id (BA.out.cell 0)
          have q1 : W.cell? ⟨w.heap.size, 1, none⟩ = some (.bool ng) := hW.cell id (BA.out.cell 1)
          have q2 : W.cell? ⟨w.heap.size, 2, none⟩ = some (.slice la ln lc) := hW.cell id (BA.out.cell 2)
          have q3 : W.cell? ⟨w.heap.size, 3, none⟩ = some (.string tx) := hW.cell id (BA.out.cell 3)
          have q4 : W.cell? ⟨w.heap.size, 4, none⟩ = some (.int .i64 nm) := hW.cell id (BA.out.cell 4)
          have q5 : W.cell? ⟨w.heap.size, 5, none⟩ = some (.slice ia im ic) := hW.cell id (BA.out.cell 5)
          have q6 : W.cell? ⟨w.heap.size, 6, none⟩ = some (.slice ta tm tc) := hW.cell id (BA.out.cell 6)
          go_simp; rfl⟩) HS ?_
        try simp only [Act.put, List.setIfInBounds_toArray, List.set_cons_succ, List.set_cons_zero]
        clear HS
        refine order_one (i := 1) rfl (by kernel_rfl) (fun K hK => ?_)
        go_simp
        refine ((HTX.out W0 HKD.out).1).mono ?_
        rintro e V1 ⟨rfl, hk⟩
        have HV1 := hide hk
        refine hK _ _ (fun _ hS => hS.trans' hk (fun _ _ => id) (fun _ _ => id)) ?_
        clear hK hk
        try simp only [Act.put, List.setIfInBounds_toArray, List.set_cons_succ, List.set_cons_zero]
        refine order_one (i := 3) rfl (by kernel_rfl) (fun K hK => ?_)
        go_simp
        refine ((HTX.out V1 (HKD.out.trans' HV1.out (fun _ _ h => h) (fun _ _ h => h))).2).mono ?_
        rintro e V2 ⟨rfl, hk⟩
        have HV2 := hide (HV1.out.trans' hk (fun _ _ h => h) (fun _ _ h => h) : Keeps NoB W0 V2)
        refine hK _ _ (fun _ hS => hS.trans' hk (fun _ _ => id) (fun _ _ => id)) ?_
        clear hK hk
        try simp only [Act.put, List.setIfInBounds_toArray, List.set_cons_succ, List.set_cons_zero]
        refine order_pure (i := 4) rfl (by kernel_rfl) (fun _ _ _ h => h) (.inl ⟨rfl, fun _ => by go_simp; rfl⟩) ?_
        try simp only [Act.put, List.setIfInBounds_toArray, List.set_cons_succ, List.set_cons_zero]
        refine order_pure (i := 5) rfl (by kernel_rfl) (fun _ _ _ h => h) (.inl ⟨rfl, fun _ => by go_simp; rfl⟩) ?_
        try simp only [Act.put, List.setIfInBounds_toArray, List.set_cons_succ, List.set_cons_zero]
        refine order_pure (i := 6) rfl (by kernel_rfl) (fun _ _ _ h => h) (.inl ⟨rfl, fun _ => by go_simp; rfl⟩) ?_
        try simp only [Act.put, List.setIfInBounds_toArray, List.set_cons_succ, List.set_cons_zero]
        refine order_pure (i := 7) rfl (by kernel_rfl) (fun _ _ _ h => h) (.inl ⟨rfl, fun _ => by go_simp; rfl⟩) ?_
        try simp only [Act.put, List.setIfInBounds_toArray, List.set_cons_succ, List.set_cons_zero]
        refine order_pure (i := 8) rfl (by kernel_rfl) (fun _ _ _ h => h) (.inl ⟨rfl, fun _ => by go_simp; rfl⟩) ?_
        try simp only [Act.put, List.setIfInBounds_toArray, List.set_cons_succ, List.set_cons_zero]
        refine order_pure (i := 9) rfl (by kernel_rfl) (fun _ _ _ h => h) (.inl ⟨rfl, fun _ => by go_simp; rfl⟩) ?_
        try simp only [Act.put, List.setIfInBounds_toArray, List.set_cons_succ, List.set_cons_zero]
        refine order_pure (i := 10) rfl (by kernel_rfl) (fun _ _ _ h => h) (.inl ⟨rfl, fun _ => by go_simp; rfl⟩) ?_
        try simp only [Act.put, List.setIfInBounds_toArray, List.set_cons_succ, List.set_cons_zero]
        have HS : Keeps NoB W0 V2 := HV2.out
        refine order_held (i := 11) rfl (by kernel_rfl) (fun _ _ _ h => h) (.inl ⟨rfl, fun W hW => by
          have q0 : W.cell? ⟨w3.heap.size, 0, none⟩ = some (.int .u8 kz) := hW.cell id (BT.out.cell 0)
          have q1 : W.cell? ⟨w3.heap.size, 1, none⟩ = some (.bool ngz) := hW.cell id (BT.out.cell 1)
          have q2 : W.cell? ⟨w3.heap.size, 2, none⟩ = some (.slice A1 n1 c1) := hW.cell id (BT.out.cell 2)
          have q3 : W.cell? ⟨w3.heap.size, 3, none⟩ = some (.string { data := #[] }) := hW.cell id (BT.out.cell 3)
          have q4 : W.cell? ⟨w3.heap.size, 4, none⟩ = some (.int .i64 0) := hW.cell id (BT.out.cell 4)
          have q5 : W.cell? ⟨w3.heap.size, 5, none⟩ = some (.slice none 0 0) := hW.cell id (BT.out.cell 5)
          have q6 : W.cell? ⟨w3.heap.size, 6, none⟩ = some (.slice none 0 0) := hW.cell id (BT.out.cell 6)
          go_simp; rfl⟩) HS ?_
        try simp only [Act.put, List.setIfInBounds_toArray, List.set_cons_succ, List.set_cons_zero]
        refine order_held (i := 12) rfl (by kernel_rfl) (fun _ _ _ h => h) (.inl ⟨rfl, fun W hW => by
          have q0 : W.cell? ⟨w4.heap.size, 0, none⟩ = some (.int .u8 kz) := hW.cell id (BU.out.cell 0)
          have q1 : W.cell? ⟨w4.heap.size, 1, none⟩ = some (.bool ngz) := hW.cell id (BU.out.cell 1)
          have q2 : W.cell? ⟨w4.heap.size, 2, none⟩ = some (.slice A2 n2 c2) := hW.cell id (BU.out.cell 2)
          have q3 : W.cell? ⟨w4.heap.size, 3, none⟩ = some (.string { data := #[] }) := hW.cell id (BU.out.cell 3)
          have q4 : W.cell? ⟨w4.heap.size, 4, none⟩ = some (.int .i64 0) := hW.cell id (BU.out.cell 4)
          have q5 : W.cell? ⟨w4.heap.size, 5, none⟩ = some (.slice none 0 0) := hW.cell id (BU.out.cell 5)
          have q6 : W.cell? ⟨w4.heap.size, 6, none⟩ = some (.slice none 0 0) := hW.cell id (BU.out.cell 6)
          go_simp; rfl⟩) HS ?_
        try simp only [Act.put, List.setIfInBounds_toArray, List.set_cons_succ, List.set_cons_zero]
        clear HS
        refine order_one (i := 13) rfl (by kernel_rfl) (fun K hK => ?_)
        go_simp
        refine (same_like kz 0 ngz A1 A2 none none none none n1 c1 n2 c2 0 0 0 0 _ lz V2 _ _ (LT.out.keep HV2.out) (LU.out.keep HV2.out)).mono ?_
        rintro e V3 ⟨rfl, hk⟩
        have HV3 := hide (HV2.out.trans' hk (fun _ _ h => h) (fun _ _ h => h) : Keeps NoB W0 V3)
        refine hK _ _ (fun _ hS => hS.trans' hk (fun _ _ => id) (fun _ _ => id)) ?_
        clear hK hk
        try simp only [Act.put, List.setIfInBounds_toArray, List.set_cons_succ, List.set_cons_zero]
        refine order_pure (i := 14) rfl (by kernel_rfl) (fun _ _ _ h => h) (.inl ⟨rfl, fun _ => by go_simp; rfl⟩) ?_
        try simp only [Act.put, List.setIfInBounds_toArray, List.set_cons_succ, List.set_cons_zero]
        refine order_pure (i := 15) rfl (by kernel_rfl) (fun _ _ _ h => h) (.inl ⟨rfl, fun _ => by go_simp; rfl⟩) ?_
        try simp only [Act.put, List.setIfInBounds_toArray, List.set_cons_succ, List.set_cons_zero]
        refine order_pure (i := 16) rfl (by kernel_rfl) (fun _ _ _ h => h) (.inl ⟨rfl, fun _ => by go_simp; rfl⟩) ?_
        try simp only [Act.put, List.setIfInBounds_toArray, List.set_cons_succ, List.set_cons_zero]
        refine order_pure (i := 18) rfl (by kernel_rfl) (fun _ _ _ h => h) (.inl ⟨rfl, fun _ => by go_simp; rfl⟩) ?_
        try simp only [Act.put, List.setIfInBounds_toArray, List.set_cons_succ, List.set_cons_zero]
        refine order_one (i := 17) rfl (by kernel_rfl) (fun K hK => ?_)
        go_simp
        refine (HOF.out.1 V3).mono ?_
        rintro e V4 ⟨ngx, Ax, nx, cx, rfl, ix, hk⟩
        have HV4 := hide (HV3.out.trans' hk (fun _ _ h => h) (fun _ _ h => h) : Keeps NoB W0 V4)
        have IX := hide ix
        refine hK _ _ (fun _ hS => hS.trans' hk (fun _ _ => id) (fun _ _ => id)) ?_
        clear hK hk ix
        try simp only [Act.put, List.setIfInBounds_toArray, List.set_cons_succ, List.set_cons_zero]
        refine order_one (i := 19) rfl (by kernel_rfl) (fun K hK => ?_)
        go_simp
        refine (HOF.out.2 V4).mono ?_
        rintro e V5 ⟨ngy, Ay, ny, cy, rfl, iy, hk⟩
        have HV5 := hide (HV4.out.trans' hk (fun _ _ h => h) (fun _ _ h => h) : Keeps NoB W0 V5)
        have IX5 := hide (IX.out.keep hk); have IY := hide iy
        refine hK _ _ (fun _ hS => hS.trans' hk (fun _ _ => id) (fun _ _ => id)) ?_
        clear hK hk iy
        try simp only [Act.put, List.setIfInBounds_toArray, List.set_cons_succ, List.set_cons_zero]
        refine order_one (i := 20) rfl (by kernel_rfl) (fun K hK => ?_)
        go_simp
        refine (same_int ngx ngy Ax Ay none none none none nx cx ny cy 0 0 0 0 n V5 _ _ IX5.out IY.out).mono ?_
        rintro e V6 ⟨rfl, hk⟩
        have HV6 := hide (HV5.out.trans' hk (fun _ _ h => h) (fun _ _ h => h) : Keeps NoB W0 V6)
        refine hK _ _ (fun _ hS => hS.trans' hk (fun _ _ => id) (fun _ _ => id)) ?_
        clear hK hk
        try simp only [Act.put, List.setIfInBounds_toArray, List.set_cons_succ, List.set_cons_zero]
        refine order_pure (i := 21) rfl (by kernel_rfl) (fun _ _ _ h => h) (.inl ⟨rfl, fun _ => by go_simp; rfl⟩) ?_
        try simp only [Act.put, List.setIfInBounds_toArray, List.set_cons_succ, List.set_cons_zero]
        refine order_pure (i := 22) rfl (by kernel_rfl) (fun _ _ _ h => h) (.inl ⟨rfl, fun _ => by go_simp; rfl⟩) ?_
        try simp only [Act.put, List.setIfInBounds_toArray, List.set_cons_succ, List.set_cons_zero]
        refine order_done (by kernel_rfl) ?_
        go_wp2
        go_ret
        exact ⟨rfl, HKD.out.trans' HV6.out (fun _ _ h => h) (fun _ _ h => h)⟩
end Go.Proofs.Ytfehciiidmgopaa
