/- printed by wip/mkcopy.py: term.Copy, term.copies. -/
import Derived.Test.YtjdbjjjbgibpaaaGreatDoorTmCopiesJn
import Derived.Test.YtjdbjjjbgibpaaaGreatDoorSeq3Jn
import Derived.Deep.CutRange
import Derived.Deep.CutBlock
import Derived.Deep.DeepCutAuto
namespace Go.Proofs.YtjdbjjjbgibpaaaGreatDoor
open Go.RowKit

theorem one_head {w : World} {g : Nat} {t : TypeId} {v : Value} (h : Blk w g t #[v]) : Reads w (fun _ => True) true 1 (some ⟨g, 0, none⟩) 1 [v] := by
  refine ⟨rfl, fun _ => ⟨_, rfl, rfl, trivial, h.lt, fun j u hu => ⟨?_, fun _ => h.free _⟩⟩⟩
  rw [h.cell, ← hu]; simp
theorem heads_one {w : World} {B : Nat → Prop} {F : Bool} {A : Option Addr} {n : Nat} {css : List (List Value)} (c : Nat) (h : Reads w B F 7 A n css.flatten) : HeadsAt w B F 7 [.slice A n c] ([css].map List.flatten) := by
  simp only [List.map_cons, List.map_nil]
  unfold HeadsAt
  exact ⟨⟨A, n, c, rfl, h⟩, by unfold HeadsAt; trivial⟩
theorem copy_mid {w : World} {B : Nat → Prop} {F : Bool} {la ia ta : Option Addr} {ln lc im ic tn tc : Nat} {limbs : List Int} {items tail : List Tm} {css dss : List (List Value)} (kd : Int) (ng : Bool) (tx : ByteArray) (nm : Int)
    (hr : RoomC ln lc 4 ∧ RoomC im ic 104 ∧ RoomC tn tc 104) (h1 : Reads w B F 1 la ln (limbs.map (Value.int .u32))) (h2 : Reads w B F 7 ia im css.flatten) (h3 : TermsIn w B F css items) (h4 : Reads w B F 7 ta tn dss.flatten) (h5 : TermsIn w B F dss tail) :
    TermIn w B F [.int .u8 kd, .bool ng, .slice la ln lc, .string tx, .int .i64 nm, .slice ia im ic, .slice ta tn tc] (.mk kd ng limbs tx nm items tail) := by
  unfold TermIn
  exact ⟨la, ln, lc, ia, im, ic, ta, tn, tc, css, dss, rfl, hr, h1, h2, h3, h4, h5⟩

set_option maxRecDepth 100000 in
set_option maxHeartbeats 16000000 in
theorem tm_copy (M : Nat) : CopySaid M := by
  induction M using Nat.strongRecOn with
  | ind M IH =>
  intro t hM w B F kd ng la ln lc tx nm ia im ic ta tn tc ht
  obtain ⟨limbs, items, tail, css, dss, rfl, hroom, hrl, hri, hti, hrt, htt⟩ : ∃ limbs items tail css dss, t = .mk kd ng limbs tx nm items tail ∧ (Roomy ln 4 ∧ Roomy im 104 ∧ Roomy tn 104) ∧ Reads w B F 1 la ln (limbs.map (Value.int .u32)) ∧ Reads w B F 7 ia im (List.flatten css) ∧ TermsIn w B F css items ∧ Reads w B F 7 ta tn (List.flatten dss) ∧ TermsIn w B F dss tail := by
    cases t
    unfold TermIn at ht
    obtain ⟨_, _, _, _, _, _, _, _, _, css, dss, e, hb, h1, h2, h3, h4, h5⟩ := ht
    simp only [List.cons.injEq, Value.int.injEq, Value.bool.injEq, Value.slice.injEq, Value.string.injEq, true_and, and_true] at e
    obtain ⟨rfl, rfl, ⟨rfl, rfl, rfl⟩, rfl, rfl, ⟨rfl, rfl, rfl⟩, rfl, rfl, rfl⟩ := e
    exact ⟨_, _, _, css, dss, rfl, ⟨hb.1.1, hb.2.1.1, hb.2.2.1⟩, h1, h2, h3, h4, h5⟩
  have HSZ : Hid (Tm.size.sizes items < M ∧ Tm.size.sizes tail < M) := hide (by
    have := hM; simp only [Tm.size] at this; omega)
  have HLEN : Hid (items.length = im ∧ tail.length = tn) := hide (by
    have h2 := hri.1; have h3 := hrt.1
    rw [flat_len hti.lens.2, hti.lens.1] at h2
    rw [flat_len htt.lens.2, htt.lens.1] at h3
    omega)
  have HRO := hide hroom; have HIH := hide IH
  clear ht hM hroom IH
  have HRL := hide hrl; have HRI := hide hri; have HTI := hide hti; have HRT := hide hrt; have HTT := hide htt
  clear hrl hri hti hrt htt
  go_enter Tryz.func40, Tryz.ntmps40
  go_upto_region 1 with fail
  have HKW : Hid (Keeps NoB w ((w.alloc (.cells #[.int .u8 kd, .bool ng, .slice la ln lc, .string tx, .int .i64 nm, .slice ia im ic, .slice ta tn tc] 26)).alloc (.cells #[.int .u8 0, .bool false, .slice none 0 0, .string { data := #[] }, .int .i64 0, .slice none 0 0, .slice none 0 0] 26))) := hide (((Keeps.refl NoB w).alloc _).alloc _)
  have HBX : Hid (Blk ((w.alloc (.cells #[.int .u8 kd, .bool ng, .slice la ln lc, .string tx, .int .i64 nm, .slice ia im ic, .slice ta tn tc] 26)).alloc (.cells #[.int .u8 0, .bool false, .slice none 0 0, .string { data := #[] }, .int .i64 0, .slice none 0 0, .slice none 0 0] 26)) w.heap.size 26 #[.int .u8 kd, .bool ng, .slice la ln lc, .string tx, .int .i64 nm, .slice ia im ic, .slice ta tn tc]) := hide ((Blk.new w _ _).alloc _)
  have HBR : Hid (Blk ((w.alloc (.cells #[.int .u8 kd, .bool ng, .slice la ln lc, .string tx, .int .i64 nm, .slice ia im ic, .slice ta tn tc] 26)).alloc (.cells #[.int .u8 0, .bool false, .slice none 0 0, .string { data := #[] }, .int .i64 0, .slice none 0 0, .slice none 0 0] 26)) (w.heap.size + 1) 26 #[.int .u8 0, .bool false, .slice none 0 0, .string { data := #[] }, .int .i64 0, .slice none 0 0, .slice none 0 0]) := hide (Blk.new2 w _ _ _)
  have HLT : Hid (w.heap.size < ((w.alloc (.cells #[.int .u8 kd, .bool ng, .slice la ln lc, .string tx, .int .i64 nm, .slice ia im ic, .slice ta tn tc] 26)).alloc (.cells #[.int .u8 0, .bool false, .slice none 0 0, .string { data := #[] }, .int .i64 0, .slice none 0 0, .slice none 0 0] 26)).heap.size ∧ w.heap.size + 1 < ((w.alloc (.cells #[.int .u8 kd, .bool ng, .slice la ln lc, .string tx, .int .i64 nm, .slice ia im ic, .slice ta tn tc] 26)).alloc (.cells #[.int .u8 0, .bool false, .slice none 0 0, .string { data := #[] }, .int .i64 0, .slice none 0 0, .slice none 0 0] 26)).heap.size) := hide (by simp; omega)
  generalize ((w.alloc (.cells #[.int .u8 kd, .bool ng, .slice la ln lc, .string tx, .int .i64 nm, .slice ia im ic, .slice ta tn tc] 26)).alloc (.cells #[.int .u8 0, .bool false, .slice none 0 0, .string { data := #[] }, .int .i64 0, .slice none 0 0, .slice none 0 0] 26)) = w1 at *
  generalize hgr' : w.heap.size + 1 = gr at *
  have hgr : ¬ gr = w.heap.size := by omega
  have HGR := hide hgr'
  clear hgr'
  generalize hgb : w.heap.size = gb at HBX HLT hgr ⊢
  have HGB := hide hgb; clear hgb
  go_cut [] (fun wx => ∃ (la' : Option Addr) (lc' : Nat) (ia' : Option Addr) (ic' : Nat) (ta' : Option Addr) (tc' : Nat), Blk wx gb 26 #[.int .u8 kd, .bool ng, .slice la' ln lc', .string tx, .int .i64 nm, .slice ia' im ic', .slice ta' tn tc'] ∧ Blk wx gr 26 #[.int .u8 0, .bool false, .slice none 0 0, .string { data := #[] }, .int .i64 0, .slice none 0 0, .slice none 0 0] ∧ TermIn wx (Above w1) true [.int .u8 kd, .bool ng, .slice la' ln lc', .string tx, .int .i64 nm, .slice ia' im ic', .slice ta' tn tc'] (.mk kd ng limbs tx nm items tail) ∧ Keeps (fun j => j = gb) w1 wx)
  case first =>
    go_wp2_with fail
    refine order_begin (fun W => Blk W gb 26 #[.int .u8 kd, .bool ng, .slice la ln lc, .string tx, .int .i64 nm, .slice ia im ic, .slice ta tn tc]) (fun i => !(i == 12 || i == 14 || i == 16)) (by kernel_rfl) 17 rfl ?_
    have HKW0 : Hid (Keeps NoB w1 w1.drew) := hide (Keeps.refl _ _).drew
    have HRL0 := hide (HRL.out.keep (HKW.out.drew) (fun _ _ => id)); have HRI0 := hide (HRI.out.keep (HKW.out.drew) (fun _ _ => id)); have HTI0 := hide (TermsIn.keep (HKW.out.drew) (fun _ _ => id) _ _ HTI.out); have HRT0 := hide (HRT.out.keep (HKW.out.drew) (fun _ _ => id)); have HTT0 := hide (TermsIn.keep (HKW.out.drew) (fun _ _ => id) _ _ HTT.out)
    have HS : Blk w1.drew gb 26 #[.int .u8 kd, .bool ng, .slice la ln lc, .string tx, .int .i64 nm, .slice ia im ic, .slice ta tn tc] := HBX.out
    have HBX : Hid (Blk w1.drew gb 26 #[.int .u8 kd, .bool ng, .slice la ln lc, .string tx, .int .i64 nm, .slice ia im ic, .slice ta tn tc]) := HBX
    have HBR : Hid (Blk w1.drew gr 26 #[.int .u8 0, .bool false, .slice none 0 0, .string { data := #[] }, .int .i64 0, .slice none 0 0, .slice none 0 0]) := HBR
    have HLT : Hid (gb < w1.drew.heap.size ∧ gr < w1.drew.heap.size) := HLT
    generalize w1.drew = W0 at *
    have HK00 : Hid (Keeps NoB W0 W0) := hide (Keeps.refl _ _)
    refine order_pure (i := 0) rfl (by kernel_rfl) (fun _ _ _ h => h) (.inl ⟨rfl, fun _ => by go_simp; rfl⟩) ?_
    try simp only [Act.put, List.setIfInBounds_toArray, List.set_cons_succ, List.set_cons_zero]
    refine order_held (i := 1) rfl (by kernel_rfl) (fun _ _ _ h => h) (.inl ⟨rfl, fun W hW => by
      have q0 := hW.cell 2
      go_simp; rfl⟩) HS ?_
    try simp only [Act.put, List.setIfInBounds_toArray, List.set_cons_succ, List.set_cons_zero]
    refine order_pure (i := 3) rfl (by kernel_rfl) (fun _ _ _ h => h) (.inl ⟨rfl, fun _ => by go_simp; rfl⟩) ?_
    try simp only [Act.put, List.setIfInBounds_toArray, List.set_cons_succ, List.set_cons_zero]
    refine order_held (i := 4) rfl (by kernel_rfl) (fun _ _ _ h => h) (.inl ⟨rfl, fun W hW => by
      have q0 := hW.cell 5
      go_simp; rfl⟩) HS ?_
    try simp only [Act.put, List.setIfInBounds_toArray, List.set_cons_succ, List.set_cons_zero]
    refine order_pure (i := 7) rfl (by kernel_rfl) (fun _ _ _ h => h) (.inl ⟨rfl, fun _ => by go_simp; rfl⟩) ?_
    try simp only [Act.put, List.setIfInBounds_toArray, List.set_cons_succ, List.set_cons_zero]
    refine order_held (i := 8) rfl (by kernel_rfl) (fun _ _ _ h => h) (.inl ⟨rfl, fun W hW => by
      have q0 := hW.cell 6
      go_simp; rfl⟩) HS ?_
    try simp only [Act.put, List.setIfInBounds_toArray, List.set_cons_succ, List.set_cons_zero]
    refine order_three (i := 2) (j := 5) (k := 9) rfl rfl rfl (by kernel_rfl) (fun K hK => ?_) (fun K hK => ?_) (fun K hK => ?_)
    · skip
      go_simp
      refine (tm_clone_limbs B F la ln lc (limbs.map (Value.int .u32)) W0 (HRL0.out.keep HK00.out (fun _ _ => id)) (fun u hu => by obtain ⟨x, _, rfl⟩ := List.mem_map.1 hu; rfl) HRO.out.1).mono ?_
      rintro e V1 ⟨A2, c2, rfl, hr2, hc2, hk2⟩
      have HC2 := hide hc2
      clear hc2
      refine hK _ _ (fun _ hS => hS.keep hk2 id) ?_
      clear hK
      try simp only [Act.put, List.setIfInBounds_toArray, List.set_cons_succ, List.set_cons_zero]
      have HV1 : Hid (Keeps NoB W0 V1) := hide (HK00.out.trans' hk2 (fun _ _ => id) (fun _ _ => id))
      have F2_1 := hide (hr2.more (B' := Above W0) (fun j _ hj => Nat.le_trans HK00.out.size hj))
      clear hk2 hr2
      refine order_pure (i := 11) rfl (by kernel_rfl) (fun _ _ _ h => h) (.inl ⟨rfl, fun _ => by go_simp; rfl⟩) ?_
      try simp only [Act.put, List.setIfInBounds_toArray, List.set_cons_succ, List.set_cons_zero]
      refine order_two (i := 5) (j := 9) rfl rfl (by kernel_rfl) (fun K hK => ?_) (fun K hK => ?_)
      · skip
        go_simp
        refine hK _ _ (fun _ hS => hS.alloc _) ?_
        clear hK
        try simp only [Act.put, List.setIfInBounds_toArray, List.set_cons_succ, List.set_cons_zero]
        obtain ⟨g5, hg5⟩ : ∃ g5, V1.heap.size = g5 := ⟨_, rfl⟩
        have HV2 : Hid (Keeps NoB W0 (V1.alloc (.cells #[.slice ia im ic] 24))) := hide (HV1.out.alloc _)
        have F2_2 := hide (F2_1.out.keep ((Keeps.refl NoB V1).alloc (.cells #[.slice ia im ic] 24)) (fun _ _ => id))
        have F5_2 := hide (Blk.new V1 24 #[.slice ia im ic])
        clear F2_1 HV1
        rw [hg5] at F5_2 ⊢
        generalize V1.alloc (.cells #[.slice ia im ic] 24) = V2 at *
        clear hg5
        refine order_two (i := 6) (j := 9) rfl rfl (by kernel_rfl) (fun K hK => ?_) (fun K hK => ?_)
        · skip
          go_simp
          refine (copies_of (Tm.size.sizes items) (hide (HIH.out _ HSZ.out.1)) items (Nat.le_refl _) [css] [.slice ia im ic] (some ⟨g5, 0, none⟩) 1 1 im V2 (fun _ => True) B true F (one_head F5_2.out) (heads_one ic (HRI0.out.keep HV2.out (fun _ _ => id))) (by simpa using TermsIn.keep HV2.out (fun _ _ => id) _ _ HTI0.out) HLEN.out.1 HRO.out.2.1 (by omega)).mono ?_
          rintro e V3 ⟨A6, c6, rfl, css6, hs6, ht6, hf6, hk2⟩
          have HC6 : Hid (RoomC im c6 104) := hide ⟨HRO.out.2.1, hs6.2.1, hs6.2.2.1⟩
          refine hK _ _ (fun _ hS => hS.keep hk2 id) ?_
          clear hK
          try simp only [Act.put, List.setIfInBounds_toArray, List.set_cons_succ, List.set_cons_zero]
          have HV3 : Hid (Keeps NoB W0 V3) := hide (HV2.out.trans' hk2 (fun _ _ => id) (fun _ _ => id))
          have F2_3 := hide (F2_2.out.keep hk2 (fun _ _ => id))
          have F5_3 := hide (F5_2.out.keep hk2 id)
          have F6_3 := hide (And.intro (hs6.reads.more (B' := Above W0) (fun j _ hj => Nat.le_trans HV2.out.size (hf6 j hj))) (TermsIn.more (B' := Above W0) (fun j _ hj => Nat.le_trans HV2.out.size hj.1) _ _ ht6))
          clear hk2 hs6 ht6 hf6 F5_3 F2_2 F5_2 HV2
          refine order_one (i := 9) rfl (by kernel_rfl) (fun K hK => ?_)
          go_simp
          refine hK _ _ (fun _ hS => hS.alloc _) ?_
          clear hK
          try simp only [Act.put, List.setIfInBounds_toArray, List.set_cons_succ, List.set_cons_zero]
          obtain ⟨g9, hg9⟩ : ∃ g9, V3.heap.size = g9 := ⟨_, rfl⟩
          have HV4 : Hid (Keeps NoB W0 (V3.alloc (.cells #[.slice ta tn tc] 24))) := hide (HV3.out.alloc _)
          have F2_4 := hide (F2_3.out.keep ((Keeps.refl NoB V3).alloc (.cells #[.slice ta tn tc] 24)) (fun _ _ => id))
          have F6_4 := hide (And.intro (F6_3.out.1.keep ((Keeps.refl NoB V3).alloc (.cells #[.slice ta tn tc] 24)) (fun _ _ => id)) (TermsIn.keep ((Keeps.refl NoB V3).alloc (.cells #[.slice ta tn tc] 24)) (fun _ _ => id) _ _ F6_3.out.2))
          have F9_4 := hide (Blk.new V3 24 #[.slice ta tn tc])
          clear F2_3 F6_3 HV3
          rw [hg9] at F9_4 ⊢
          generalize V3.alloc (.cells #[.slice ta tn tc] 24) = V4 at *
          clear hg9
          refine order_one (i := 10) rfl (by kernel_rfl) (fun K hK => ?_)
          go_simp
          refine (copies_of (Tm.size.sizes tail) (hide (HIH.out _ HSZ.out.2)) tail (Nat.le_refl _) [dss] [.slice ta tn tc] (some ⟨g9, 0, none⟩) 1 1 tn V4 (fun _ => True) B true F (one_head F9_4.out) (heads_one tc (HRT0.out.keep HV4.out (fun _ _ => id))) (by simpa using TermsIn.keep HV4.out (fun _ _ => id) _ _ HTT0.out) HLEN.out.2 HRO.out.2.2 (by omega)).mono ?_
          rintro e V5 ⟨A10, c10, rfl, css10, hs10, ht10, hf10, hk2⟩
          have HC10 : Hid (RoomC tn c10 104) := hide ⟨HRO.out.2.2, hs10.2.1, hs10.2.2.1⟩
          refine hK _ _ (fun _ hS => hS.keep hk2 id) ?_
          clear hK
          try simp only [Act.put, List.setIfInBounds_toArray, List.set_cons_succ, List.set_cons_zero]
          have HV5 : Hid (Keeps NoB W0 V5) := hide (HV4.out.trans' hk2 (fun _ _ => id) (fun _ _ => id))
          have F2_5 := hide (F2_4.out.keep hk2 (fun _ _ => id))
          have F6_5 := hide (And.intro (F6_4.out.1.keep hk2 (fun _ _ => id)) (TermsIn.keep hk2 (fun _ _ => id) _ _ F6_4.out.2))
          have F9_5 := hide (F9_4.out.keep hk2 id)
          have F10_5 := hide (And.intro (hs10.reads.more (B' := Above W0) (fun j _ hj => Nat.le_trans HV4.out.size (hf10 j hj))) (TermsIn.more (B' := Above W0) (fun j _ hj => Nat.le_trans HV4.out.size hj.1) _ _ ht10))
          clear hk2 hs10 ht10 hf10 F9_5 F2_4 F6_4 F9_4 HV4
          have HB0 : Hid (Blk V5 gb 26 #[.int .u8 kd, .bool ng, .slice la ln lc, .string tx, .int .i64 nm, .slice ia im ic, .slice ta tn tc]) := hide (HBX.out.keep HV5.out id)
          have s12 := HB0.out.cell 2
          have t12 : V5.frozen? ⟨gb, 2, none⟩ = false := HB0.out.free 2
          refine order_one (i := 12) rfl (by kernel_rfl) (fun K hK => ?_)
          go_simp
          refine hK _ _ (fun h => absurd h (by decide)) ?_
          clear hK
          try simp only [Act.put, List.setIfInBounds_toArray, List.set_cons_succ, List.set_cons_zero]
          clear s12 t12
          have HS1 := hide ((Keeps.refl (fun j => j = gb) V5).setCell (p := ⟨gb, 2, none⟩) (.inl rfl) (.slice A2 ln c2))
          have HB1 := hide (HB0.out.put 2 (.slice A2 ln c2))
          generalize V5.setCell ⟨gb, 2, none⟩ (.slice A2 ln c2) = X1_5 at *
          refine order_pure (i := 13) rfl (by kernel_rfl) (fun _ _ _ h => h) (.inl ⟨rfl, fun _ => by go_simp; rfl⟩) ?_
          try simp only [Act.put, List.setIfInBounds_toArray, List.set_cons_succ, List.set_cons_zero]
          have s14 := HB1.out.cell 5
          have t14 : X1_5.frozen? ⟨gb, 5, none⟩ = false := HB1.out.free 5
          refine order_one (i := 14) rfl (by kernel_rfl) (fun K hK => ?_)
          go_simp
          refine hK _ _ (fun h => absurd h (by decide)) ?_
          clear hK
          try simp only [Act.put, List.setIfInBounds_toArray, List.set_cons_succ, List.set_cons_zero]
          clear s14 t14
          have HS2 := hide ((Keeps.refl (fun j => j = gb) X1_5).setCell (p := ⟨gb, 5, none⟩) (.inl rfl) (.slice A6 im c6))
          have HB2 := hide (HB1.out.put 5 (.slice A6 im c6))
          generalize X1_5.setCell ⟨gb, 5, none⟩ (.slice A6 im c6) = X2_5 at *
          refine order_pure (i := 15) rfl (by kernel_rfl) (fun _ _ _ h => h) (.inl ⟨rfl, fun _ => by go_simp; rfl⟩) ?_
          try simp only [Act.put, List.setIfInBounds_toArray, List.set_cons_succ, List.set_cons_zero]
          have s16 := HB2.out.cell 6
          have t16 : X2_5.frozen? ⟨gb, 6, none⟩ = false := HB2.out.free 6
          refine order_one (i := 16) rfl (by kernel_rfl) (fun K hK => ?_)
          go_simp
          refine hK _ _ (fun h => absurd h (by decide)) ?_
          clear hK
          try simp only [Act.put, List.setIfInBounds_toArray, List.set_cons_succ, List.set_cons_zero]
          clear s16 t16
          have HS3 := hide ((Keeps.refl (fun j => j = gb) X2_5).setCell (p := ⟨gb, 6, none⟩) (.inl rfl) (.slice A10 tn c10))
          have HB3 := hide (HB2.out.put 6 (.slice A10 tn c10))
          generalize X2_5.setCell ⟨gb, 6, none⟩ (.slice A10 tn c10) = X3_5 at *
          refine order_done (by kernel_rfl) ?_
          have hst : Keeps (fun j => j = gb) V5 X3_5 := (HS1.out.trans' HS2.out (fun _ _ h => h) (fun _ _ h => h) : Keeps (fun j => j = gb) V5 _).trans' HS3.out (fun _ _ h => h) (fun _ _ h => h)
          have hnot : ∀ j, Above W0 j → ¬ j = gb := fun j hj e => by have := HLT.out; unfold Above at hj; omega
          have hfin := copy_mid (ia := A6) (ic := c6) (ta := A10) (tc := c10) (la := A2) (lc := c2) kd ng tx nm ⟨HC2.out, HC6.out, HC10.out⟩ (F2_5.out.keep hst hnot) (F6_5.out.1.keep hst hnot) (TermsIn.keep hst hnot _ _ F6_5.out.2) (F10_5.out.1.keep hst hnot) (TermsIn.keep hst hnot _ _ F10_5.out.2)
          have HFIN := hide hfin; have HRES := hide ((HBR.out.keep HV5.out id).keep hst hgr); have HKK := hide (HV5.out.trans' hst (fun _ _ h => h.elim) (fun _ _ h => h) : Keeps (fun j => j = gb) W0 X3_5)
          clear hst hnot hfin
          go_wp2_with fail
          go_meet
          exact ⟨A2, c2, A6, c6, A10, c10, HB3.out, HRES.out, TermIn.more (fun j _ hj => Nat.le_trans HKW0.out.size hj) _ _ HFIN.out, HKW0.out.trans' HKK.out (fun _ _ h => h.elim) (fun _ _ h => h)⟩
        · skip
          go_simp
          refine hK _ _ (fun _ hS => hS.alloc _) ?_
          clear hK
          try simp only [Act.put, List.setIfInBounds_toArray, List.set_cons_succ, List.set_cons_zero]
          obtain ⟨g9, hg9⟩ : ∃ g9, V2.heap.size = g9 := ⟨_, rfl⟩
          have HV6 : Hid (Keeps NoB W0 (V2.alloc (.cells #[.slice ta tn tc] 24))) := hide (HV2.out.alloc _)
          have F2_6 := hide (F2_2.out.keep ((Keeps.refl NoB V2).alloc (.cells #[.slice ta tn tc] 24)) (fun _ _ => id))
          have F5_6 := hide (F5_2.out.keep ((Keeps.refl NoB V2).alloc (.cells #[.slice ta tn tc] 24)) id)
          have F9_6 := hide (Blk.new V2 24 #[.slice ta tn tc])
          clear F2_2 F5_2 HV2
          rw [hg9] at F9_6 ⊢
          generalize V2.alloc (.cells #[.slice ta tn tc] 24) = V6 at *
          clear hg9
          refine order_one (i := 6) rfl (by kernel_rfl) (fun K hK => ?_)
          go_simp
          refine (copies_of (Tm.size.sizes items) (hide (HIH.out _ HSZ.out.1)) items (Nat.le_refl _) [css] [.slice ia im ic] (some ⟨g5, 0, none⟩) 1 1 im V6 (fun _ => True) B true F (one_head F5_6.out) (heads_one ic (HRI0.out.keep HV6.out (fun _ _ => id))) (by simpa using TermsIn.keep HV6.out (fun _ _ => id) _ _ HTI0.out) HLEN.out.1 HRO.out.2.1 (by omega)).mono ?_
          rintro e V7 ⟨A6, c6, rfl, css6, hs6, ht6, hf6, hk2⟩
          have HC6 : Hid (RoomC im c6 104) := hide ⟨HRO.out.2.1, hs6.2.1, hs6.2.2.1⟩
          refine hK _ _ (fun _ hS => hS.keep hk2 id) ?_
          clear hK
          try simp only [Act.put, List.setIfInBounds_toArray, List.set_cons_succ, List.set_cons_zero]
          have HV7 : Hid (Keeps NoB W0 V7) := hide (HV6.out.trans' hk2 (fun _ _ => id) (fun _ _ => id))
          have F2_7 := hide (F2_6.out.keep hk2 (fun _ _ => id))
          have F5_7 := hide (F5_6.out.keep hk2 id)
          have F9_7 := hide (F9_6.out.keep hk2 id)
          have F6_7 := hide (And.intro (hs6.reads.more (B' := Above W0) (fun j _ hj => Nat.le_trans HV6.out.size (hf6 j hj))) (TermsIn.more (B' := Above W0) (fun j _ hj => Nat.le_trans HV6.out.size hj.1) _ _ ht6))
          clear hk2 hs6 ht6 hf6 F5_7 F2_6 F5_6 F9_6 HV6
          refine order_one (i := 10) rfl (by kernel_rfl) (fun K hK => ?_)
          go_simp
          refine (copies_of (Tm.size.sizes tail) (hide (HIH.out _ HSZ.out.2)) tail (Nat.le_refl _) [dss] [.slice ta tn tc] (some ⟨g9, 0, none⟩) 1 1 tn V7 (fun _ => True) B true F (one_head F9_7.out) (heads_one tc (HRT0.out.keep HV7.out (fun _ _ => id))) (by simpa using TermsIn.keep HV7.out (fun _ _ => id) _ _ HTT0.out) HLEN.out.2 HRO.out.2.2 (by omega)).mono ?_
          rintro e V8 ⟨A10, c10, rfl, css10, hs10, ht10, hf10, hk2⟩
          have HC10 : Hid (RoomC tn c10 104) := hide ⟨HRO.out.2.2, hs10.2.1, hs10.2.2.1⟩
          refine hK _ _ (fun _ hS => hS.keep hk2 id) ?_
          clear hK
          try simp only [Act.put, List.setIfInBounds_toArray, List.set_cons_succ, List.set_cons_zero]
          have HV8 : Hid (Keeps NoB W0 V8) := hide (HV7.out.trans' hk2 (fun _ _ => id) (fun _ _ => id))
          have F2_8 := hide (F2_7.out.keep hk2 (fun _ _ => id))
          have F9_8 := hide (F9_7.out.keep hk2 id)
          have F6_8 := hide (And.intro (F6_7.out.1.keep hk2 (fun _ _ => id)) (TermsIn.keep hk2 (fun _ _ => id) _ _ F6_7.out.2))
          have F10_8 := hide (And.intro (hs10.reads.more (B' := Above W0) (fun j _ hj => Nat.le_trans HV7.out.size (hf10 j hj))) (TermsIn.more (B' := Above W0) (fun j _ hj => Nat.le_trans HV7.out.size hj.1) _ _ ht10))
          clear hk2 hs10 ht10 hf10 F9_8 F2_7 F9_7 F6_7 HV7
          have HB0 : Hid (Blk V8 gb 26 #[.int .u8 kd, .bool ng, .slice la ln lc, .string tx, .int .i64 nm, .slice ia im ic, .slice ta tn tc]) := hide (HBX.out.keep HV8.out id)
          have s12 := HB0.out.cell 2
          have t12 : V8.frozen? ⟨gb, 2, none⟩ = false := HB0.out.free 2
          refine order_one (i := 12) rfl (by kernel_rfl) (fun K hK => ?_)
          go_simp
          refine hK _ _ (fun h => absurd h (by decide)) ?_
          clear hK
          try simp only [Act.put, List.setIfInBounds_toArray, List.set_cons_succ, List.set_cons_zero]
          clear s12 t12
          have HS1 := hide ((Keeps.refl (fun j => j = gb) V8).setCell (p := ⟨gb, 2, none⟩) (.inl rfl) (.slice A2 ln c2))
          have HB1 := hide (HB0.out.put 2 (.slice A2 ln c2))
          generalize V8.setCell ⟨gb, 2, none⟩ (.slice A2 ln c2) = X1_8 at *
          refine order_pure (i := 13) rfl (by kernel_rfl) (fun _ _ _ h => h) (.inl ⟨rfl, fun _ => by go_simp; rfl⟩) ?_
          try simp only [Act.put, List.setIfInBounds_toArray, List.set_cons_succ, List.set_cons_zero]
          have s14 := HB1.out.cell 5
          have t14 : X1_8.frozen? ⟨gb, 5, none⟩ = false := HB1.out.free 5
          refine order_one (i := 14) rfl (by kernel_rfl) (fun K hK => ?_)
          go_simp
          refine hK _ _ (fun h => absurd h (by decide)) ?_
          clear hK
          try simp only [Act.put, List.setIfInBounds_toArray, List.set_cons_succ, List.set_cons_zero]
          clear s14 t14
          have HS2 := hide ((Keeps.refl (fun j => j = gb) X1_8).setCell (p := ⟨gb, 5, none⟩) (.inl rfl) (.slice A6 im c6))
          have HB2 := hide (HB1.out.put 5 (.slice A6 im c6))
          generalize X1_8.setCell ⟨gb, 5, none⟩ (.slice A6 im c6) = X2_8 at *
          refine order_pure (i := 15) rfl (by kernel_rfl) (fun _ _ _ h => h) (.inl ⟨rfl, fun _ => by go_simp; rfl⟩) ?_
          try simp only [Act.put, List.setIfInBounds_toArray, List.set_cons_succ, List.set_cons_zero]
          have s16 := HB2.out.cell 6
          have t16 : X2_8.frozen? ⟨gb, 6, none⟩ = false := HB2.out.free 6
          refine order_one (i := 16) rfl (by kernel_rfl) (fun K hK => ?_)
          go_simp
          refine hK _ _ (fun h => absurd h (by decide)) ?_
          clear hK
          try simp only [Act.put, List.setIfInBounds_toArray, List.set_cons_succ, List.set_cons_zero]
          clear s16 t16
          have HS3 := hide ((Keeps.refl (fun j => j = gb) X2_8).setCell (p := ⟨gb, 6, none⟩) (.inl rfl) (.slice A10 tn c10))
          have HB3 := hide (HB2.out.put 6 (.slice A10 tn c10))
          generalize X2_8.setCell ⟨gb, 6, none⟩ (.slice A10 tn c10) = X3_8 at *
          refine order_done (by kernel_rfl) ?_
          have hst : Keeps (fun j => j = gb) V8 X3_8 := (HS1.out.trans' HS2.out (fun _ _ h => h) (fun _ _ h => h) : Keeps (fun j => j = gb) V8 _).trans' HS3.out (fun _ _ h => h) (fun _ _ h => h)
          have hnot : ∀ j, Above W0 j → ¬ j = gb := fun j hj e => by have := HLT.out; unfold Above at hj; omega
          have hfin := copy_mid (ia := A6) (ic := c6) (ta := A10) (tc := c10) (la := A2) (lc := c2) kd ng tx nm ⟨HC2.out, HC6.out, HC10.out⟩ (F2_8.out.keep hst hnot) (F6_8.out.1.keep hst hnot) (TermsIn.keep hst hnot _ _ F6_8.out.2) (F10_8.out.1.keep hst hnot) (TermsIn.keep hst hnot _ _ F10_8.out.2)
          have HFIN := hide hfin; have HRES := hide ((HBR.out.keep HV8.out id).keep hst hgr); have HKK := hide (HV8.out.trans' hst (fun _ _ h => h.elim) (fun _ _ h => h) : Keeps (fun j => j = gb) W0 X3_8)
          clear hst hnot hfin
          go_wp2_with fail
          go_meet
          exact ⟨A2, c2, A6, c6, A10, c10, HB3.out, HRES.out, TermIn.more (fun j _ hj => Nat.le_trans HKW0.out.size hj) _ _ HFIN.out, HKW0.out.trans' HKK.out (fun _ _ h => h.elim) (fun _ _ h => h)⟩
      · skip
        go_simp
        refine hK _ _ (fun _ hS => hS.alloc _) ?_
        clear hK
        try simp only [Act.put, List.setIfInBounds_toArray, List.set_cons_succ, List.set_cons_zero]
        obtain ⟨g9, hg9⟩ : ∃ g9, V1.heap.size = g9 := ⟨_, rfl⟩
        have HV9 : Hid (Keeps NoB W0 (V1.alloc (.cells #[.slice ta tn tc] 24))) := hide (HV1.out.alloc _)
        have F2_9 := hide (F2_1.out.keep ((Keeps.refl NoB V1).alloc (.cells #[.slice ta tn tc] 24)) (fun _ _ => id))
        have F9_9 := hide (Blk.new V1 24 #[.slice ta tn tc])
        clear F2_1 HV1
        rw [hg9] at F9_9 ⊢
        generalize V1.alloc (.cells #[.slice ta tn tc] 24) = V9 at *
        clear hg9
        refine order_one (i := 5) rfl (by kernel_rfl) (fun K hK => ?_)
        go_simp
        refine hK _ _ (fun _ hS => hS.alloc _) ?_
        clear hK
        try simp only [Act.put, List.setIfInBounds_toArray, List.set_cons_succ, List.set_cons_zero]
        obtain ⟨g5, hg5⟩ : ∃ g5, V9.heap.size = g5 := ⟨_, rfl⟩
        have HV10 : Hid (Keeps NoB W0 (V9.alloc (.cells #[.slice ia im ic] 24))) := hide (HV9.out.alloc _)
        have F2_10 := hide (F2_9.out.keep ((Keeps.refl NoB V9).alloc (.cells #[.slice ia im ic] 24)) (fun _ _ => id))
        have F9_10 := hide (F9_9.out.keep ((Keeps.refl NoB V9).alloc (.cells #[.slice ia im ic] 24)) id)
        have F5_10 := hide (Blk.new V9 24 #[.slice ia im ic])
        clear F2_9 F9_9 HV9
        rw [hg5] at F5_10 ⊢
        generalize V9.alloc (.cells #[.slice ia im ic] 24) = V10 at *
        clear hg5
        refine order_one (i := 6) rfl (by kernel_rfl) (fun K hK => ?_)
        go_simp
        refine (copies_of (Tm.size.sizes items) (hide (HIH.out _ HSZ.out.1)) items (Nat.le_refl _) [css] [.slice ia im ic] (some ⟨g5, 0, none⟩) 1 1 im V10 (fun _ => True) B true F (one_head F5_10.out) (heads_one ic (HRI0.out.keep HV10.out (fun _ _ => id))) (by simpa using TermsIn.keep HV10.out (fun _ _ => id) _ _ HTI0.out) HLEN.out.1 HRO.out.2.1 (by omega)).mono ?_
        rintro e V11 ⟨A6, c6, rfl, css6, hs6, ht6, hf6, hk2⟩
        have HC6 : Hid (RoomC im c6 104) := hide ⟨HRO.out.2.1, hs6.2.1, hs6.2.2.1⟩
        refine hK _ _ (fun _ hS => hS.keep hk2 id) ?_
        clear hK
        try simp only [Act.put, List.setIfInBounds_toArray, List.set_cons_succ, List.set_cons_zero]
        have HV11 : Hid (Keeps NoB W0 V11) := hide (HV10.out.trans' hk2 (fun _ _ => id) (fun _ _ => id))
        have F2_11 := hide (F2_10.out.keep hk2 (fun _ _ => id))
        have F9_11 := hide (F9_10.out.keep hk2 id)
        have F5_11 := hide (F5_10.out.keep hk2 id)
        have F6_11 := hide (And.intro (hs6.reads.more (B' := Above W0) (fun j _ hj => Nat.le_trans HV10.out.size (hf6 j hj))) (TermsIn.more (B' := Above W0) (fun j _ hj => Nat.le_trans HV10.out.size hj.1) _ _ ht6))
        clear hk2 hs6 ht6 hf6 F5_11 F2_10 F9_10 F5_10 HV10
        refine order_one (i := 10) rfl (by kernel_rfl) (fun K hK => ?_)
        go_simp
        refine (copies_of (Tm.size.sizes tail) (hide (HIH.out _ HSZ.out.2)) tail (Nat.le_refl _) [dss] [.slice ta tn tc] (some ⟨g9, 0, none⟩) 1 1 tn V11 (fun _ => True) B true F (one_head F9_11.out) (heads_one tc (HRT0.out.keep HV11.out (fun _ _ => id))) (by simpa using TermsIn.keep HV11.out (fun _ _ => id) _ _ HTT0.out) HLEN.out.2 HRO.out.2.2 (by omega)).mono ?_
        rintro e V12 ⟨A10, c10, rfl, css10, hs10, ht10, hf10, hk2⟩
        have HC10 : Hid (RoomC tn c10 104) := hide ⟨HRO.out.2.2, hs10.2.1, hs10.2.2.1⟩
        refine hK _ _ (fun _ hS => hS.keep hk2 id) ?_
        clear hK
        try simp only [Act.put, List.setIfInBounds_toArray, List.set_cons_succ, List.set_cons_zero]
        have HV12 : Hid (Keeps NoB W0 V12) := hide (HV11.out.trans' hk2 (fun _ _ => id) (fun _ _ => id))
        have F2_12 := hide (F2_11.out.keep hk2 (fun _ _ => id))
        have F9_12 := hide (F9_11.out.keep hk2 id)
        have F6_12 := hide (And.intro (F6_11.out.1.keep hk2 (fun _ _ => id)) (TermsIn.keep hk2 (fun _ _ => id) _ _ F6_11.out.2))
        have F10_12 := hide (And.intro (hs10.reads.more (B' := Above W0) (fun j _ hj => Nat.le_trans HV11.out.size (hf10 j hj))) (TermsIn.more (B' := Above W0) (fun j _ hj => Nat.le_trans HV11.out.size hj.1) _ _ ht10))
        clear hk2 hs10 ht10 hf10 F9_12 F2_11 F9_11 F6_11 HV11
        have HB0 : Hid (Blk V12 gb 26 #[.int .u8 kd, .bool ng, .slice la ln lc, .string tx, .int .i64 nm, .slice ia im ic, .slice ta tn tc]) := hide (HBX.out.keep HV12.out id)
        have s12 := HB0.out.cell 2
        have t12 : V12.frozen? ⟨gb, 2, none⟩ = false := HB0.out.free 2
        refine order_one (i := 12) rfl (by kernel_rfl) (fun K hK => ?_)
        go_simp
        refine hK _ _ (fun h => absurd h (by decide)) ?_
        clear hK
        try simp only [Act.put, List.setIfInBounds_toArray, List.set_cons_succ, List.set_cons_zero]
        clear s12 t12
        have HS1 := hide ((Keeps.refl (fun j => j = gb) V12).setCell (p := ⟨gb, 2, none⟩) (.inl rfl) (.slice A2 ln c2))
        have HB1 := hide (HB0.out.put 2 (.slice A2 ln c2))
        generalize V12.setCell ⟨gb, 2, none⟩ (.slice A2 ln c2) = X1_12 at *
        refine order_pure (i := 13) rfl (by kernel_rfl) (fun _ _ _ h => h) (.inl ⟨rfl, fun _ => by go_simp; rfl⟩) ?_
        try simp only [Act.put, List.setIfInBounds_toArray, List.set_cons_succ, List.set_cons_zero]
        have s14 := HB1.out.cell 5
        have t14 : X1_12.frozen? ⟨gb, 5, none⟩ = false := HB1.out.free 5
        refine order_one (i := 14) rfl (by kernel_rfl) (fun K hK => ?_)
        go_simp
        refine hK _ _ (fun h => absurd h (by decide)) ?_
        clear hK
        try simp only [Act.put, List.setIfInBounds_toArray, List.set_cons_succ, List.set_cons_zero]
        clear s14 t14
        have HS2 := hide ((Keeps.refl (fun j => j = gb) X1_12).setCell (p := ⟨gb, 5, none⟩) (.inl rfl) (.slice A6 im c6))
        have HB2 := hide (HB1.out.put 5 (.slice A6 im c6))
        generalize X1_12.setCell ⟨gb, 5, none⟩ (.slice A6 im c6) = X2_12 at *
        refine order_pure (i := 15) rfl (by kernel_rfl) (fun _ _ _ h => h) (.inl ⟨rfl, fun _ => by go_simp; rfl⟩) ?_
        try simp only [Act.put, List.setIfInBounds_toArray, List.set_cons_succ, List.set_cons_zero]
        have s16 := HB2.out.cell 6
        have t16 : X2_12.frozen? ⟨gb, 6, none⟩ = false := HB2.out.free 6
        refine order_one (i := 16) rfl (by kernel_rfl) (fun K hK => ?_)
        go_simp
        refine hK _ _ (fun h => absurd h (by decide)) ?_
        clear hK
        try simp only [Act.put, List.setIfInBounds_toArray, List.set_cons_succ, List.set_cons_zero]
        clear s16 t16
        have HS3 := hide ((Keeps.refl (fun j => j = gb) X2_12).setCell (p := ⟨gb, 6, none⟩) (.inl rfl) (.slice A10 tn c10))
        have HB3 := hide (HB2.out.put 6 (.slice A10 tn c10))
        generalize X2_12.setCell ⟨gb, 6, none⟩ (.slice A10 tn c10) = X3_12 at *
        refine order_done (by kernel_rfl) ?_
        have hst : Keeps (fun j => j = gb) V12 X3_12 := (HS1.out.trans' HS2.out (fun _ _ h => h) (fun _ _ h => h) : Keeps (fun j => j = gb) V12 _).trans' HS3.out (fun _ _ h => h) (fun _ _ h => h)
        have hnot : ∀ j, Above W0 j → ¬ j = gb := fun j hj e => by have := HLT.out; unfold Above at hj; omega
        have hfin := copy_mid (ia := A6) (ic := c6) (ta := A10) (tc := c10) (la := A2) (lc := c2) kd ng tx nm ⟨HC2.out, HC6.out, HC10.out⟩ (F2_12.out.keep hst hnot) (F6_12.out.1.keep hst hnot) (TermsIn.keep hst hnot _ _ F6_12.out.2) (F10_12.out.1.keep hst hnot) (TermsIn.keep hst hnot _ _ F10_12.out.2)
        have HFIN := hide hfin; have HRES := hide ((HBR.out.keep HV12.out id).keep hst hgr); have HKK := hide (HV12.out.trans' hst (fun _ _ h => h.elim) (fun _ _ h => h) : Keeps (fun j => j = gb) W0 X3_12)
        clear hst hnot hfin
        go_wp2_with fail
        go_meet
        exact ⟨A2, c2, A6, c6, A10, c10, HB3.out, HRES.out, TermIn.more (fun j _ hj => Nat.le_trans HKW0.out.size hj) _ _ HFIN.out, HKW0.out.trans' HKK.out (fun _ _ h => h.elim) (fun _ _ h => h)⟩
    · skip
      go_simp
      refine hK _ _ (fun _ hS => hS.alloc _) ?_
      clear hK
      try simp only [Act.put, List.setIfInBounds_toArray, List.set_cons_succ, List.set_cons_zero]
      obtain ⟨g5, hg5⟩ : ∃ g5, W0.heap.size = g5 := ⟨_, rfl⟩
      have HV13 : Hid (Keeps NoB W0 (W0.alloc (.cells #[.slice ia im ic] 24))) := hide (HK00.out.alloc _)
      have F5_13 := hide (Blk.new W0 24 #[.slice ia im ic])
      rw [hg5] at F5_13 ⊢
      generalize W0.alloc (.cells #[.slice ia im ic] 24) = V13 at *
      clear hg5
      refine order_two (i := 2) (j := 9) rfl rfl (by kernel_rfl) (fun K hK => ?_) (fun K hK => ?_)
      · skip
        go_simp
        refine (tm_clone_limbs B F la ln lc (limbs.map (Value.int .u32)) V13 (HRL0.out.keep HV13.out (fun _ _ => id)) (fun u hu => by obtain ⟨x, _, rfl⟩ := List.mem_map.1 hu; rfl) HRO.out.1).mono ?_
        rintro e V14 ⟨A2, c2, rfl, hr2, hc2, hk2⟩
        have HC2 := hide hc2
        clear hc2
        refine hK _ _ (fun _ hS => hS.keep hk2 id) ?_
        clear hK
        try simp only [Act.put, List.setIfInBounds_toArray, List.set_cons_succ, List.set_cons_zero]
        have HV14 : Hid (Keeps NoB W0 V14) := hide (HV13.out.trans' hk2 (fun _ _ => id) (fun _ _ => id))
        have F5_14 := hide (F5_13.out.keep hk2 id)
        have F2_14 := hide (hr2.more (B' := Above W0) (fun j _ hj => Nat.le_trans HV13.out.size hj))
        clear hk2 hr2 F5_13 HV13
        refine order_pure (i := 11) rfl (by kernel_rfl) (fun _ _ _ h => h) (.inl ⟨rfl, fun _ => by go_simp; rfl⟩) ?_
        try simp only [Act.put, List.setIfInBounds_toArray, List.set_cons_succ, List.set_cons_zero]
        refine order_two (i := 6) (j := 9) rfl rfl (by kernel_rfl) (fun K hK => ?_) (fun K hK => ?_)
        · skip
          go_simp
          refine (copies_of (Tm.size.sizes items) (hide (HIH.out _ HSZ.out.1)) items (Nat.le_refl _) [css] [.slice ia im ic] (some ⟨g5, 0, none⟩) 1 1 im V14 (fun _ => True) B true F (one_head F5_14.out) (heads_one ic (HRI0.out.keep HV14.out (fun _ _ => id))) (by simpa using TermsIn.keep HV14.out (fun _ _ => id) _ _ HTI0.out) HLEN.out.1 HRO.out.2.1 (by omega)).mono ?_
          rintro e V15 ⟨A6, c6, rfl, css6, hs6, ht6, hf6, hk2⟩
          have HC6 : Hid (RoomC im c6 104) := hide ⟨HRO.out.2.1, hs6.2.1, hs6.2.2.1⟩
          refine hK _ _ (fun _ hS => hS.keep hk2 id) ?_
          clear hK
          try simp only [Act.put, List.setIfInBounds_toArray, List.set_cons_succ, List.set_cons_zero]
          have HV15 : Hid (Keeps NoB W0 V15) := hide (HV14.out.trans' hk2 (fun _ _ => id) (fun _ _ => id))
          have F5_15 := hide (F5_14.out.keep hk2 id)
          have F2_15 := hide (F2_14.out.keep hk2 (fun _ _ => id))
          have F6_15 := hide (And.intro (hs6.reads.more (B' := Above W0) (fun j _ hj => Nat.le_trans HV14.out.size (hf6 j hj))) (TermsIn.more (B' := Above W0) (fun j _ hj => Nat.le_trans HV14.out.size hj.1) _ _ ht6))
          clear hk2 hs6 ht6 hf6 F5_15 F5_14 F2_14 HV14
          refine order_one (i := 9) rfl (by kernel_rfl) (fun K hK => ?_)
          go_simp
          refine hK _ _ (fun _ hS => hS.alloc _) ?_
          clear hK
          try simp only [Act.put, List.setIfInBounds_toArray, List.set_cons_succ, List.set_cons_zero]
          obtain ⟨g9, hg9⟩ : ∃ g9, V15.heap.size = g9 := ⟨_, rfl⟩
          have HV16 : Hid (Keeps NoB W0 (V15.alloc (.cells #[.slice ta tn tc] 24))) := hide (HV15.out.alloc _)
          have F2_16 := hide (F2_15.out.keep ((Keeps.refl NoB V15).alloc (.cells #[.slice ta tn tc] 24)) (fun _ _ => id))
          have F6_16 := hide (And.intro (F6_15.out.1.keep ((Keeps.refl NoB V15).alloc (.cells #[.slice ta tn tc] 24)) (fun _ _ => id)) (TermsIn.keep ((Keeps.refl NoB V15).alloc (.cells #[.slice ta tn tc] 24)) (fun _ _ => id) _ _ F6_15.out.2))
          have F9_16 := hide (Blk.new V15 24 #[.slice ta tn tc])
          clear F2_15 F6_15 HV15
          rw [hg9] at F9_16 ⊢
          generalize V15.alloc (.cells #[.slice ta tn tc] 24) = V16 at *
          clear hg9
          refine order_one (i := 10) rfl (by kernel_rfl) (fun K hK => ?_)
          go_simp
          refine (copies_of (Tm.size.sizes tail) (hide (HIH.out _ HSZ.out.2)) tail (Nat.le_refl _) [dss] [.slice ta tn tc] (some ⟨g9, 0, none⟩) 1 1 tn V16 (fun _ => True) B true F (one_head F9_16.out) (heads_one tc (HRT0.out.keep HV16.out (fun _ _ => id))) (by simpa using TermsIn.keep HV16.out (fun _ _ => id) _ _ HTT0.out) HLEN.out.2 HRO.out.2.2 (by omega)).mono ?_
          rintro e V17 ⟨A10, c10, rfl, css10, hs10, ht10, hf10, hk2⟩
          have HC10 : Hid (RoomC tn c10 104) := hide ⟨HRO.out.2.2, hs10.2.1, hs10.2.2.1⟩
          refine hK _ _ (fun _ hS => hS.keep hk2 id) ?_
          clear hK
          try simp only [Act.put, List.setIfInBounds_toArray, List.set_cons_succ, List.set_cons_zero]
          have HV17 : Hid (Keeps NoB W0 V17) := hide (HV16.out.trans' hk2 (fun _ _ => id) (fun _ _ => id))
          have F2_17 := hide (F2_16.out.keep hk2 (fun _ _ => id))
          have F6_17 := hide (And.intro (F6_16.out.1.keep hk2 (fun _ _ => id)) (TermsIn.keep hk2 (fun _ _ => id) _ _ F6_16.out.2))
          have F9_17 := hide (F9_16.out.keep hk2 id)
          have F10_17 := hide (And.intro (hs10.reads.more (B' := Above W0) (fun j _ hj => Nat.le_trans HV16.out.size (hf10 j hj))) (TermsIn.more (B' := Above W0) (fun j _ hj => Nat.le_trans HV16.out.size hj.1) _ _ ht10))
          clear hk2 hs10 ht10 hf10 F9_17 F2_16 F6_16 F9_16 HV16
          have HB0 : Hid (Blk V17 gb 26 #[.int .u8 kd, .bool ng, .slice la ln lc, .string tx, .int .i64 nm, .slice ia im ic, .slice ta tn tc]) := hide (HBX.out.keep HV17.out id)
          have s12 := HB0.out.cell 2
          have t12 : V17.frozen? ⟨gb, 2, none⟩ = false := HB0.out.free 2
          refine order_one (i := 12) rfl (by kernel_rfl) (fun K hK => ?_)
          go_simp
          refine hK _ _ (fun h => absurd h (by decide)) ?_
          clear hK
          try simp only [Act.put, List.setIfInBounds_toArray, List.set_cons_succ, List.set_cons_zero]
          clear s12 t12
          have HS1 := hide ((Keeps.refl (fun j => j = gb) V17).setCell (p := ⟨gb, 2, none⟩) (.inl rfl) (.slice A2 ln c2))
          have HB1 := hide (HB0.out.put 2 (.slice A2 ln c2))
          generalize V17.setCell ⟨gb, 2, none⟩ (.slice A2 ln c2) = X1_17 at *
          refine order_pure (i := 13) rfl (by kernel_rfl) (fun _ _ _ h => h) (.inl ⟨rfl, fun _ => by go_simp; rfl⟩) ?_
          try simp only [Act.put, List.setIfInBounds_toArray, List.set_cons_succ, List.set_cons_zero]
          have s14 := HB1.out.cell 5
          have t14 : X1_17.frozen? ⟨gb, 5, none⟩ = false := HB1.out.free 5
          refine order_one (i := 14) rfl (by kernel_rfl) (fun K hK => ?_)
          go_simp
          refine hK _ _ (fun h => absurd h (by decide)) ?_
          clear hK
          try simp only [Act.put, List.setIfInBounds_toArray, List.set_cons_succ, List.set_cons_zero]
          clear s14 t14
          have HS2 := hide ((Keeps.refl (fun j => j = gb) X1_17).setCell (p := ⟨gb, 5, none⟩) (.inl rfl) (.slice A6 im c6))
          have HB2 := hide (HB1.out.put 5 (.slice A6 im c6))
          generalize X1_17.setCell ⟨gb, 5, none⟩ (.slice A6 im c6) = X2_17 at *
          refine order_pure (i := 15) rfl (by kernel_rfl) (fun _ _ _ h => h) (.inl ⟨rfl, fun _ => by go_simp; rfl⟩) ?_
          try simp only [Act.put, List.setIfInBounds_toArray, List.set_cons_succ, List.set_cons_zero]
          have s16 := HB2.out.cell 6
          have t16 : X2_17.frozen? ⟨gb, 6, none⟩ = false := HB2.out.free 6
          refine order_one (i := 16) rfl (by kernel_rfl) (fun K hK => ?_)
          go_simp
          refine hK _ _ (fun h => absurd h (by decide)) ?_
          clear hK
          try simp only [Act.put, List.setIfInBounds_toArray, List.set_cons_succ, List.set_cons_zero]
          clear s16 t16
          have HS3 := hide ((Keeps.refl (fun j => j = gb) X2_17).setCell (p := ⟨gb, 6, none⟩) (.inl rfl) (.slice A10 tn c10))
          have HB3 := hide (HB2.out.put 6 (.slice A10 tn c10))
          generalize X2_17.setCell ⟨gb, 6, none⟩ (.slice A10 tn c10) = X3_17 at *
          refine order_done (by kernel_rfl) ?_
          have hst : Keeps (fun j => j = gb) V17 X3_17 := (HS1.out.trans' HS2.out (fun _ _ h => h) (fun _ _ h => h) : Keeps (fun j => j = gb) V17 _).trans' HS3.out (fun _ _ h => h) (fun _ _ h => h)
          have hnot : ∀ j, Above W0 j → ¬ j = gb := fun j hj e => by have := HLT.out; unfold Above at hj; omega
          have hfin := copy_mid (ia := A6) (ic := c6) (ta := A10) (tc := c10) (la := A2) (lc := c2) kd ng tx nm ⟨HC2.out, HC6.out, HC10.out⟩ (F2_17.out.keep hst hnot) (F6_17.out.1.keep hst hnot) (TermsIn.keep hst hnot _ _ F6_17.out.2) (F10_17.out.1.keep hst hnot) (TermsIn.keep hst hnot _ _ F10_17.out.2)
          have HFIN := hide hfin; have HRES := hide ((HBR.out.keep HV17.out id).keep hst hgr); have HKK := hide (HV17.out.trans' hst (fun _ _ h => h.elim) (fun _ _ h => h) : Keeps (fun j => j = gb) W0 X3_17)
          clear hst hnot hfin
          go_wp2_with fail
          go_meet
          exact ⟨A2, c2, A6, c6, A10, c10, HB3.out, HRES.out, TermIn.more (fun j _ hj => Nat.le_trans HKW0.out.size hj) _ _ HFIN.out, HKW0.out.trans' HKK.out (fun _ _ h => h.elim) (fun _ _ h => h)⟩
        · skip
          go_simp
          refine hK _ _ (fun _ hS => hS.alloc _) ?_
          clear hK
          try simp only [Act.put, List.setIfInBounds_toArray, List.set_cons_succ, List.set_cons_zero]
          obtain ⟨g9, hg9⟩ : ∃ g9, V14.heap.size = g9 := ⟨_, rfl⟩
          have HV18 : Hid (Keeps NoB W0 (V14.alloc (.cells #[.slice ta tn tc] 24))) := hide (HV14.out.alloc _)
          have F5_18 := hide (F5_14.out.keep ((Keeps.refl NoB V14).alloc (.cells #[.slice ta tn tc] 24)) id)
          have F2_18 := hide (F2_14.out.keep ((Keeps.refl NoB V14).alloc (.cells #[.slice ta tn tc] 24)) (fun _ _ => id))
          have F9_18 := hide (Blk.new V14 24 #[.slice ta tn tc])
          clear F5_14 F2_14 HV14
          rw [hg9] at F9_18 ⊢
          generalize V14.alloc (.cells #[.slice ta tn tc] 24) = V18 at *
          clear hg9
          refine order_one (i := 6) rfl (by kernel_rfl) (fun K hK => ?_)
          go_simp
          refine (copies_of (Tm.size.sizes items) (hide (HIH.out _ HSZ.out.1)) items (Nat.le_refl _) [css] [.slice ia im ic] (some ⟨g5, 0, none⟩) 1 1 im V18 (fun _ => True) B true F (one_head F5_18.out) (heads_one ic (HRI0.out.keep HV18.out (fun _ _ => id))) (by simpa using TermsIn.keep HV18.out (fun _ _ => id) _ _ HTI0.out) HLEN.out.1 HRO.out.2.1 (by omega)).mono ?_
          rintro e V19 ⟨A6, c6, rfl, css6, hs6, ht6, hf6, hk2⟩
          have HC6 : Hid (RoomC im c6 104) := hide ⟨HRO.out.2.1, hs6.2.1, hs6.2.2.1⟩
          refine hK _ _ (fun _ hS => hS.keep hk2 id) ?_
          clear hK
          try simp only [Act.put, List.setIfInBounds_toArray, List.set_cons_succ, List.set_cons_zero]
          have HV19 : Hid (Keeps NoB W0 V19) := hide (HV18.out.trans' hk2 (fun _ _ => id) (fun _ _ => id))
          have F5_19 := hide (F5_18.out.keep hk2 id)
          have F2_19 := hide (F2_18.out.keep hk2 (fun _ _ => id))
          have F9_19 := hide (F9_18.out.keep hk2 id)
          have F6_19 := hide (And.intro (hs6.reads.more (B' := Above W0) (fun j _ hj => Nat.le_trans HV18.out.size (hf6 j hj))) (TermsIn.more (B' := Above W0) (fun j _ hj => Nat.le_trans HV18.out.size hj.1) _ _ ht6))
          clear hk2 hs6 ht6 hf6 F5_19 F5_18 F2_18 F9_18 HV18
          refine order_one (i := 10) rfl (by kernel_rfl) (fun K hK => ?_)
          go_simp
          refine (copies_of (Tm.size.sizes tail) (hide (HIH.out _ HSZ.out.2)) tail (Nat.le_refl _) [dss] [.slice ta tn tc] (some ⟨g9, 0, none⟩) 1 1 tn V19 (fun _ => True) B true F (one_head F9_19.out) (heads_one tc (HRT0.out.keep HV19.out (fun _ _ => id))) (by simpa using TermsIn.keep HV19.out (fun _ _ => id) _ _ HTT0.out) HLEN.out.2 HRO.out.2.2 (by omega)).mono ?_
          rintro e V20 ⟨A10, c10, rfl, css10, hs10, ht10, hf10, hk2⟩
          have HC10 : Hid (RoomC tn c10 104) := hide ⟨HRO.out.2.2, hs10.2.1, hs10.2.2.1⟩
          refine hK _ _ (fun _ hS => hS.keep hk2 id) ?_
          clear hK
          try simp only [Act.put, List.setIfInBounds_toArray, List.set_cons_succ, List.set_cons_zero]
          have HV20 : Hid (Keeps NoB W0 V20) := hide (HV19.out.trans' hk2 (fun _ _ => id) (fun _ _ => id))
          have F2_20 := hide (F2_19.out.keep hk2 (fun _ _ => id))
          have F9_20 := hide (F9_19.out.keep hk2 id)
          have F6_20 := hide (And.intro (F6_19.out.1.keep hk2 (fun _ _ => id)) (TermsIn.keep hk2 (fun _ _ => id) _ _ F6_19.out.2))
          have F10_20 := hide (And.intro (hs10.reads.more (B' := Above W0) (fun j _ hj => Nat.le_trans HV19.out.size (hf10 j hj))) (TermsIn.more (B' := Above W0) (fun j _ hj => Nat.le_trans HV19.out.size hj.1) _ _ ht10))
          clear hk2 hs10 ht10 hf10 F9_20 F2_19 F9_19 F6_19 HV19
          have HB0 : Hid (Blk V20 gb 26 #[.int .u8 kd, .bool ng, .slice la ln lc, .string tx, .int .i64 nm, .slice ia im ic, .slice ta tn tc]) := hide (HBX.out.keep HV20.out id)
          have s12 := HB0.out.cell 2
          have t12 : V20.frozen? ⟨gb, 2, none⟩ = false := HB0.out.free 2
          refine order_one (i := 12) rfl (by kernel_rfl) (fun K hK => ?_)
          go_simp
          refine hK _ _ (fun h => absurd h (by decide)) ?_
          clear hK
          try simp only [Act.put, List.setIfInBounds_toArray, List.set_cons_succ, List.set_cons_zero]
          clear s12 t12
          have HS1 := hide ((Keeps.refl (fun j => j = gb) V20).setCell (p := ⟨gb, 2, none⟩) (.inl rfl) (.slice A2 ln c2))
          have HB1 := hide (HB0.out.put 2 (.slice A2 ln c2))
          generalize V20.setCell ⟨gb, 2, none⟩ (.slice A2 ln c2) = X1_20 at *
          refine order_pure (i := 13) rfl (by kernel_rfl) (fun _ _ _ h => h) (.inl ⟨rfl, fun _ => by go_simp; rfl⟩) ?_
          try simp only [Act.put, List.setIfInBounds_toArray, List.set_cons_succ, List.set_cons_zero]
          have s14 := HB1.out.cell 5
          have t14 : X1_20.frozen? ⟨gb, 5, none⟩ = false := HB1.out.free 5
          refine order_one (i := 14) rfl (by kernel_rfl) (fun K hK => ?_)
          go_simp
          refine hK _ _ (fun h => absurd h (by decide)) ?_
          clear hK
          try simp only [Act.put, List.setIfInBounds_toArray, List.set_cons_succ, List.set_cons_zero]
          clear s14 t14
          have HS2 := hide ((Keeps.refl (fun j => j = gb) X1_20).setCell (p := ⟨gb, 5, none⟩) (.inl rfl) (.slice A6 im c6))
          have HB2 := hide (HB1.out.put 5 (.slice A6 im c6))
          generalize X1_20.setCell ⟨gb, 5, none⟩ (.slice A6 im c6) = X2_20 at *
          refine order_pure (i := 15) rfl (by kernel_rfl) (fun _ _ _ h => h) (.inl ⟨rfl, fun _ => by go_simp; rfl⟩) ?_
          try simp only [Act.put, List.setIfInBounds_toArray, List.set_cons_succ, List.set_cons_zero]
          have s16 := HB2.out.cell 6
          have t16 : X2_20.frozen? ⟨gb, 6, none⟩ = false := HB2.out.free 6
          refine order_one (i := 16) rfl (by kernel_rfl) (fun K hK => ?_)
          go_simp
          refine hK _ _ (fun h => absurd h (by decide)) ?_
          clear hK
          try simp only [Act.put, List.setIfInBounds_toArray, List.set_cons_succ, List.set_cons_zero]
          clear s16 t16
          have HS3 := hide ((Keeps.refl (fun j => j = gb) X2_20).setCell (p := ⟨gb, 6, none⟩) (.inl rfl) (.slice A10 tn c10))
          have HB3 := hide (HB2.out.put 6 (.slice A10 tn c10))
          generalize X2_20.setCell ⟨gb, 6, none⟩ (.slice A10 tn c10) = X3_20 at *
          refine order_done (by kernel_rfl) ?_
          have hst : Keeps (fun j => j = gb) V20 X3_20 := (HS1.out.trans' HS2.out (fun _ _ h => h) (fun _ _ h => h) : Keeps (fun j => j = gb) V20 _).trans' HS3.out (fun _ _ h => h) (fun _ _ h => h)
          have hnot : ∀ j, Above W0 j → ¬ j = gb := fun j hj e => by have := HLT.out; unfold Above at hj; omega
          have hfin := copy_mid (ia := A6) (ic := c6) (ta := A10) (tc := c10) (la := A2) (lc := c2) kd ng tx nm ⟨HC2.out, HC6.out, HC10.out⟩ (F2_20.out.keep hst hnot) (F6_20.out.1.keep hst hnot) (TermsIn.keep hst hnot _ _ F6_20.out.2) (F10_20.out.1.keep hst hnot) (TermsIn.keep hst hnot _ _ F10_20.out.2)
          have HFIN := hide hfin; have HRES := hide ((HBR.out.keep HV20.out id).keep hst hgr); have HKK := hide (HV20.out.trans' hst (fun _ _ h => h.elim) (fun _ _ h => h) : Keeps (fun j => j = gb) W0 X3_20)
          clear hst hnot hfin
          go_wp2_with fail
          go_meet
          exact ⟨A2, c2, A6, c6, A10, c10, HB3.out, HRES.out, TermIn.more (fun j _ hj => Nat.le_trans HKW0.out.size hj) _ _ HFIN.out, HKW0.out.trans' HKK.out (fun _ _ h => h.elim) (fun _ _ h => h)⟩
      · skip
        go_simp
        refine hK _ _ (fun _ hS => hS.alloc _) ?_
        clear hK
        try simp only [Act.put, List.setIfInBounds_toArray, List.set_cons_succ, List.set_cons_zero]
        obtain ⟨g9, hg9⟩ : ∃ g9, V13.heap.size = g9 := ⟨_, rfl⟩
        have HV21 : Hid (Keeps NoB W0 (V13.alloc (.cells #[.slice ta tn tc] 24))) := hide (HV13.out.alloc _)
        have F5_21 := hide (F5_13.out.keep ((Keeps.refl NoB V13).alloc (.cells #[.slice ta tn tc] 24)) id)
        have F9_21 := hide (Blk.new V13 24 #[.slice ta tn tc])
        clear F5_13 HV13
        rw [hg9] at F9_21 ⊢
        generalize V13.alloc (.cells #[.slice ta tn tc] 24) = V21 at *
        clear hg9
        refine order_one (i := 2) rfl (by kernel_rfl) (fun K hK => ?_)
        go_simp
        refine (tm_clone_limbs B F la ln lc (limbs.map (Value.int .u32)) V21 (HRL0.out.keep HV21.out (fun _ _ => id)) (fun u hu => by obtain ⟨x, _, rfl⟩ := List.mem_map.1 hu; rfl) HRO.out.1).mono ?_
        rintro e V22 ⟨A2, c2, rfl, hr2, hc2, hk2⟩
        have HC2 := hide hc2
        clear hc2
        refine hK _ _ (fun _ hS => hS.keep hk2 id) ?_
        clear hK
        try simp only [Act.put, List.setIfInBounds_toArray, List.set_cons_succ, List.set_cons_zero]
        have HV22 : Hid (Keeps NoB W0 V22) := hide (HV21.out.trans' hk2 (fun _ _ => id) (fun _ _ => id))
        have F5_22 := hide (F5_21.out.keep hk2 id)
        have F9_22 := hide (F9_21.out.keep hk2 id)
        have F2_22 := hide (hr2.more (B' := Above W0) (fun j _ hj => Nat.le_trans HV21.out.size hj))
        clear hk2 hr2 F5_21 F9_21 HV21
        refine order_pure (i := 11) rfl (by kernel_rfl) (fun _ _ _ h => h) (.inl ⟨rfl, fun _ => by go_simp; rfl⟩) ?_
        try simp only [Act.put, List.setIfInBounds_toArray, List.set_cons_succ, List.set_cons_zero]
        refine order_one (i := 6) rfl (by kernel_rfl) (fun K hK => ?_)
        go_simp
        refine (copies_of (Tm.size.sizes items) (hide (HIH.out _ HSZ.out.1)) items (Nat.le_refl _) [css] [.slice ia im ic] (some ⟨g5, 0, none⟩) 1 1 im V22 (fun _ => True) B true F (one_head F5_22.out) (heads_one ic (HRI0.out.keep HV22.out (fun _ _ => id))) (by simpa using TermsIn.keep HV22.out (fun _ _ => id) _ _ HTI0.out) HLEN.out.1 HRO.out.2.1 (by omega)).mono ?_
        rintro e V23 ⟨A6, c6, rfl, css6, hs6, ht6, hf6, hk2⟩
        have HC6 : Hid (RoomC im c6 104) := hide ⟨HRO.out.2.1, hs6.2.1, hs6.2.2.1⟩
        refine hK _ _ (fun _ hS => hS.keep hk2 id) ?_
        clear hK
        try simp only [Act.put, List.setIfInBounds_toArray, List.set_cons_succ, List.set_cons_zero]
        have HV23 : Hid (Keeps NoB W0 V23) := hide (HV22.out.trans' hk2 (fun _ _ => id) (fun _ _ => id))
        have F5_23 := hide (F5_22.out.keep hk2 id)
        have F9_23 := hide (F9_22.out.keep hk2 id)
        have F2_23 := hide (F2_22.out.keep hk2 (fun _ _ => id))
        have F6_23 := hide (And.intro (hs6.reads.more (B' := Above W0) (fun j _ hj => Nat.le_trans HV22.out.size (hf6 j hj))) (TermsIn.more (B' := Above W0) (fun j _ hj => Nat.le_trans HV22.out.size hj.1) _ _ ht6))
        clear hk2 hs6 ht6 hf6 F5_23 F5_22 F9_22 F2_22 HV22
        refine order_one (i := 10) rfl (by kernel_rfl) (fun K hK => ?_)
        go_simp
        refine (copies_of (Tm.size.sizes tail) (hide (HIH.out _ HSZ.out.2)) tail (Nat.le_refl _) [dss] [.slice ta tn tc] (some ⟨g9, 0, none⟩) 1 1 tn V23 (fun _ => True) B true F (one_head F9_23.out) (heads_one tc (HRT0.out.keep HV23.out (fun _ _ => id))) (by simpa using TermsIn.keep HV23.out (fun _ _ => id) _ _ HTT0.out) HLEN.out.2 HRO.out.2.2 (by omega)).mono ?_
        rintro e V24 ⟨A10, c10, rfl, css10, hs10, ht10, hf10, hk2⟩
        have HC10 : Hid (RoomC tn c10 104) := hide ⟨HRO.out.2.2, hs10.2.1, hs10.2.2.1⟩
        refine hK _ _ (fun _ hS => hS.keep hk2 id) ?_
        clear hK
        try simp only [Act.put, List.setIfInBounds_toArray, List.set_cons_succ, List.set_cons_zero]
        have HV24 : Hid (Keeps NoB W0 V24) := hide (HV23.out.trans' hk2 (fun _ _ => id) (fun _ _ => id))
        have F9_24 := hide (F9_23.out.keep hk2 id)
        have F2_24 := hide (F2_23.out.keep hk2 (fun _ _ => id))
        have F6_24 := hide (And.intro (F6_23.out.1.keep hk2 (fun _ _ => id)) (TermsIn.keep hk2 (fun _ _ => id) _ _ F6_23.out.2))
        have F10_24 := hide (And.intro (hs10.reads.more (B' := Above W0) (fun j _ hj => Nat.le_trans HV23.out.size (hf10 j hj))) (TermsIn.more (B' := Above W0) (fun j _ hj => Nat.le_trans HV23.out.size hj.1) _ _ ht10))
        clear hk2 hs10 ht10 hf10 F9_24 F9_23 F2_23 F6_23 HV23
        have HB0 : Hid (Blk V24 gb 26 #[.int .u8 kd, .bool ng, .slice la ln lc, .string tx, .int .i64 nm, .slice ia im ic, .slice ta tn tc]) := hide (HBX.out.keep HV24.out id)
        have s12 := HB0.out.cell 2
        have t12 : V24.frozen? ⟨gb, 2, none⟩ = false := HB0.out.free 2
        refine order_one (i := 12) rfl (by kernel_rfl) (fun K hK => ?_)
        go_simp
        refine hK _ _ (fun h => absurd h (by decide)) ?_
        clear hK
        try simp only [Act.put, List.setIfInBounds_toArray, List.set_cons_succ, List.set_cons_zero]
        clear s12 t12
        have HS1 := hide ((Keeps.refl (fun j => j = gb) V24).setCell (p := ⟨gb, 2, none⟩) (.inl rfl) (.slice A2 ln c2))
        have HB1 := hide (HB0.out.put 2 (.slice A2 ln c2))
        generalize V24.setCell ⟨gb, 2, none⟩ (.slice A2 ln c2) = X1_24 at *
        refine order_pure (i := 13) rfl (by kernel_rfl) (fun _ _ _ h => h) (.inl ⟨rfl, fun _ => by go_simp; rfl⟩) ?_
        try simp only [Act.put, List.setIfInBounds_toArray, List.set_cons_succ, List.set_cons_zero]
        have s14 := HB1.out.cell 5
        have t14 : X1_24.frozen? ⟨gb, 5, none⟩ = false := HB1.out.free 5
        refine order_one (i := 14) rfl (by kernel_rfl) (fun K hK => ?_)
        go_simp
        refine hK _ _ (fun h => absurd h (by decide)) ?_
        clear hK
        try simp only [Act.put, List.setIfInBounds_toArray, List.set_cons_succ, List.set_cons_zero]
        clear s14 t14
        have HS2 := hide ((Keeps.refl (fun j => j = gb) X1_24).setCell (p := ⟨gb, 5, none⟩) (.inl rfl) (.slice A6 im c6))
        have HB2 := hide (HB1.out.put 5 (.slice A6 im c6))
        generalize X1_24.setCell ⟨gb, 5, none⟩ (.slice A6 im c6) = X2_24 at *
        refine order_pure (i := 15) rfl (by kernel_rfl) (fun _ _ _ h => h) (.inl ⟨rfl, fun _ => by go_simp; rfl⟩) ?_
        try simp only [Act.put, List.setIfInBounds_toArray, List.set_cons_succ, List.set_cons_zero]
        have s16 := HB2.out.cell 6
        have t16 : X2_24.frozen? ⟨gb, 6, none⟩ = false := HB2.out.free 6
        refine order_one (i := 16) rfl (by kernel_rfl) (fun K hK => ?_)
        go_simp
        refine hK _ _ (fun h => absurd h (by decide)) ?_
        clear hK
        try simp only [Act.put, List.setIfInBounds_toArray, List.set_cons_succ, List.set_cons_zero]
        clear s16 t16
        have HS3 := hide ((Keeps.refl (fun j => j = gb) X2_24).setCell (p := ⟨gb, 6, none⟩) (.inl rfl) (.slice A10 tn c10))
        have HB3 := hide (HB2.out.put 6 (.slice A10 tn c10))
        generalize X2_24.setCell ⟨gb, 6, none⟩ (.slice A10 tn c10) = X3_24 at *
        refine order_done (by kernel_rfl) ?_
        have hst : Keeps (fun j => j = gb) V24 X3_24 := (HS1.out.trans' HS2.out (fun _ _ h => h) (fun _ _ h => h) : Keeps (fun j => j = gb) V24 _).trans' HS3.out (fun _ _ h => h) (fun _ _ h => h)
        have hnot : ∀ j, Above W0 j → ¬ j = gb := fun j hj e => by have := HLT.out; unfold Above at hj; omega
        have hfin := copy_mid (ia := A6) (ic := c6) (ta := A10) (tc := c10) (la := A2) (lc := c2) kd ng tx nm ⟨HC2.out, HC6.out, HC10.out⟩ (F2_24.out.keep hst hnot) (F6_24.out.1.keep hst hnot) (TermsIn.keep hst hnot _ _ F6_24.out.2) (F10_24.out.1.keep hst hnot) (TermsIn.keep hst hnot _ _ F10_24.out.2)
        have HFIN := hide hfin; have HRES := hide ((HBR.out.keep HV24.out id).keep hst hgr); have HKK := hide (HV24.out.trans' hst (fun _ _ h => h.elim) (fun _ _ h => h) : Keeps (fun j => j = gb) W0 X3_24)
        clear hst hnot hfin
        go_wp2_with fail
        go_meet
        exact ⟨A2, c2, A6, c6, A10, c10, HB3.out, HRES.out, TermIn.more (fun j _ hj => Nat.le_trans HKW0.out.size hj) _ _ HFIN.out, HKW0.out.trans' HKK.out (fun _ _ h => h.elim) (fun _ _ h => h)⟩
    · skip
      go_simp
      refine hK _ _ (fun _ hS => hS.alloc _) ?_
      clear hK
      try simp only [Act.put, List.setIfInBounds_toArray, List.set_cons_succ, List.set_cons_zero]
      obtain ⟨g9, hg9⟩ : ∃ g9, W0.heap.size = g9 := ⟨_, rfl⟩
      have HV25 : Hid (Keeps NoB W0 (W0.alloc (.cells #[.slice ta tn tc] 24))) := hide (HK00.out.alloc _)
      have F9_25 := hide (Blk.new W0 24 #[.slice ta tn tc])
      rw [hg9] at F9_25 ⊢
      generalize W0.alloc (.cells #[.slice ta tn tc] 24) = V25 at *
      clear hg9
      refine order_two (i := 2) (j := 5) rfl rfl (by kernel_rfl) (fun K hK => ?_) (fun K hK => ?_)
      · skip
        go_simp
        refine (tm_clone_limbs B F la ln lc (limbs.map (Value.int .u32)) V25 (HRL0.out.keep HV25.out (fun _ _ => id)) (fun u hu => by obtain ⟨x, _, rfl⟩ := List.mem_map.1 hu; rfl) HRO.out.1).mono ?_
        rintro e V26 ⟨A2, c2, rfl, hr2, hc2, hk2⟩
        have HC2 := hide hc2
        clear hc2
        refine hK _ _ (fun _ hS => hS.keep hk2 id) ?_
        clear hK
        try simp only [Act.put, List.setIfInBounds_toArray, List.set_cons_succ, List.set_cons_zero]
        have HV26 : Hid (Keeps NoB W0 V26) := hide (HV25.out.trans' hk2 (fun _ _ => id) (fun _ _ => id))
        have F9_26 := hide (F9_25.out.keep hk2 id)
        have F2_26 := hide (hr2.more (B' := Above W0) (fun j _ hj => Nat.le_trans HV25.out.size hj))
        clear hk2 hr2 F9_25 HV25
        refine order_pure (i := 11) rfl (by kernel_rfl) (fun _ _ _ h => h) (.inl ⟨rfl, fun _ => by go_simp; rfl⟩) ?_
        try simp only [Act.put, List.setIfInBounds_toArray, List.set_cons_succ, List.set_cons_zero]
        refine order_one (i := 5) rfl (by kernel_rfl) (fun K hK => ?_)
        go_simp
        refine hK _ _ (fun _ hS => hS.alloc _) ?_
        clear hK
        try simp only [Act.put, List.setIfInBounds_toArray, List.set_cons_succ, List.set_cons_zero]
        obtain ⟨g5, hg5⟩ : ∃ g5, V26.heap.size = g5 := ⟨_, rfl⟩
        have HV27 : Hid (Keeps NoB W0 (V26.alloc (.cells #[.slice ia im ic] 24))) := hide (HV26.out.alloc _)
        have F9_27 := hide (F9_26.out.keep ((Keeps.refl NoB V26).alloc (.cells #[.slice ia im ic] 24)) id)
        have F2_27 := hide (F2_26.out.keep ((Keeps.refl NoB V26).alloc (.cells #[.slice ia im ic] 24)) (fun _ _ => id))
        have F5_27 := hide (Blk.new V26 24 #[.slice ia im ic])
        clear F9_26 F2_26 HV26
        rw [hg5] at F5_27 ⊢
        generalize V26.alloc (.cells #[.slice ia im ic] 24) = V27 at *
        clear hg5
        refine order_one (i := 6) rfl (by kernel_rfl) (fun K hK => ?_)
        go_simp
        refine (copies_of (Tm.size.sizes items) (hide (HIH.out _ HSZ.out.1)) items (Nat.le_refl _) [css] [.slice ia im ic] (some ⟨g5, 0, none⟩) 1 1 im V27 (fun _ => True) B true F (one_head F5_27.out) (heads_one ic (HRI0.out.keep HV27.out (fun _ _ => id))) (by simpa using TermsIn.keep HV27.out (fun _ _ => id) _ _ HTI0.out) HLEN.out.1 HRO.out.2.1 (by omega)).mono ?_
        rintro e V28 ⟨A6, c6, rfl, css6, hs6, ht6, hf6, hk2⟩
        have HC6 : Hid (RoomC im c6 104) := hide ⟨HRO.out.2.1, hs6.2.1, hs6.2.2.1⟩
        refine hK _ _ (fun _ hS => hS.keep hk2 id) ?_
        clear hK
        try simp only [Act.put, List.setIfInBounds_toArray, List.set_cons_succ, List.set_cons_zero]
        have HV28 : Hid (Keeps NoB W0 V28) := hide (HV27.out.trans' hk2 (fun _ _ => id) (fun _ _ => id))
        have F9_28 := hide (F9_27.out.keep hk2 id)
        have F2_28 := hide (F2_27.out.keep hk2 (fun _ _ => id))
        have F5_28 := hide (F5_27.out.keep hk2 id)
        have F6_28 := hide (And.intro (hs6.reads.more (B' := Above W0) (fun j _ hj => Nat.le_trans HV27.out.size (hf6 j hj))) (TermsIn.more (B' := Above W0) (fun j _ hj => Nat.le_trans HV27.out.size hj.1) _ _ ht6))
        clear hk2 hs6 ht6 hf6 F5_28 F9_27 F2_27 F5_27 HV27
        refine order_one (i := 10) rfl (by kernel_rfl) (fun K hK => ?_)
        go_simp
        refine (copies_of (Tm.size.sizes tail) (hide (HIH.out _ HSZ.out.2)) tail (Nat.le_refl _) [dss] [.slice ta tn tc] (some ⟨g9, 0, none⟩) 1 1 tn V28 (fun _ => True) B true F (one_head F9_28.out) (heads_one tc (HRT0.out.keep HV28.out (fun _ _ => id))) (by simpa using TermsIn.keep HV28.out (fun _ _ => id) _ _ HTT0.out) HLEN.out.2 HRO.out.2.2 (by omega)).mono ?_
        rintro e V29 ⟨A10, c10, rfl, css10, hs10, ht10, hf10, hk2⟩
        have HC10 : Hid (RoomC tn c10 104) := hide ⟨HRO.out.2.2, hs10.2.1, hs10.2.2.1⟩
        refine hK _ _ (fun _ hS => hS.keep hk2 id) ?_
        clear hK
        try simp only [Act.put, List.setIfInBounds_toArray, List.set_cons_succ, List.set_cons_zero]
        have HV29 : Hid (Keeps NoB W0 V29) := hide (HV28.out.trans' hk2 (fun _ _ => id) (fun _ _ => id))
        have F9_29 := hide (F9_28.out.keep hk2 id)
        have F2_29 := hide (F2_28.out.keep hk2 (fun _ _ => id))
        have F6_29 := hide (And.intro (F6_28.out.1.keep hk2 (fun _ _ => id)) (TermsIn.keep hk2 (fun _ _ => id) _ _ F6_28.out.2))
        have F10_29 := hide (And.intro (hs10.reads.more (B' := Above W0) (fun j _ hj => Nat.le_trans HV28.out.size (hf10 j hj))) (TermsIn.more (B' := Above W0) (fun j _ hj => Nat.le_trans HV28.out.size hj.1) _ _ ht10))
        clear hk2 hs10 ht10 hf10 F9_29 F9_28 F2_28 F6_28 HV28
        have HB0 : Hid (Blk V29 gb 26 #[.int .u8 kd, .bool ng, .slice la ln lc, .string tx, .int .i64 nm, .slice ia im ic, .slice ta tn tc]) := hide (HBX.out.keep HV29.out id)
        have s12 := HB0.out.cell 2
        have t12 : V29.frozen? ⟨gb, 2, none⟩ = false := HB0.out.free 2
        refine order_one (i := 12) rfl (by kernel_rfl) (fun K hK => ?_)
        go_simp
        refine hK _ _ (fun h => absurd h (by decide)) ?_
        clear hK
        try simp only [Act.put, List.setIfInBounds_toArray, List.set_cons_succ, List.set_cons_zero]
        clear s12 t12
        have HS1 := hide ((Keeps.refl (fun j => j = gb) V29).setCell (p := ⟨gb, 2, none⟩) (.inl rfl) (.slice A2 ln c2))
        have HB1 := hide (HB0.out.put 2 (.slice A2 ln c2))
        generalize V29.setCell ⟨gb, 2, none⟩ (.slice A2 ln c2) = X1_29 at *
        refine order_pure (i := 13) rfl (by kernel_rfl) (fun _ _ _ h => h) (.inl ⟨rfl, fun _ => by go_simp; rfl⟩) ?_
        try simp only [Act.put, List.setIfInBounds_toArray, List.set_cons_succ, List.set_cons_zero]
        have s14 := HB1.out.cell 5
        have t14 : X1_29.frozen? ⟨gb, 5, none⟩ = false := HB1.out.free 5
        refine order_one (i := 14) rfl (by kernel_rfl) (fun K hK => ?_)
        go_simp
        refine hK _ _ (fun h => absurd h (by decide)) ?_
        clear hK
        try simp only [Act.put, List.setIfInBounds_toArray, List.set_cons_succ, List.set_cons_zero]
        clear s14 t14
        have HS2 := hide ((Keeps.refl (fun j => j = gb) X1_29).setCell (p := ⟨gb, 5, none⟩) (.inl rfl) (.slice A6 im c6))
        have HB2 := hide (HB1.out.put 5 (.slice A6 im c6))
        generalize X1_29.setCell ⟨gb, 5, none⟩ (.slice A6 im c6) = X2_29 at *
        refine order_pure (i := 15) rfl (by kernel_rfl) (fun _ _ _ h => h) (.inl ⟨rfl, fun _ => by go_simp; rfl⟩) ?_
        try simp only [Act.put, List.setIfInBounds_toArray, List.set_cons_succ, List.set_cons_zero]
        have s16 := HB2.out.cell 6
        have t16 : X2_29.frozen? ⟨gb, 6, none⟩ = false := HB2.out.free 6
        refine order_one (i := 16) rfl (by kernel_rfl) (fun K hK => ?_)
        go_simp
        refine hK _ _ (fun h => absurd h (by decide)) ?_
        clear hK
        try simp only [Act.put, List.setIfInBounds_toArray, List.set_cons_succ, List.set_cons_zero]
        clear s16 t16
        have HS3 := hide ((Keeps.refl (fun j => j = gb) X2_29).setCell (p := ⟨gb, 6, none⟩) (.inl rfl) (.slice A10 tn c10))
        have HB3 := hide (HB2.out.put 6 (.slice A10 tn c10))
        generalize X2_29.setCell ⟨gb, 6, none⟩ (.slice A10 tn c10) = X3_29 at *
        refine order_done (by kernel_rfl) ?_
        have hst : Keeps (fun j => j = gb) V29 X3_29 := (HS1.out.trans' HS2.out (fun _ _ h => h) (fun _ _ h => h) : Keeps (fun j => j = gb) V29 _).trans' HS3.out (fun _ _ h => h) (fun _ _ h => h)
        have hnot : ∀ j, Above W0 j → ¬ j = gb := fun j hj e => by have := HLT.out; unfold Above at hj; omega
        have hfin := copy_mid (ia := A6) (ic := c6) (ta := A10) (tc := c10) (la := A2) (lc := c2) kd ng tx nm ⟨HC2.out, HC6.out, HC10.out⟩ (F2_29.out.keep hst hnot) (F6_29.out.1.keep hst hnot) (TermsIn.keep hst hnot _ _ F6_29.out.2) (F10_29.out.1.keep hst hnot) (TermsIn.keep hst hnot _ _ F10_29.out.2)
        have HFIN := hide hfin; have HRES := hide ((HBR.out.keep HV29.out id).keep hst hgr); have HKK := hide (HV29.out.trans' hst (fun _ _ h => h.elim) (fun _ _ h => h) : Keeps (fun j => j = gb) W0 X3_29)
        clear hst hnot hfin
        go_wp2_with fail
        go_meet
        exact ⟨A2, c2, A6, c6, A10, c10, HB3.out, HRES.out, TermIn.more (fun j _ hj => Nat.le_trans HKW0.out.size hj) _ _ HFIN.out, HKW0.out.trans' HKK.out (fun _ _ h => h.elim) (fun _ _ h => h)⟩
      · skip
        go_simp
        refine hK _ _ (fun _ hS => hS.alloc _) ?_
        clear hK
        try simp only [Act.put, List.setIfInBounds_toArray, List.set_cons_succ, List.set_cons_zero]
        obtain ⟨g5, hg5⟩ : ∃ g5, V25.heap.size = g5 := ⟨_, rfl⟩
        have HV30 : Hid (Keeps NoB W0 (V25.alloc (.cells #[.slice ia im ic] 24))) := hide (HV25.out.alloc _)
        have F9_30 := hide (F9_25.out.keep ((Keeps.refl NoB V25).alloc (.cells #[.slice ia im ic] 24)) id)
        have F5_30 := hide (Blk.new V25 24 #[.slice ia im ic])
        clear F9_25 HV25
        rw [hg5] at F5_30 ⊢
        generalize V25.alloc (.cells #[.slice ia im ic] 24) = V30 at *
        clear hg5
        refine order_one (i := 2) rfl (by kernel_rfl) (fun K hK => ?_)
        go_simp
        refine (tm_clone_limbs B F la ln lc (limbs.map (Value.int .u32)) V30 (HRL0.out.keep HV30.out (fun _ _ => id)) (fun u hu => by obtain ⟨x, _, rfl⟩ := List.mem_map.1 hu; rfl) HRO.out.1).mono ?_
        rintro e V31 ⟨A2, c2, rfl, hr2, hc2, hk2⟩
        have HC2 := hide hc2
        clear hc2
        refine hK _ _ (fun _ hS => hS.keep hk2 id) ?_
        clear hK
        try simp only [Act.put, List.setIfInBounds_toArray, List.set_cons_succ, List.set_cons_zero]
        have HV31 : Hid (Keeps NoB W0 V31) := hide (HV30.out.trans' hk2 (fun _ _ => id) (fun _ _ => id))
        have F9_31 := hide (F9_30.out.keep hk2 id)
        have F5_31 := hide (F5_30.out.keep hk2 id)
        have F2_31 := hide (hr2.more (B' := Above W0) (fun j _ hj => Nat.le_trans HV30.out.size hj))
        clear hk2 hr2 F9_30 F5_30 HV30
        refine order_pure (i := 11) rfl (by kernel_rfl) (fun _ _ _ h => h) (.inl ⟨rfl, fun _ => by go_simp; rfl⟩) ?_
        try simp only [Act.put, List.setIfInBounds_toArray, List.set_cons_succ, List.set_cons_zero]
        refine order_one (i := 6) rfl (by kernel_rfl) (fun K hK => ?_)
        go_simp
        refine (copies_of (Tm.size.sizes items) (hide (HIH.out _ HSZ.out.1)) items (Nat.le_refl _) [css] [.slice ia im ic] (some ⟨g5, 0, none⟩) 1 1 im V31 (fun _ => True) B true F (one_head F5_31.out) (heads_one ic (HRI0.out.keep HV31.out (fun _ _ => id))) (by simpa using TermsIn.keep HV31.out (fun _ _ => id) _ _ HTI0.out) HLEN.out.1 HRO.out.2.1 (by omega)).mono ?_
        rintro e V32 ⟨A6, c6, rfl, css6, hs6, ht6, hf6, hk2⟩
        have HC6 : Hid (RoomC im c6 104) := hide ⟨HRO.out.2.1, hs6.2.1, hs6.2.2.1⟩
        refine hK _ _ (fun _ hS => hS.keep hk2 id) ?_
        clear hK
        try simp only [Act.put, List.setIfInBounds_toArray, List.set_cons_succ, List.set_cons_zero]
        have HV32 : Hid (Keeps NoB W0 V32) := hide (HV31.out.trans' hk2 (fun _ _ => id) (fun _ _ => id))
        have F9_32 := hide (F9_31.out.keep hk2 id)
        have F5_32 := hide (F5_31.out.keep hk2 id)
        have F2_32 := hide (F2_31.out.keep hk2 (fun _ _ => id))
        have F6_32 := hide (And.intro (hs6.reads.more (B' := Above W0) (fun j _ hj => Nat.le_trans HV31.out.size (hf6 j hj))) (TermsIn.more (B' := Above W0) (fun j _ hj => Nat.le_trans HV31.out.size hj.1) _ _ ht6))
        clear hk2 hs6 ht6 hf6 F5_32 F9_31 F5_31 F2_31 HV31
        refine order_one (i := 10) rfl (by kernel_rfl) (fun K hK => ?_)
        go_simp
        refine (copies_of (Tm.size.sizes tail) (hide (HIH.out _ HSZ.out.2)) tail (Nat.le_refl _) [dss] [.slice ta tn tc] (some ⟨g9, 0, none⟩) 1 1 tn V32 (fun _ => True) B true F (one_head F9_32.out) (heads_one tc (HRT0.out.keep HV32.out (fun _ _ => id))) (by simpa using TermsIn.keep HV32.out (fun _ _ => id) _ _ HTT0.out) HLEN.out.2 HRO.out.2.2 (by omega)).mono ?_
        rintro e V33 ⟨A10, c10, rfl, css10, hs10, ht10, hf10, hk2⟩
        have HC10 : Hid (RoomC tn c10 104) := hide ⟨HRO.out.2.2, hs10.2.1, hs10.2.2.1⟩
        refine hK _ _ (fun _ hS => hS.keep hk2 id) ?_
        clear hK
        try simp only [Act.put, List.setIfInBounds_toArray, List.set_cons_succ, List.set_cons_zero]
        have HV33 : Hid (Keeps NoB W0 V33) := hide (HV32.out.trans' hk2 (fun _ _ => id) (fun _ _ => id))
        have F9_33 := hide (F9_32.out.keep hk2 id)
        have F2_33 := hide (F2_32.out.keep hk2 (fun _ _ => id))
        have F6_33 := hide (And.intro (F6_32.out.1.keep hk2 (fun _ _ => id)) (TermsIn.keep hk2 (fun _ _ => id) _ _ F6_32.out.2))
        have F10_33 := hide (And.intro (hs10.reads.more (B' := Above W0) (fun j _ hj => Nat.le_trans HV32.out.size (hf10 j hj))) (TermsIn.more (B' := Above W0) (fun j _ hj => Nat.le_trans HV32.out.size hj.1) _ _ ht10))
        clear hk2 hs10 ht10 hf10 F9_33 F9_32 F2_32 F6_32 HV32
        have HB0 : Hid (Blk V33 gb 26 #[.int .u8 kd, .bool ng, .slice la ln lc, .string tx, .int .i64 nm, .slice ia im ic, .slice ta tn tc]) := hide (HBX.out.keep HV33.out id)
        have s12 := HB0.out.cell 2
        have t12 : V33.frozen? ⟨gb, 2, none⟩ = false := HB0.out.free 2
        refine order_one (i := 12) rfl (by kernel_rfl) (fun K hK => ?_)
        go_simp
        refine hK _ _ (fun h => absurd h (by decide)) ?_
        clear hK
        try simp only [Act.put, List.setIfInBounds_toArray, List.set_cons_succ, List.set_cons_zero]
        clear s12 t12
        have HS1 := hide ((Keeps.refl (fun j => j = gb) V33).setCell (p := ⟨gb, 2, none⟩) (.inl rfl) (.slice A2 ln c2))
        have HB1 := hide (HB0.out.put 2 (.slice A2 ln c2))
        generalize V33.setCell ⟨gb, 2, none⟩ (.slice A2 ln c2) = X1_33 at *
        refine order_pure (i := 13) rfl (by kernel_rfl) (fun _ _ _ h => h) (.inl ⟨rfl, fun _ => by go_simp; rfl⟩) ?_
        try simp only [Act.put, List.setIfInBounds_toArray, List.set_cons_succ, List.set_cons_zero]
        have s14 := HB1.out.cell 5
        have t14 : X1_33.frozen? ⟨gb, 5, none⟩ = false := HB1.out.free 5
        refine order_one (i := 14) rfl (by kernel_rfl) (fun K hK => ?_)
        go_simp
        refine hK _ _ (fun h => absurd h (by decide)) ?_
        clear hK
        try simp only [Act.put, List.setIfInBounds_toArray, List.set_cons_succ, List.set_cons_zero]
        clear s14 t14
        have HS2 := hide ((Keeps.refl (fun j => j = gb) X1_33).setCell (p := ⟨gb, 5, none⟩) (.inl rfl) (.slice A6 im c6))
        have HB2 := hide (HB1.out.put 5 (.slice A6 im c6))
        generalize X1_33.setCell ⟨gb, 5, none⟩ (.slice A6 im c6) = X2_33 at *
        refine order_pure (i := 15) rfl (by kernel_rfl) (fun _ _ _ h => h) (.inl ⟨rfl, fun _ => by go_simp; rfl⟩) ?_
        try simp only [Act.put, List.setIfInBounds_toArray, List.set_cons_succ, List.set_cons_zero]
        have s16 := HB2.out.cell 6
        have t16 : X2_33.frozen? ⟨gb, 6, none⟩ = false := HB2.out.free 6
        refine order_one (i := 16) rfl (by kernel_rfl) (fun K hK => ?_)
        go_simp
        refine hK _ _ (fun h => absurd h (by decide)) ?_
        clear hK
        try simp only [Act.put, List.setIfInBounds_toArray, List.set_cons_succ, List.set_cons_zero]
        clear s16 t16
        have HS3 := hide ((Keeps.refl (fun j => j = gb) X2_33).setCell (p := ⟨gb, 6, none⟩) (.inl rfl) (.slice A10 tn c10))
        have HB3 := hide (HB2.out.put 6 (.slice A10 tn c10))
        generalize X2_33.setCell ⟨gb, 6, none⟩ (.slice A10 tn c10) = X3_33 at *
        refine order_done (by kernel_rfl) ?_
        have hst : Keeps (fun j => j = gb) V33 X3_33 := (HS1.out.trans' HS2.out (fun _ _ h => h) (fun _ _ h => h) : Keeps (fun j => j = gb) V33 _).trans' HS3.out (fun _ _ h => h) (fun _ _ h => h)
        have hnot : ∀ j, Above W0 j → ¬ j = gb := fun j hj e => by have := HLT.out; unfold Above at hj; omega
        have hfin := copy_mid (ia := A6) (ic := c6) (ta := A10) (tc := c10) (la := A2) (lc := c2) kd ng tx nm ⟨HC2.out, HC6.out, HC10.out⟩ (F2_33.out.keep hst hnot) (F6_33.out.1.keep hst hnot) (TermsIn.keep hst hnot _ _ F6_33.out.2) (F10_33.out.1.keep hst hnot) (TermsIn.keep hst hnot _ _ F10_33.out.2)
        have HFIN := hide hfin; have HRES := hide ((HBR.out.keep HV33.out id).keep hst hgr); have HKK := hide (HV33.out.trans' hst (fun _ _ h => h.elim) (fun _ _ h => h) : Keeps (fun j => j = gb) W0 X3_33)
        clear hst hnot hfin
        go_wp2_with fail
        go_meet
        exact ⟨A2, c2, A6, c6, A10, c10, HB3.out, HRES.out, TermIn.more (fun j _ hj => Nat.le_trans HKW0.out.size hj) _ _ HFIN.out, HKW0.out.trans' HKK.out (fun _ _ h => h.elim) (fun _ _ h => h)⟩
  case rest =>
    obtain ⟨la', lc', ia', ic', ta', tc', h1, h2, h3, h4⟩ := hcut
    have HB1 : Hid (Blk wc gb 26 #[.int .u8 kd, .bool ng, .slice la' ln lc', .string tx, .int .i64 nm, .slice ia' im ic', .slice ta' tn tc']) := hide h1; have HR1 : Hid (Blk wc gr 26 #[.int .u8 0, .bool false, .slice none 0 0, .string { data := #[] }, .int .i64 0, .slice none 0 0, .slice none 0 0]) := hide h2; have HT1 := hide h3; have HK1 := hide h4
    clear h1 h2 h3 h4
    obtain ⟨x0, x1, x2, x3, x4, x5, x6⟩ := Blk.c7 (show Blk wc (gb) _ #[.int .u8 kd, .bool ng, .slice la' ln lc', .string tx, .int .i64 nm, .slice ia' im ic', .slice ta' tn tc'] from HB1.out); obtain ⟨z0, z1, z2, z3, z4, z5, z6⟩ := Blk.c7 (show Blk wc (gr) _ #[.int .u8 0, .bool false, .slice none 0 0, .string { data := #[] }, .int .i64 0, .slice none 0 0, .slice none 0 0] from HR1.out); obtain ⟨f0, f1, f2, f3, f4, f5, f6⟩ := Blk.f7 (w := wc) (g := gr) HR1.out
    go_wp2
    have HBf := hide (HR1.out.tput7 (.int .u8 kd) (.bool ng) (.slice la' ln lc') (.string tx) (.int .i64 nm) (.slice ia' im ic') (.slice ta' tn tc'))
    have hs : Keeps (fun j => j = gr) wc (((((((wc.setCell ⟨gr, 0, none⟩ (.int .u8 kd)).setCell ⟨gr, 1, none⟩ (.bool ng)).setCell ⟨gr, 2, none⟩ (.slice la' ln lc')).setCell ⟨gr, 3, none⟩ (.string tx)).setCell ⟨gr, 4, none⟩ (.int .i64 nm)).setCell ⟨gr, 5, none⟩ (.slice ia' im ic')).setCell ⟨gr, 6, none⟩ (.slice ta' tn tc')) := ((((((((Keeps.refl (fun j => j = gr) wc).setCell (p := ⟨gr, 0, none⟩) (.inl rfl) (.int .u8 kd)).setCell (p := ⟨gr, 1, none⟩) (.inl rfl) (.bool ng)).setCell (p := ⟨gr, 2, none⟩) (.inl rfl) (.slice la' ln lc')).setCell (p := ⟨gr, 3, none⟩) (.inl rfl) (.string tx)).setCell (p := ⟨gr, 4, none⟩) (.inl rfl) (.int .i64 nm)).setCell (p := ⟨gr, 5, none⟩) (.inl rfl) (.slice ia' im ic')).setCell (p := ⟨gr, 6, none⟩) (.inl rfl) (.slice ta' tn tc'))
    have HTf := hide (TermIn.more (B' := Above w) (fun j _ (hj : Above w1 j) => Nat.le_trans HKW.out.size hj) _ _ (TermIn.keep hs (fun j (hj : Above w1 j) e => by have := HLT.out; unfold Above at hj; omega) _ _ HT1.out))
    have HKf : Hid (Keeps NoB w (((((((wc.setCell ⟨gr, 0, none⟩ (.int .u8 kd)).setCell ⟨gr, 1, none⟩ (.bool ng)).setCell ⟨gr, 2, none⟩ (.slice la' ln lc')).setCell ⟨gr, 3, none⟩ (.string tx)).setCell ⟨gr, 4, none⟩ (.int .i64 nm)).setCell ⟨gr, 5, none⟩ (.slice ia' im ic')).setCell ⟨gr, 6, none⟩ (.slice ta' tn tc'))) := hide ((HKW.out.trans' HK1.out (fun _ _ h => h.elim) (fun j hj e => by have := HGB.out; omega) : Keeps NoB w wc).trans' hs (fun _ _ h => h.elim) (fun j hj e => by have := HGR.out; have := HGB.out; omega))
    clear hs x0 x1 x2 x3 x4 x5 x6 z0 z1 z2 z3 z4 z5 z6 f0 f1 f2 f3 f4 f5 f6
    generalize (((((((wc.setCell ⟨gr, 0, none⟩ (.int .u8 kd)).setCell ⟨gr, 1, none⟩ (.bool ng)).setCell ⟨gr, 2, none⟩ (.slice la' ln lc')).setCell ⟨gr, 3, none⟩ (.string tx)).setCell ⟨gr, 4, none⟩ (.int .i64 nm)).setCell ⟨gr, 5, none⟩ (.slice ia' im ic')).setCell ⟨gr, 6, none⟩ (.slice ta' tn tc')) = wf at *
    obtain ⟨d0, d1, d2, d3, d4, d5, d6⟩ := Blk.c7 (show Blk wf (gr) _ #[.int .u8 kd, .bool ng, .slice la' ln lc', .string tx, .int .i64 nm, .slice ia' im ic', .slice ta' tn tc'] from HBf.out)
    refine bodyPost_ret (v := .agg #[.int .u8 kd, .bool ng, .slice la' ln lc', .string tx, .int .i64 nm, .slice ia' im ic', .slice ta' tn tc']) (by simp [results, Tryz.results40, go_sem, d0, d1, d2, d3, d4, d5, d6]) rfl ?_
    exact ⟨la', lc', ia', ic', ta', tc', rfl, HTf.out, HKf.out⟩
end Go.Proofs.YtjdbjjjbgibpaaaGreatDoor
