/- (*link.Links).Link. -/
import Derived.Test.YtjmljjmnamfljaaGreatMons
namespace Go.Proofs.YtjmljjmnamfljaaGreat
set_option maxRecDepth 100000
open Go.RowKit Go.Maps

set_option maxRecDepth 100000 in
theorem link_no (w : World) (B b m1 m2 N : Nat) (L : LK) (M : List Mon) (a c : Int) (h : LinksAt w B b m1 m2 N L M) (ha : IntOk a) (hc : IntOk c) (hno : a = c ∨ c ∈ L a) : Calls Tryz.prog 18 #[.pointer (some ⟨b, 0, none⟩), .int .i64 a, .int .i64 c] w fun e w' => e = .returned (.bool false) ∧ w = w' := by
  obtain ⟨⟨T, hr⟩, hg⟩ := h
  have c0 : w.cell? ⟨b, 0, none⟩ = some (.map (some m1)) := hr.blk.cell 0
  by_cases hac : a = c
  · subst hac
    clear hr hg hno
    go_enter Tryz.func18, Tryz.ntmps18
    go_wp2_with (go_at_call 12; refine (made_at w b m1 c0).mono ?_; rintro e w' ⟨rfl, rfl⟩)
    go_ret
    exact ⟨rfl, rfl⟩
  · have hin := hno.resolve_left hac
    obtain ⟨om, hl, hom⟩ := hr.look ha
    have hl2 := hr.look2 hc hom
    rw [if_pos hin] at hl2
    clear hr hg hno hom hin
    go_enter Tryz.func18, Tryz.ntmps18
    go_wp2_with (go_at_call 12; refine (made_at w b m1 c0).mono ?_; rintro e w' ⟨rfl, rfl⟩)
    go_ret
    exact ⟨rfl, rfl⟩

/-- Behind i rounds of Link's loop. -/
def halfL (a c : Int) (L : LK) : Nat → LK
  | 0 => L
  | 1 => atL a (insI c (L a)) L
  | _ => linkL a c L
abbrev twoC (a c : Int) : Array Value := #[.int .i64 a, .int .i64 c, .int .i64 c, .int .i64 a]
theorem half_step {a c : Int} {L : LK} (hac : a ≠ c) (h1 : c ∉ L a) (h2 : a ∉ L c) (ha : IntOk a) (hc : IntOk c) {i : Nat} (hi : i < 2) :
    ∃ x y, IntOk x ∧ IntOk y ∧ (twoC a c)[i * 2]? = some (.int .i64 x) ∧ (twoC a c)[i * 2 + 1]? = some (.int .i64 y) ∧ y ∉ halfL a c L i x ∧ halfL a c L (i + 1) = atL x (insI y (halfL a c L i x)) (halfL a c L i) := by
  rcases (by omega : i = 0 ∨ i = 1) with rfl | rfl
  · exact ⟨a, c, ha, hc, rfl, rfl, h1, rfl⟩
  · refine ⟨c, a, hc, ha, rfl, rfl, ?_, (linkL_two hac).symm⟩
    show a ∉ atL a (insI c (L a)) L c
    unfold atL; rw [if_neg (Ne.symm hac)]; exact h2
theorem Raw.look_none {w : World} {B b m1 m2 N : Nat} {T : List (Int × Nat)} {L : LK} {M : List Mon} (h : Raw w B b m1 m2 N T L M) {a : Int} (ha : IntOk a) (hm : a ∉ T.map (·.1)) : (Instr.lookup 50 (.map (some m1)) (.int .i64 a) false).run Tryz.prog w = .ok (.map none) w := by
  obtain ⟨om, hl, ⟨rfl, _⟩ | ⟨m', rfl, hm'⟩⟩ := h.look ha
  · exact hl
  · exact absurd (List.mem_map_of_mem (f := (·.1)) hm') hm
def LinkPost (w : World) (B b m1 m2 N : Nat) (L : LK) (M : List Mon) (e : Ending) (w' : World) : Prop := e = .returned (.bool true) ∧ LinksAt w' B b m1 m2 N L M ∧ Keeps (FP w B) w w'
set_option maxRecDepth 100000 in
set_option maxHeartbeats 4000000 in
theorem link_yes (w : World) (B b m1 m2 N : Nat) (L : LK) (M : List Mon) (a c : Int) (h : LinksAt w B b m1 m2 N L M) (ha : IntOk a) (hc : IntOk c) (hac : a ≠ c) (hno : c ∉ L a) (hN : N ≤ 1000000) (hB : B ≤ w.heap.size) : Calls Tryz.prog 18 #[.pointer (some ⟨b, 0, none⟩), .int .i64 a, .int .i64 c] w (LinkPost w B b m1 m2 (N + 4) (linkL a c L) M) := by
  obtain ⟨⟨T, hr⟩, hg⟩ := h
  have c0 : w.cell? ⟨b, 0, none⟩ = some (.map (some m1)) := hr.blk.cell 0
  obtain ⟨om, hl, hom⟩ := hr.look ha
  have hl2 := hr.look2 hc hom
  rw [if_neg hno] at hl2
  have HA := hide (And.intro ha hc)
  have HG := hide (hg.link hac hno ha hc)
  have HH := hide (fun (i : Nat) (hi : i < 2) => half_step hac hno (fun e => hno (hg.sym _ _ e)) ha hc hi)
  have hka : Keeps NoB w (w.alloc (.cells (twoC a c) 106)) := (Keeps.refl NoB w).alloc _
  have HS0 := hide (show ∃ T, Raw (w.alloc (.cells (twoC a c) 106)) B b m1 m2 (N + 2 * 0) T (halfL a c L 0) M from ⟨T, hr.fresh hka⟩)
  have HV0 := hide (Blk.new w 106 (twoC a c))
  have HK0 := hide (FP.of w B hka)
  have hac' := hac
  clear hr hg hno hom hka
  go_enter Tryz.func18, Tryz.ntmps18
  go_wp2_with (go_at_call 12; refine (made_at w b m1 c0).mono ?_; rintro e w' ⟨rfl, rfl⟩)
  clear hl hl2 c0
  rw [show (a == c) = false from by simpa using hac']
  generalize w.alloc (.cells (twoC a c) 106) = w1 at *
  obtain ⟨vb, hvb⟩ : ∃ vb, w.heap.size = vb := ⟨_, rfl⟩
  rw [hvb] at HV0 ⊢
  have HVB := hide hvb
  clear hvb
  go_loopg [36] 2 (fun g s36 wr => ∃ i : Nat, i ≤ 2 ∧ g = 2 - i ∧ s36 = .int .i64 i ∧ (∃ T, Raw wr B b m1 m2 (N + 2 * i) T (halfL a c L i) M) ∧ Keeps (FP w B) w wr ∧ Blk wr vb 106 (twoC a c))
  case atStart => exact ⟨0, by omega, rfl, rfl, HS0.out, HK0.out, HV0.out⟩
  case round =>
    clear HS0 HK0 HV0
    obtain ⟨i, hi2, rfl, rfl, ⟨T, hr⟩, hk, hv⟩ := hrel
    have HR := hide hr; have HK := hide hk; have HV := hide hv
    clear hr hk hv
    by_cases hi : i < 2
    · have hiz : (i : Int) < 2 := by omega
      have hi0 : (0 : Int) ≤ i := by omega
      obtain ⟨x, y, hx, hy, e1, e2, hn, hst⟩ := HH.out i hi
      have HX := hide (And.intro hx (And.intro hy (And.intro hn hst)))
      have p0 : wr.cell? ⟨vb, i * 2, none⟩ = some (.int .i64 x) := by rw [HV.out.cell]; exact e1
      have p1 : wr.cell? ⟨vb, i * 2 + 1, none⟩ = some (.int .i64 y) := by rw [HV.out.cell]; exact e2
      clear hx hy hn hst e1 e2
      go_wp2_with fail
      clear p0 p1
      have hka : Keeps NoB wr (wr.alloc (.cells #[.int .i64 x, .int .i64 y] 106)) := (Keeps.refl NoB wr).alloc _
      have HR3 := hide (HR.out.fresh hka)
      have HK3 := hide (HK.out.alloc (.cells #[.int .i64 x, .int .i64 y] 106))
      have HV3 := hide (HV.out.keep hka id)
      have HP3 := hide (Blk.new wr 106 #[.int .i64 x, .int .i64 y])
      clear hka HR HK HV
      generalize wr.alloc (.cells #[.int .i64 x, .int .i64 y] 106) = w3 at *
      generalize wr.heap.size = pb at *
      clear wr
      by_cases hin : x ∈ T.map (·.1)
      · obtain ⟨⟨x', m⟩, hxm, e⟩ := List.mem_map.1 hin
        simp only at e
        subst e
        have HM := hide hxm
        clear hin hxm
        have hme : ∀ w, (binOp .eql 49 (.map (some m)) (.map none)).run Tryz.prog w = .ok (.bool false) w := map_eq m
        refine order_begin (fun W => Raw W B b m1 m2 (N + 2 * i) T (halfL a c L i) M ∧ Blk W pb 106 #[.int .i64 x', .int .i64 y]) (fun _ => true) (by kernel_rfl) 8 rfl ?_
        have HS := And.intro (HR3.out.fresh (Keeps.refl NoB w3).drew) (HP3.out.keep (Keeps.refl NoB w3).drew id)
        have HR4 := hide (HR3.out.fresh (Keeps.refl NoB w3).drew)
        have HP4 := hide (HP3.out.keep (Keeps.refl NoB w3).drew id)
        have HK4 := hide (HK3.out.drew)
        have HV4 := hide (HV3.out.keep (Keeps.refl NoB w3).drew id)
        clear HR3 HP3 HK3 HV3
        generalize w3.drew = w4 at *
        clear w3
        refine order_pure (i := 0) rfl (by kernel_rfl) (fun _ _ _ h => h) (.inl ⟨rfl, fun _ => by go_simp; rfl⟩) ?_
        try simp only [Act.put, List.setIfInBounds_toArray, List.set_cons_succ, List.set_cons_zero]
        refine order_pure (i := 1) rfl (by kernel_rfl) (fun _ _ _ h => h) (.inl ⟨rfl, fun _ => by go_simp; rfl⟩) ?_
        try simp only [Act.put, List.setIfInBounds_toArray, List.set_cons_succ, List.set_cons_zero]
        refine order_pure (i := 2) rfl (by kernel_rfl) (fun _ _ _ h => h) (.inl ⟨rfl, fun _ => by go_simp; rfl⟩) ?_
        try simp only [Act.put, List.setIfInBounds_toArray, List.set_cons_succ, List.set_cons_zero]
        refine order_held (i := 3) rfl (by kernel_rfl) (fun _ _ _ h => h) (.inl ⟨rfl, fun W hW => by
          have q0 : W.cell? ⟨b, 0, none⟩ = some (.map (some m1)) := hW.1.blk.cell 0
          go_simp; rfl⟩) HS ?_
        try simp only [Act.put, List.setIfInBounds_toArray, List.set_cons_succ, List.set_cons_zero]
        refine order_pure (i := 4) rfl (by kernel_rfl) (fun _ _ _ h => h) (.inl ⟨rfl, fun _ => by go_simp; rfl⟩) ?_
        try simp only [Act.put, List.setIfInBounds_toArray, List.set_cons_succ, List.set_cons_zero]
        refine order_held (i := 5) rfl (by kernel_rfl) (fun _ _ _ h => h) (.inl ⟨rfl, fun W hW => by
          have q0 : W.cell? ⟨pb, 0, none⟩ = some (.int .i64 x') := hW.2.cell 0
          go_simp; rfl⟩) HS ?_
        try simp only [Act.put, List.setIfInBounds_toArray, List.set_cons_succ, List.set_cons_zero]
        refine order_held (i := 6) rfl (by kernel_rfl) (fun _ _ _ h => h) (.inl ⟨rfl, fun W hW => by
          have q0 : (Instr.lookup 50 (.map (some m1)) (.int .i64 x') false).run Tryz.prog W = .ok (.map (some m)) W := hW.1.look_at HX.out.1 HM.out
          go_simp; rfl⟩) HS ?_
        try simp only [Act.put, List.setIfInBounds_toArray, List.set_cons_succ, List.set_cons_zero]
        refine order_pure (i := 7) rfl (by kernel_rfl) (fun _ _ _ h => h) (.inl ⟨rfl, fun _ => by go_simp; rfl⟩) ?_
        try simp only [Act.put, List.setIfInBounds_toArray, List.set_cons_succ, List.set_cons_zero]
        refine order_done (by kernel_rfl) ?_
        clear HS hme
        go_wp2_with fail
        refine order_begin (fun W => Raw W B b m1 m2 (N + 2 * i) T (halfL a c L i) M ∧ Blk W pb 106 #[.int .i64 x', .int .i64 y]) (fun k => !(k == 9)) (by kernel_rfl) 10 rfl ?_
        have HS := And.intro (HR4.out.fresh (Keeps.refl NoB w4).drew) (HP4.out.keep (Keeps.refl NoB w4).drew id)
        have HKB := hide (HK4.out.drew)
        have HVB2 := hide (HV4.out.keep (Keeps.refl NoB w4).drew id)
        clear HR4 HP4 HK4 HV4
        generalize w4.drew = w8 at *
        clear w4
        refine order_pure (i := 0) rfl (by kernel_rfl) (fun _ _ _ h => h) (.inl ⟨rfl, fun _ => by go_simp; rfl⟩) ?_
        try simp only [Act.put, List.setIfInBounds_toArray, List.set_cons_succ, List.set_cons_zero]
        refine order_pure (i := 1) rfl (by kernel_rfl) (fun _ _ _ h => h) (.inl ⟨rfl, fun _ => by go_simp; rfl⟩) ?_
        try simp only [Act.put, List.setIfInBounds_toArray, List.set_cons_succ, List.set_cons_zero]
        refine order_pure (i := 2) rfl (by kernel_rfl) (fun _ _ _ h => h) (.inl ⟨rfl, fun _ => by go_simp; rfl⟩) ?_
        try simp only [Act.put, List.setIfInBounds_toArray, List.set_cons_succ, List.set_cons_zero]
        refine order_held (i := 3) rfl (by kernel_rfl) (fun _ _ _ h => h) (.inl ⟨rfl, fun W hW => by
          have q0 : W.cell? ⟨b, 0, none⟩ = some (.map (some m1)) := hW.1.blk.cell 0
          go_simp; rfl⟩) HS ?_
        try simp only [Act.put, List.setIfInBounds_toArray, List.set_cons_succ, List.set_cons_zero]
        refine order_pure (i := 4) rfl (by kernel_rfl) (fun _ _ _ h => h) (.inl ⟨rfl, fun _ => by go_simp; rfl⟩) ?_
        try simp only [Act.put, List.setIfInBounds_toArray, List.set_cons_succ, List.set_cons_zero]
        refine order_held (i := 5) rfl (by kernel_rfl) (fun _ _ _ h => h) (.inl ⟨rfl, fun W hW => by
          have q0 : W.cell? ⟨pb, 0, none⟩ = some (.int .i64 x') := hW.2.cell 0
          go_simp; rfl⟩) HS ?_
        try simp only [Act.put, List.setIfInBounds_toArray, List.set_cons_succ, List.set_cons_zero]
        refine order_held (i := 6) rfl (by kernel_rfl) (fun _ _ _ h => h) (.inl ⟨rfl, fun W hW => by
          have q0 : (Instr.lookup 50 (.map (some m1)) (.int .i64 x') false).run Tryz.prog W = .ok (.map (some m)) W := hW.1.look_at HX.out.1 HM.out
          go_simp; rfl⟩) HS ?_
        try simp only [Act.put, List.setIfInBounds_toArray, List.set_cons_succ, List.set_cons_zero]
        refine order_pure (i := 7) rfl (by kernel_rfl) (fun _ _ _ h => h) (.inl ⟨rfl, fun _ => by go_simp; rfl⟩) ?_
        try simp only [Act.put, List.setIfInBounds_toArray, List.set_cons_succ, List.set_cons_zero]
        refine order_held (i := 8) rfl (by kernel_rfl) (fun _ _ _ h => h) (.inl ⟨rfl, fun W hW => by
          have q0 : W.cell? ⟨pb, 1, none⟩ = some (.int .i64 y) := hW.2.cell 1
          go_simp; rfl⟩) HS ?_
        try simp only [Act.put, List.setIfInBounds_toArray, List.set_cons_succ, List.set_cons_zero]
        obtain ⟨w9, hu, hr9, ht9⟩ := HS.1.putIn HM.out HX.out.2.1 HX.out.2.2.1 (by unfold maxLen; omega)
        have HR9 := hide (show Raw w9 B b m1 m2 (N + 2 * (i + 1)) T (halfL a c L (i + 1)) M from by rw [HX.out.2.2.2]; exact hr9.mono (by omega))
        have HK9 := hide (FP.trans HKB.out (HS.1.fp_in HM.out ht9))
        have HV9 := hide (HVB2.out.keep (HS.1.fp_in HM.out ht9) (FP.blk HVB2.out))
        clear hr9 ht9
        refine order_one (i := 9) rfl (by kernel_rfl) (fun K hK => ?_)
        go_simp
        clear hu
        refine hK _ _ (fun h => absurd h (by decide)) ?_
        clear hK
        try simp only [Act.put, List.setIfInBounds_toArray, List.set_cons_succ, List.set_cons_zero]
        refine order_done (by kernel_rfl) ?_
        clear HS HKB HVB2 w8
        go_wp2_with fail
        go_roundg (2 - (i + 1))
        case measure => omega
        case rel => exact ⟨i + 1, by omega, rfl, by go_num, ⟨_, HR9.out⟩, HK9.out, HV9.out⟩
      · have HI := hide hin
        clear hin
        have hme : ∀ w, (binOp .eql 49 (.map none) (.map none)).run Tryz.prog w = .ok (.bool true) w := map_eq_nil
        refine order_begin (fun W => Raw W B b m1 m2 (N + 2 * i) T (halfL a c L i) M ∧ Blk W pb 106 #[.int .i64 x, .int .i64 y]) (fun _ => true) (by kernel_rfl) 8 rfl ?_
        have HS := And.intro (HR3.out.fresh (Keeps.refl NoB w3).drew) (HP3.out.keep (Keeps.refl NoB w3).drew id)
        have HR4 := hide (HR3.out.fresh (Keeps.refl NoB w3).drew)
        have HP4 := hide (HP3.out.keep (Keeps.refl NoB w3).drew id)
        have HK4 := hide (HK3.out.drew)
        have HV4 := hide (HV3.out.keep (Keeps.refl NoB w3).drew id)
        clear HR3 HP3 HK3 HV3
        generalize w3.drew = w4 at *
        clear w3
        refine order_pure (i := 0) rfl (by kernel_rfl) (fun _ _ _ h => h) (.inl ⟨rfl, fun _ => by go_simp; rfl⟩) ?_
        try simp only [Act.put, List.setIfInBounds_toArray, List.set_cons_succ, List.set_cons_zero]
        refine order_pure (i := 1) rfl (by kernel_rfl) (fun _ _ _ h => h) (.inl ⟨rfl, fun _ => by go_simp; rfl⟩) ?_
        try simp only [Act.put, List.setIfInBounds_toArray, List.set_cons_succ, List.set_cons_zero]
        refine order_pure (i := 2) rfl (by kernel_rfl) (fun _ _ _ h => h) (.inl ⟨rfl, fun _ => by go_simp; rfl⟩) ?_
        try simp only [Act.put, List.setIfInBounds_toArray, List.set_cons_succ, List.set_cons_zero]
        refine order_held (i := 3) rfl (by kernel_rfl) (fun _ _ _ h => h) (.inl ⟨rfl, fun W hW => by
          have q0 : W.cell? ⟨b, 0, none⟩ = some (.map (some m1)) := hW.1.blk.cell 0
          go_simp; rfl⟩) HS ?_
        try simp only [Act.put, List.setIfInBounds_toArray, List.set_cons_succ, List.set_cons_zero]
        refine order_pure (i := 4) rfl (by kernel_rfl) (fun _ _ _ h => h) (.inl ⟨rfl, fun _ => by go_simp; rfl⟩) ?_
        try simp only [Act.put, List.setIfInBounds_toArray, List.set_cons_succ, List.set_cons_zero]
        refine order_held (i := 5) rfl (by kernel_rfl) (fun _ _ _ h => h) (.inl ⟨rfl, fun W hW => by
          have q0 : W.cell? ⟨pb, 0, none⟩ = some (.int .i64 x) := hW.2.cell 0
          go_simp; rfl⟩) HS ?_
        try simp only [Act.put, List.setIfInBounds_toArray, List.set_cons_succ, List.set_cons_zero]
        refine order_held (i := 6) rfl (by kernel_rfl) (fun _ _ _ h => h) (.inl ⟨rfl, fun W hW => by
          have q0 : (Instr.lookup 50 (.map (some m1)) (.int .i64 x) false).run Tryz.prog W = .ok (.map none) W := hW.1.look_none HX.out.1 HI.out
          go_simp; rfl⟩) HS ?_
        try simp only [Act.put, List.setIfInBounds_toArray, List.set_cons_succ, List.set_cons_zero]
        refine order_pure (i := 7) rfl (by kernel_rfl) (fun _ _ _ h => h) (.inl ⟨rfl, fun _ => by go_simp; rfl⟩) ?_
        try simp only [Act.put, List.setIfInBounds_toArray, List.set_cons_succ, List.set_cons_zero]
        refine order_done (by kernel_rfl) ?_
        clear HS hme
        go_wp2_with fail
        refine order_begin (fun W => Raw W B b m1 m2 (N + 2 * i) T (halfL a c L i) M ∧ Blk W pb 106 #[.int .i64 x, .int .i64 y]) (fun k => !(k == 7)) (by kernel_rfl) 8 rfl ?_
        have HS := And.intro (HR4.out.fresh (Keeps.refl NoB w4).drew) (HP4.out.keep (Keeps.refl NoB w4).drew id)
        have HK5 := hide (HK4.out.drew)
        have HV5 := hide (HV4.out.keep (Keeps.refl NoB w4).drew id)
        clear HR4 HP4 HK4 HV4
        generalize w4.drew = w5 at *
        clear w4
        refine order_pure (i := 0) rfl (by kernel_rfl) (fun _ _ _ h => h) (.inl ⟨rfl, fun _ => by go_simp; rfl⟩) ?_
        try simp only [Act.put, List.setIfInBounds_toArray, List.set_cons_succ, List.set_cons_zero]
        refine order_pure (i := 1) rfl (by kernel_rfl) (fun _ _ _ h => h) (.inl ⟨rfl, fun _ => by go_simp; rfl⟩) ?_
        try simp only [Act.put, List.setIfInBounds_toArray, List.set_cons_succ, List.set_cons_zero]
        refine order_pure (i := 2) rfl (by kernel_rfl) (fun _ _ _ h => h) (.inl ⟨rfl, fun _ => by go_simp; rfl⟩) ?_
        try simp only [Act.put, List.setIfInBounds_toArray, List.set_cons_succ, List.set_cons_zero]
        refine order_held (i := 3) rfl (by kernel_rfl) (fun _ _ _ h => h) (.inl ⟨rfl, fun W hW => by
          have q0 : W.cell? ⟨b, 0, none⟩ = some (.map (some m1)) := hW.1.blk.cell 0
          go_simp; rfl⟩) HS ?_
        try simp only [Act.put, List.setIfInBounds_toArray, List.set_cons_succ, List.set_cons_zero]
        refine order_pure (i := 4) rfl (by kernel_rfl) (fun _ _ _ h => h) (.inl ⟨rfl, fun _ => by go_simp; rfl⟩) ?_
        try simp only [Act.put, List.setIfInBounds_toArray, List.set_cons_succ, List.set_cons_zero]
        refine order_held (i := 5) rfl (by kernel_rfl) (fun _ _ _ h => h) (.inl ⟨rfl, fun W hW => by
          have q0 : W.cell? ⟨pb, 0, none⟩ = some (.int .i64 x) := hW.2.cell 0
          go_simp; rfl⟩) HS ?_
        try simp only [Act.put, List.setIfInBounds_toArray, List.set_cons_succ, List.set_cons_zero]
        have hmm := @run_makeMap Tryz.prog
        refine order_one (i := 6) rfl (by kernel_rfl) (fun K hK => ?_)
        go_simp
        have hka : Keeps NoB w5 (w5.alloc (.map #[] 0)) := (Keeps.refl NoB w5).alloc _
        have HS6 := And.intro (HS.1.fresh hka) (HS.2.keep hka id)
        refine hK _ _ (fun _ _ => HS6) ?_
        clear hK hmm
        try simp only [Act.put, List.setIfInBounds_toArray, List.set_cons_succ, List.set_cons_zero]
        have HO6 := hide (World.ownsMap_made (H := Unit) w5 Tryz.prog 3 (plainElem (H := Unit) Tryz.prog 3))
        have HLT := hide (HS.1.low')
        have HK6 := hide (HK5.out.alloc (.map #[] 0))
        have HV6 := hide (HV5.out.keep hka id)
        have HB6 := hide (show B ≤ w5.heap.size from by have := HK5.out.size; omega)
        obtain ⟨m, hm⟩ : ∃ m, w5.heap.size = m := ⟨_, rfl⟩
        rw [hm] at HO6 HLT HB6 ⊢
        clear HS hka HK5 HV5 hm
        generalize w5.alloc (.map #[] 0) = w6 at *
        clear w5
        obtain ⟨w7, hu, hr7, ht7⟩ := HS6.1.putOut HX.out.1 HI.out (by unfold maxLen; omega) HO6.out rfl HB6.out (by have := HLT.out; omega) (by have := HLT.out; omega) (fun z hz => by have := HLT.out.2.2.2 z hz; omega)
        have HR7 := hide hr7
        have HK7 := hide (FP.trans HK6.out (HS6.1.fp_out ht7))
        have HV7 := hide (HV6.out.keep (HS6.1.fp_out ht7) (FP.blk HV6.out))
        have HP7 := hide (HS6.2.keep (HS6.1.fp_out ht7) (FP.blk HS6.2))
        have HM := hide (show (x, m) ∈ (x, m) :: T from List.mem_cons_self)
        clear hr7 ht7 HO6 HLT HB6 HK6 HV6
        refine order_one (i := 7) rfl (by kernel_rfl) (fun K hK => ?_)
        go_simp
        clear hu
        refine hK _ _ (fun h => absurd h (by decide)) ?_
        clear hK
        try simp only [Act.put, List.setIfInBounds_toArray, List.set_cons_succ, List.set_cons_zero]
        refine order_done (by kernel_rfl) ?_
        clear HS6 w6
        go_wp2_with fail
        refine order_begin (fun W => Raw W B b m1 m2 (N + 2 * i + 1) ((x, m) :: T) (halfL a c L i) M ∧ Blk W pb 106 #[.int .i64 x, .int .i64 y]) (fun k => !(k == 9)) (by kernel_rfl) 10 rfl ?_
        have HS := And.intro (HR7.out.fresh (Keeps.refl NoB w7).drew) (HP7.out.keep (Keeps.refl NoB w7).drew id)
        have HKB := hide (HK7.out.drew)
        have HVB2 := hide (HV7.out.keep (Keeps.refl NoB w7).drew id)
        clear HR7 HP7 HK7 HV7
        generalize w7.drew = w8 at *
        clear w7
        refine order_pure (i := 0) rfl (by kernel_rfl) (fun _ _ _ h => h) (.inl ⟨rfl, fun _ => by go_simp; rfl⟩) ?_
        try simp only [Act.put, List.setIfInBounds_toArray, List.set_cons_succ, List.set_cons_zero]
        refine order_pure (i := 1) rfl (by kernel_rfl) (fun _ _ _ h => h) (.inl ⟨rfl, fun _ => by go_simp; rfl⟩) ?_
        try simp only [Act.put, List.setIfInBounds_toArray, List.set_cons_succ, List.set_cons_zero]
        refine order_pure (i := 2) rfl (by kernel_rfl) (fun _ _ _ h => h) (.inl ⟨rfl, fun _ => by go_simp; rfl⟩) ?_
        try simp only [Act.put, List.setIfInBounds_toArray, List.set_cons_succ, List.set_cons_zero]
        refine order_held (i := 3) rfl (by kernel_rfl) (fun _ _ _ h => h) (.inl ⟨rfl, fun W hW => by
          have q0 : W.cell? ⟨b, 0, none⟩ = some (.map (some m1)) := hW.1.blk.cell 0
          go_simp; rfl⟩) HS ?_
        try simp only [Act.put, List.setIfInBounds_toArray, List.set_cons_succ, List.set_cons_zero]
        refine order_pure (i := 4) rfl (by kernel_rfl) (fun _ _ _ h => h) (.inl ⟨rfl, fun _ => by go_simp; rfl⟩) ?_
        try simp only [Act.put, List.setIfInBounds_toArray, List.set_cons_succ, List.set_cons_zero]
        refine order_held (i := 5) rfl (by kernel_rfl) (fun _ _ _ h => h) (.inl ⟨rfl, fun W hW => by
          have q0 : W.cell? ⟨pb, 0, none⟩ = some (.int .i64 x) := hW.2.cell 0
          go_simp; rfl⟩) HS ?_
        try simp only [Act.put, List.setIfInBounds_toArray, List.set_cons_succ, List.set_cons_zero]
        refine order_held (i := 6) rfl (by kernel_rfl) (fun _ _ _ h => h) (.inl ⟨rfl, fun W hW => by
          have q0 : (Instr.lookup 50 (.map (some m1)) (.int .i64 x) false).run Tryz.prog W = .ok (.map (some m)) W := hW.1.look_at HX.out.1 HM.out
          go_simp; rfl⟩) HS ?_
        try simp only [Act.put, List.setIfInBounds_toArray, List.set_cons_succ, List.set_cons_zero]
        refine order_pure (i := 7) rfl (by kernel_rfl) (fun _ _ _ h => h) (.inl ⟨rfl, fun _ => by go_simp; rfl⟩) ?_
        try simp only [Act.put, List.setIfInBounds_toArray, List.set_cons_succ, List.set_cons_zero]
        refine order_held (i := 8) rfl (by kernel_rfl) (fun _ _ _ h => h) (.inl ⟨rfl, fun W hW => by
          have q0 : W.cell? ⟨pb, 1, none⟩ = some (.int .i64 y) := hW.2.cell 1
          go_simp; rfl⟩) HS ?_
        try simp only [Act.put, List.setIfInBounds_toArray, List.set_cons_succ, List.set_cons_zero]
        obtain ⟨w9, hu, hr9, ht9⟩ := HS.1.putIn HM.out HX.out.2.1 HX.out.2.2.1 (by unfold maxLen; omega)
        have HR9 := hide (show Raw w9 B b m1 m2 (N + 2 * (i + 1)) ((x, m) :: T) (halfL a c L (i + 1)) M from by rw [HX.out.2.2.2]; exact hr9.mono (by omega))
        have HK9 := hide (FP.trans HKB.out (HS.1.fp_in HM.out ht9))
        have HV9 := hide (HVB2.out.keep (HS.1.fp_in HM.out ht9) (FP.blk HVB2.out))
        clear hr9 ht9
        refine order_one (i := 9) rfl (by kernel_rfl) (fun K hK => ?_)
        go_simp
        clear hu
        refine hK _ _ (fun h => absurd h (by decide)) ?_
        clear hK
        try simp only [Act.put, List.setIfInBounds_toArray, List.set_cons_succ, List.set_cons_zero]
        refine order_done (by kernel_rfl) ?_
        clear HS HKB HVB2 w8
        go_wp2_with fail
        go_roundg (2 - (i + 1))
        case measure => omega
        case rel => exact ⟨i + 1, by omega, rfl, by go_num, ⟨_, HR9.out⟩, HK9.out, HV9.out⟩
    · obtain rfl : i = 2 := by omega
      have hiz : ¬ ((2 : Nat) : Int) < 2 := by omega
      go_wp2_with fail
      go_ret
      exact ⟨rfl, ⟨let ⟨T, r⟩ := (show ∃ T, Raw wr B b m1 m2 (N + 2 * 2) T (halfL a c L 2) M from ⟨T, HR.out⟩); ⟨T, r⟩, HG.out⟩, HK.out⟩
end Go.Proofs.YtjmljjmnamfljaaGreat
