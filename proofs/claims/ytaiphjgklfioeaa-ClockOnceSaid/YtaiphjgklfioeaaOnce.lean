/- pigeonholelaw16: ClockOnce. -/
import Derived.Test.YtaiphjgklfioeaaOnceLaw
import Derived.Deep.CutRange
import Derived.Deep.CutBlock
import Derived.Deep.DeepCutAuto
namespace Go.Proofs.Ytaiphjgklfioeaa
open Go.RowKit

theorem zero50 : (#[Value.int .i64 0, Value.int .i64 0, Value.int .i64 0, Value.int .i64 0, Value.int .i64 0, Value.int .i64 0, Value.int .i64 0, Value.int .i64 0, Value.int .i64 0, Value.int .i64 0, Value.int .i64 0, Value.int .i64 0] : Array Value) = (ints (List.replicate 12 0)).toArray := by rfl
theorem ints_set (D : List Int) (p : Nat) (v : Int) : (ints D).toArray.setIfInBounds p (.int .i64 v) = (ints (D.set p v)).toArray := by simp [ints, List.map_set]
theorem int_ne {a b : Int} (h : a ≠ b) : (a == b) = false := by simp [h]
theorem OnceRel.start' {D : List Int} (hl : D.length = 12) (h : ∀ p, p < 12 → dueAt D p = -1) : OnceRel D ⟨0, []⟩ :=
  ⟨hl, fun _ h => by simp at h, fun p hp => .inl (h p hp)⟩

/-- What holds behind so many steps. -/
structure OnceInv (w wx : World) (b db i : Nat) (now : Int) (A : Option Addr) (c : Nat) (s : St) (D : List Int) : Prop where
  run : Run w wx b A c s
  blk : Blk wx db 50 (ints D).toArray
  rel : OnceRel D s
  hnow : s.now = now
  hdb : w.heap.size ≤ db
  hlen : s.L.length ≤ i
  lo : 0 ≤ now
  hi : now ≤ 63 * i

theorem OnceInv.cell {w wx : World} {b db i c : Nat} {now : Int} {A : Option Addr} {s : St} {D : List Int} (h : OnceInv w wx b db i now A c s D) {p : Nat} (hp : p < 12) : wx.cell? ⟨db, p, none⟩ = some (.int .i64 (dueAt D p)) := by
  rw [h.blk.cell]
  have := dueAt_get (D := D) (p := p) (by rw [h.rel.len]; exact hp)
  simp [ints, this]
theorem OnceInv.sep {w wx : World} {b db i c : Nat} {now : Int} {A : Option Addr} {s : St} {D : List Int} (h : OnceInv w wx b db i now A c s D) : ¬ clkFp b A db := by
  rintro (e | hr)
  · have := Blk.one h.run.at'.blk (e ▸ h.blk); simp at this
  · exact h.run.at'.row.ne h.blk (by decide) hr
theorem Run.due {w wx wy : World} {b db c : Nat} {A : Option Addr} {s : St} (h : Run w wx b A c s) (hs : ¬ clkFp b A db) (hdb : w.heap.size ≤ db) (hk : Keeps (fun j => j = db) wx wy) : Run w wy b A c s :=
  ⟨h.at'.keep hk (fun j hj e => hs (e ▸ hj)), h.keep.trans' hk (fun _ _ => id) (fun j hj e => by omega), h.hb, h.hg⟩

theorem once_start {w wc : World} (h : Keeps NoB w wc) : Run w ((wc.alloc (.cells #[.int .i64 0, .bool true, .slice none 0 0] 47)).alloc (.cells (#[Value.int .i64 0, Value.int .i64 0, Value.int .i64 0, Value.int .i64 0, Value.int .i64 0, Value.int .i64 0, Value.int .i64 0, Value.int .i64 0, Value.int .i64 0, Value.int .i64 0, Value.int .i64 0, Value.int .i64 0] : Array Value) 50)) wc.heap.size none 0 ⟨0, []⟩ ∧ Blk ((wc.alloc (.cells #[.int .i64 0, .bool true, .slice none 0 0] 47)).alloc (.cells (#[Value.int .i64 0, Value.int .i64 0, Value.int .i64 0, Value.int .i64 0, Value.int .i64 0, Value.int .i64 0, Value.int .i64 0, Value.int .i64 0, Value.int .i64 0, Value.int .i64 0, Value.int .i64 0, Value.int .i64 0] : Array Value) 50)) (wc.heap.size + 1) 50 (ints (List.replicate 12 0)).toArray := by
  refine ⟨(Run.new w wc h).fresh ((Keeps.refl NoB _).alloc _), ?_⟩
  have := Blk.new (wc.alloc (.cells #[.int .i64 0, .bool true, .slice none 0 0] 47)) 50 (#[Value.int .i64 0, Value.int .i64 0, Value.int .i64 0, Value.int .i64 0, Value.int .i64 0, Value.int .i64 0, Value.int .i64 0, Value.int .i64 0, Value.int .i64 0, Value.int .i64 0, Value.int .i64 0, Value.int .i64 0] : Array Value)
  rw [zero50] at this ⊢
  simpa using this

set_option maxRecDepth 100000 in
set_option maxHeartbeats 8000000 in
theorem clock_once (A : Option Addr) (n c : Nat) (hnc : n ≤ c) (E : List Do) (w : World) (h : DosAt w A n E) : Calls Try.prog 7 #[.slice A n c] w fun e w' => e = .returned (.bool true) ∧ Keeps NoB w w' := by
  have H := hide h; clear h
  go_enter Try.func7, Try.ntmps7
  go_upto_if 21 with
    first
    | (go_at_call 8
       refine (awake_any _).mono ?_
       rintro e w2 ⟨rfl, hk⟩
       have HK1 := hide hk
       clear hk)
    | fail
  go_cut [0] (fun s0 wx => wx = w2 ∧ ∃ m : Nat, m ≤ 80 ∧ m ≤ n ∧ s0 = .slice A m c)
  case first =>
    by_cases h80 : n ≤ 80
    · have hz : (n : Int) ≤ 80 := by omega
      go_wp2_with fail
      go_meet
      exact ⟨rfl, n, h80, Nat.le_refl _, rfl⟩
    · have hz : (80 : Int) < n := by omega
      have hzc : (80 : Int) ≤ c := by omega
      go_wp2_with fail
      go_meet
      exact ⟨rfl, 80, Nat.le_refl _, by omega, rfl⟩
  case rest =>
    obtain ⟨rfl, m, hm80, hmn, rfl⟩ := hcut
    go_wp2_with
      first
      | (go_at_call 9
         refine (new_any _).mono ?_
         rintro e w' ⟨rfl, rfl⟩)
      | fail
    have HI := hide (once_start HK1.out)
    have HD := hide (H.out.upto hmn)
    have HB0 := hide HK1.out.size
    clear HK1
    generalize (wc.alloc (.cells #[.int .i64 0, .bool true, .slice none 0 0] 47)).alloc (.cells (#[Value.int .i64 0, Value.int .i64 0, Value.int .i64 0, Value.int .i64 0, Value.int .i64 0, Value.int .i64 0, Value.int .i64 0, Value.int .i64 0, Value.int .i64 0, Value.int .i64 0, Value.int .i64 0, Value.int .i64 0] : Array Value) 50) = w3 at *
    generalize wc.heap.size = cb at *
    clear wc
    go_loopg [5] 12 (fun g s5 wx => ∃ (k : Nat) (D : List Int), k ≤ 12 ∧ g = 12 - k ∧ s5 = .int .i64 k ∧ Run w wx cb none 0 ⟨0, []⟩ ∧ Blk wx (cb + 1) 50 (ints D).toArray ∧ D.length = 12 ∧ ∀ p, p < k → dueAt D p = -1)
    case atStart => exact ⟨0, _, by omega, rfl, rfl, HI.out.1, HI.out.2, by simp, fun p hp => by omega⟩
    case round =>
      clear HI
      obtain ⟨k, D, hk, rfl, rfl, hrun, hblk, hDl, hall⟩ := hrel
      have HR := hide hrun; have HB := hide hblk; have HDL := hide hDl; have HALL := hide hall
      clear hrun hblk hDl hall
      by_cases hk2 : k < 12
      · have hkz : (k : Int) < 12 := by omega
        have hk0 : (0 : Int) ≤ k := by omega
        have c0 : wr.cell? ⟨cb + 1, k, none⟩ = some (.int .i64 (dueAt D k)) := by
          rw [HB.out.cell]; have := dueAt_get (D := D) (p := k) (by rw [HDL.out]; exact hk2); simp [ints, this]
        have f0 : wr.frozen? ⟨cb + 1, k, none⟩ = false := HB.out.free k
        have HB2 := hide (HB.out.put k (.int .i64 (-1)))
        have HR2 := hide (HR.out.due (db := cb + 1) (by
          rintro (e | ⟨o, e⟩)
          · omega
          · cases e) (by have := HB0.out; omega) ((Keeps.refl (fun j => j = cb + 1) wr).setCell (p := ⟨cb + 1, k, none⟩) (.inl rfl) (.int .i64 (-1))))
        go_wp2_with fail
        go_roundg (12 - (k + 1))
        case measure => omega
        case rel => exact ⟨k + 1, D.set k (-1), by omega, rfl, by go_num, HR2.out, by have := HB2.out; rw [ints_set] at this; exact this, by simp [HDL.out], fun p hp => by
          rw [dueAt_set (by have := HDL.out; omega)]
          by_cases e : p = k
          · rw [if_pos e]
          · rw [if_neg e]; exact HALL.out p (by omega)⟩
      · have hkz : ¬ (k : Int) < 12 := by omega
        have HI := hide (show OnceInv w wr cb (cb + 1) 0 0 none 0 ⟨0, []⟩ D from ⟨HR.out, HB.out, OnceRel.start' HDL.out (fun p hp => HALL.out p (by omega)), rfl, by have := HB0.out; omega, Nat.le_refl _, by omega, by omega⟩)
        clear HR HB HDL HALL
        go_wp2_with fail
        go_loopg [6, 7] m (fun g s6 s7 wx => ∃ (i : Nat) (now : Int) (A' : Option Addr) (c' : Nat) (s : St) (D : List Int), i ≤ m ∧ g = m - i ∧ s6 = .int .i64 now ∧ s7 = .int .i64 i ∧ OnceInv w wx cb (cb + 1) i now A' c' s D)
        case atStart => exact ⟨0, 0, none, 0, ⟨0, []⟩, D, Nat.zero_le _, rfl, rfl, rfl, HI.out⟩
        case round =>
          clear HI D
          obtain ⟨i, now, C1, n1, s, D, him, rfl, rfl, rfl, hinv⟩ := hrel
          have HI := hide hinv
          have hlo := hinv.lo; have hhi := hinv.hi; have hlen := hinv.hlen
          clear hinv
          by_cases hi : i < m
          · obtain ⟨x, hx⟩ : ∃ x, (E.take m)[i]? = some x := ⟨_, List.getElem?_eq_getElem (by rw [HD.out.1]; exact hi)⟩
            obtain ⟨ab, ao, hA, d0, d1, d2⟩ := (HD.out.keep HI.out.run.keep).2 i x hx
            subst hA
            obtain ⟨op, pid, nn⟩ := x
            simp only at d0 d1 d2
            have hi1 : (i : Int) < (m : Int) := by omega
            have hi0 : (0 : Int) ≤ (i : Int) := by omega
            have D0 := hide d0; have D1 := hide d1; have D2 := hide d2
            clear hx d0 d1 d2
            go_wp2_with fail
            refine order_begin (fun W => Keeps NoB wr W) (fun _ => true) (by kernel_rfl) 14 rfl ?_
            have HS : Keeps NoB wr wr.drew := (Keeps.refl _ _).drew
            refine order_pure (i := 0) rfl (by kernel_rfl) (fun _ _ _ h => h) (.inl ⟨rfl, fun _ => by go_simp; rfl⟩) ?_
            try simp only [Act.put, List.setIfInBounds_toArray, List.set_cons_succ, List.set_cons_zero]
            refine order_pure (i := 1) rfl (by kernel_rfl) (fun _ _ _ h => h) (.inl ⟨rfl, fun _ => by go_simp; rfl⟩) ?_
            try simp only [Act.put, List.setIfInBounds_toArray, List.set_cons_succ, List.set_cons_zero]
            refine order_pure (i := 2) rfl (by kernel_rfl) (fun _ _ _ h => h) (.inl ⟨rfl, fun _ => by go_simp; rfl⟩) ?_
            try simp only [Act.put, List.setIfInBounds_toArray, List.set_cons_succ, List.set_cons_zero]
            refine order_pure (i := 3) rfl (by kernel_rfl) (fun _ _ _ h => h) (.inl ⟨rfl, fun _ => by go_simp; rfl⟩) ?_
            try simp only [Act.put, List.setIfInBounds_toArray, List.set_cons_succ, List.set_cons_zero]
            refine order_held (i := 4) rfl (by kernel_rfl) (fun _ _ _ h => h) (.inl ⟨rfl, fun W hW => by
              have q0 : W.cell? ⟨ab, ao + i * 3 + 1, none⟩ = some (.int .i64 pid) := hW.cell id D1.out
              go_simp; rfl⟩) HS ?_
            try simp only [Act.put, List.setIfInBounds_toArray, List.set_cons_succ, List.set_cons_zero]
            refine order_pure (i := 6) rfl (by kernel_rfl) (fun _ _ _ h => h) (.inl ⟨rfl, fun _ => by go_simp; rfl⟩) ?_
            try simp only [Act.put, List.setIfInBounds_toArray, List.set_cons_succ, List.set_cons_zero]
            refine order_pure (i := 7) rfl (by kernel_rfl) (fun _ _ _ h => h) (.inl ⟨rfl, fun _ => by go_simp; rfl⟩) ?_
            try simp only [Act.put, List.setIfInBounds_toArray, List.set_cons_succ, List.set_cons_zero]
            refine order_pure (i := 8) rfl (by kernel_rfl) (fun _ _ _ h => h) (.inl ⟨rfl, fun _ => by go_simp; rfl⟩) ?_
            try simp only [Act.put, List.setIfInBounds_toArray, List.set_cons_succ, List.set_cons_zero]
            refine order_pure (i := 9) rfl (by kernel_rfl) (fun _ _ _ h => h) (.inl ⟨rfl, fun _ => by go_simp; rfl⟩) ?_
            try simp only [Act.put, List.setIfInBounds_toArray, List.set_cons_succ, List.set_cons_zero]
            refine order_held (i := 10) rfl (by kernel_rfl) (fun _ _ _ h => h) (.inl ⟨rfl, fun W hW => by
              have q0 : W.cell? ⟨ab, ao + i * 3 + 2, none⟩ = some (.int .i64 nn) := hW.cell id D2.out
              go_simp; rfl⟩) HS ?_
            try simp only [Act.put, List.setIfInBounds_toArray, List.set_cons_succ, List.set_cons_zero]
            refine order_one (i := 5) rfl (by kernel_rfl) (fun K hK => ?_)
            go_simp
            refine (pick_any pid 12 (by omega) (by omega) _).mono ?_
            rintro e w' ⟨rfl, rfl⟩
            refine hK _ _ (fun _ h => h) ?_
            clear hK
            try simp only [Act.put, List.setIfInBounds_toArray, List.set_cons_succ, List.set_cons_zero]
            refine order_one (i := 11) rfl (by kernel_rfl) (fun K hK => ?_)
            go_simp
            refine (pick_any nn 64 (by omega) (by omega) _).mono ?_
            rintro e w' ⟨rfl, rfl⟩
            refine hK _ _ (fun _ h => h) ?_
            clear hK
            try simp only [Act.put, List.setIfInBounds_toArray, List.set_cons_succ, List.set_cons_zero]
            refine order_pure (i := 12) rfl (by kernel_rfl) (fun _ _ _ h => h) (.inl ⟨rfl, fun _ => by go_simp; rfl⟩) ?_
            try simp only [Act.put, List.setIfInBounds_toArray, List.set_cons_succ, List.set_cons_zero]
            refine order_pure (i := 13) rfl (by kernel_rfl) (fun _ _ _ h => h) (.inl ⟨rfl, fun _ => by go_simp; rfl⟩) ?_
            try simp only [Act.put, List.setIfInBounds_toArray, List.set_cons_succ, List.set_cons_zero]
            refine order_done (by kernel_rfl) ?_
            clear HS
            have hq0 : 0 ≤ nn % 64 := Int.emod_nonneg _ (by omega)
            have hq1 : nn % 64 < 64 := Int.emod_lt_of_pos _ (by omega)
            have hp0 : 0 ≤ pid % 12 := Int.emod_nonneg _ (by omega)
            have hp1 : pid % 12 < 12 := Int.emod_lt_of_pos _ (by omega)
            generalize nn % 64 = q at *
            obtain ⟨p, hp⟩ := Int.eq_ofNat_of_zero_le hp0
            rw [hp] at hp1 ⊢
            clear hp hp0
            have hp12 : p < 12 := by omega
            have hp00 : (0 : Int) ≤ (p : Int) := by omega
            have d0 : wr.cell? ⟨ab, ao + i * 3, none⟩ = some (.int .i64 op) := D0.out
            go_upto_block 4 with
              first
              | (go_at_call 10
                 refine (pick_any op 5 (by omega) (by omega) _).mono ?_
                 rintro e w' ⟨rfl, rfl⟩)
              | fail
            have hr0 : 0 ≤ op % 5 := Int.emod_nonneg _ (by omega)
            have hr5 : op % 5 < 5 := Int.emod_lt_of_pos _ (by omega)
            generalize op % 5 = r at *
            clear d0 D0 D1 D2
            rcases (by omega : r = 0 ∨ r = 1 ∨ r = 2 ∨ 3 ≤ r) with rfl | rfl | rfl | hr3
            · as_aux_lemma =>
              have TOK := hide (show s.tickOk q = true from decide_eq_true ⟨hq0, by rw [HI.out.hnow]; unfold lastT; omega⟩)
              have TD := hide (show s.told q = pidsOf (due (now + q) s.L) from by unfold St.told; rw [if_pos TOK.out, HI.out.hnow])
              have TN := hide (show (s.tick q).now = now + q from by unfold St.tick; rw [if_pos TOK.out, HI.out.hnow])
              have TL := hide (show (s.tick q).L.length ≤ i from by have := s.tick_len q; omega)
              have TT := hide (HI.out.rel.tick HI.out.run.at'.good TOK.out)
              have TC := hide (HI.out.rel.count HI.out.run.at'.good (t := now + q))
              have T1 := hide (fun k q' hq' => HI.out.rel.told_at HI.out.run.at'.good (t := now + q) (k := k) (q := q') hq')
              have T2 := hide (fun (k p q' : Nat) hp' hq' => HI.out.rel.told_up HI.out.run.at'.good (t := now + q) (k := k) (p := p) (q := q') hp' hq')
              have HDL := hide HI.out.rel.len
              obtain ⟨s', hs'⟩ : ∃ s', s.tick q = s' := ⟨_, rfl⟩
              obtain ⟨ts, hts⟩ : ∃ ts, s.told q = ts := ⟨_, rfl⟩
              have TE := hide (show pidsOf (due (now + q) s.L) = ts from by rw [← TD.out]; exact hts)
              have TC := hide (show cnt D (now + q) 12 = ts.length from by rw [← TE.out]; exact TC.out)
              have T1 := hide (fun k q' (hq' : ts[k]? = some q') => T1.out k q' (by rw [TE.out]; exact hq'))
              have T2 := hide (fun (k p q' : Nat) (hp' : ts[k]? = some (p : Int)) (hq' : ts[k + 1]? = some (q' : Int)) => T2.out k p q' (by rw [TE.out]; exact hp') (by rw [TE.out]; exact hq'))
              have TT := hide (show OnceRel (resets D ts) s' from by rw [← hs', ← hts]; exact TT.out)
              have TN := hide (show s'.now = now + q from hs' ▸ TN.out)
              have TL := hide (show s'.L.length ≤ i from hs' ▸ TL.out)
              have HS' := hide hs'; have HTS := hide hts
              clear hs' hts TE TD
              go_wp2_with fail
              refine (tick_to cb _ C1 s s' ts ts.length true q _ (HI.out.run.fresh ((Keeps.refl NoB wr).drew)).at' (by omega) TOK.out HS'.out HTS.out rfl).mono ?_
              rintro e w4 ⟨C2, n2, X, xc, rfl, h1, h2, h3, hx, hxf⟩
              have HR4 := hide ((HI.out.run.fresh ((Keeps.refl NoB wr).drew)).turn h1 h2 h3)
              have hb4 := HI.out.blk.drew.keep h2 HI.out.sep
              have HSEP := hide (show ¬ clkFp cb C2 (cb + 1) from by
                rintro (e | hr)
                · omega
                · exact h1.row.ne hb4 (by decide) hr)
              have HB4 := hide hb4
              have HX := hide hx
              have HXS := hide (show ¬ rowB X (cb + 1) from hx.ne hb4 (by decide))
              have HDB := hide HI.out.hdb
              obtain ⟨tl, htl⟩ : ∃ tl, ts.length = tl := ⟨_, rfl⟩
              have HTL := hide htl
              have HX := hide (show Slab w4 3 1 X tl xc (ints ts) from htl ▸ HX.out)
              have htl80 : tl ≤ 80 := by have := HX.out.1; rw [List.length_map] at this; have h := (show (s.told q).length ≤ s.L.length from s.told_len q); rw [HTS.out] at h; omega
              rw [htl]
              have k1 : w4.cell? ⟨cb, 1, none⟩ = some (.bool true) := h1.blk.cell 1
              have k0 : w4.cell? ⟨cb, 0, none⟩ = some (.int .i64 (now + q)) := by have := h1.blk.cell 0; rw [TN.out] at this; exact this
              clear h1 h2 h3 hx hxf hb4 htl HI TOK
              go_wp2_with
                first
                | (go_at_call 16
                   refine (now_at cb (now + q) _ k1 k0).mono ?_
                   rintro e w' ⟨rfl, rfl⟩)
                | fail
              clear k0 k1
              go_loopg [12, 13] 12 (fun g s12 s13 wx => ∃ k : Nat, k ≤ 12 ∧ g = 12 - k ∧ s13 = .int .i64 k ∧ s12 = .int .i64 (cnt D (now + q) k) ∧ w4 = wx)
              case atStart => exact ⟨0, by omega, rfl, rfl, rfl, rfl⟩
              case round =>
                obtain ⟨k, hk, rfl, rfl, rfl, rfl⟩ := hrel
                by_cases hk2 : k < 12
                · have hkz : (k : Int) < 12 := by omega
                  have hk0 : (0 : Int) ≤ k := by omega
                  have g0 : w4.cell? ⟨cb + 1, k, none⟩ = some (.int .i64 (dueAt D k)) := by
                    rw [HB4.out.cell]; have := dueAt_get (D := D) (p := k) (by rw [HDL.out]; exact hk2); simp [ints, this]
                  have CS := hide (cnt_succ D (now + q) k)
                  have CL := cnt_le D (now + q) k
                  generalize hv : dueAt D k = v at *
                  have HV := hide hv
                  clear hv
                  by_cases hv0 : 0 ≤ v
                  · by_cases hv1 : v ≤ now + q
                    · have HC := hide (show cnt D (now + q) (k + 1) = cnt D (now + q) k + 1 from by rw [CS.out, if_pos ⟨hv0, hv1⟩])
                      generalize cnt D (now + q) k = cc at *
                      go_wp2_with fail
                      go_roundg (12 - (k + 1))
                      case measure => omega
                      case rel => exact ⟨k + 1, by omega, rfl, by go_num, by rw [HC.out]; go_num, rfl⟩
                    · have HC := hide (show cnt D (now + q) (k + 1) = cnt D (now + q) k from by rw [CS.out, if_neg (by omega)])
                      generalize cnt D (now + q) k = cc at *
                      go_wp2_with fail
                      go_roundg (12 - (k + 1))
                      case measure => omega
                      case rel => exact ⟨k + 1, by omega, rfl, by go_num, by rw [HC.out], rfl⟩
                  · have HC := hide (show cnt D (now + q) (k + 1) = cnt D (now + q) k from by rw [CS.out, if_neg (by omega)])
                    generalize cnt D (now + q) k = cc at *
                    go_wp2_with fail
                    go_roundg (12 - (k + 1))
                    case measure => omega
                    case rel => exact ⟨k + 1, by omega, rfl, by go_num, by rw [HC.out], rfl⟩
                · obtain rfl : k = 12 := by omega
                  have hcc : cnt D (now + q) 12 = tl := by rw [TC.out, HTL.out]
                  rw [hcc]
                  clear hcc
                  go_wp2_with fail
                  go_loopg [14, 15] tl (fun g s14 _ wx => ∃ k : Nat, k ≤ tl ∧ g = tl - k ∧ s14 = .int .i64 k ∧ Keeps NoB w4 wx)
                  case atStart => exact ⟨0, by omega, rfl, rfl, Keeps.refl _ _⟩
                  case round =>
                    obtain ⟨k, hk, rfl, rfl, hkp⟩ := hrel
                    have HKP := hide hkp
                    clear hkp
                    by_cases hk2 : k < tl
                    · obtain ⟨⟨xg, xo, sp⟩, hA, hs, _, _, hc⟩ := (HX.out.fresh HKP.out).reads.2 (by omega)
                      simp only at hs
                      subst hs hA
                      obtain ⟨q1, hq1⟩ : ∃ q1, ts[k]? = some q1 := ⟨_, List.getElem?_eq_getElem (by rw [HTL.out]; exact hk2)⟩
                      obtain ⟨p1, rfl, hp1, hlo1, hhi1, _⟩ := T1.out k q1 hq1
                      have x0 : wr.cell? ⟨xg, xo + k, none⟩ = some (.int .i64 (p1 : Int)) := (hc k _ (by simp [ints, hq1])).1
                      have g0 : wr.cell? ⟨cb + 1, p1, none⟩ = some (.int .i64 (dueAt D p1)) := by
                        rw [(HB4.out.keep HKP.out id).cell]; have := dueAt_get (D := D) (p := p1) (by rw [HDL.out]; exact hp1); simp [ints, this]
                      have hkz : (k : Int) < tl := by omega
                      have hk0 : (0 : Int) ≤ k := by omega
                      have hp1z : (p1 : Int) < 12 := by omega
                      have hp10 : (0 : Int) ≤ p1 := by omega
                      have hnp : ¬ (11 : Int) < (p1 : Int) := by omega
                      have HQ1 := hide hq1
                      have HCC := hide hc
                      clear hc hq1
                      rcases Nat.eq_zero_or_pos k with hk00 | hkp
                      · subst hk00
                        have hzz : ¬ (0 : Int) < 0 := by omega
                        have x1 : wr.cell? ⟨xg, xo, none⟩ = some (.int .i64 (p1 : Int)) := by simpa using x0
                        have hkz1 : (0 : Int) < tl := by omega
                        have z1 : decide ((p1 : Int) < 0) = false := by simp
                        have z2 : decide ((11 : Int) < (p1 : Int)) = false := by simp <;> omega
                        have z3 : decide (dueAt D p1 < 0) = false := by simp <;> omega
                        have z4 : decide (now + q < dueAt D p1) = false := by simp <;> omega
                        clear x0 hkz hk0
                        generalize dueAt D p1 = v1 at *
                        go_wp2_with (go_quiet (fail))
                        go_roundg (tl - 1)
                        case measure => omega
                        case rel => exact ⟨1, by omega, rfl, by go_num, HKP.out.drewN _⟩
                      · obtain ⟨j, rfl⟩ : ∃ j, k = j + 1 := ⟨k - 1, by omega⟩
                        obtain ⟨q2, hq2⟩ : ∃ q2, ts[j]? = some q2 := ⟨_, List.getElem?_eq_getElem (by rw [HTL.out]; omega)⟩
                        obtain ⟨p2, rfl, hp2, hlo2, hhi2, _⟩ := T1.out j q2 hq2
                        have x2 : wr.cell? ⟨xg, xo + j, none⟩ = some (.int .i64 (p2 : Int)) := (HCC.out j _ (by simp [ints, hq2])).1
                        have g2 : wr.cell? ⟨cb + 1, p2, none⟩ = some (.int .i64 (dueAt D p2)) := by
                          rw [(HB4.out.keep HKP.out id).cell]; have := dueAt_get (D := D) (p := p2) (by rw [HDL.out]; exact hp2); simp [ints, this]
                        have hup := T2.out j p2 p1 hq2 HQ1.out
                        have hp2z : (p2 : Int) < 12 := by omega
                        have hp20 : (0 : Int) ≤ p2 := by omega
                        have hkpz : (0 : Int) < (j : Int) + 1 := by omega
                        have E1 := hide (show IntKind.i64.wrap ((j : Int) + 1 - 1) = (j : Int) from by rw [show (j : Int) + 1 - 1 = j from by omega]; exact IntWalk.i64_in _ (by omega))
                        have z0 : decide ((0 : Int) < (j : Int) + 1) = true := by simp <;> omega
                        have z1 : decide ((p1 : Int) < 0) = false := by simp
                        have z2 : decide ((11 : Int) < (p1 : Int)) = false := by simp <;> omega
                        have z3 : decide (dueAt D p1 < 0) = false := by simp <;> omega
                        have z4 : decide (now + q < dueAt D p1) = false := by simp <;> omega
                        clear hq2
                        generalize dueAt D p1 = v1 at *
                        generalize dueAt D p2 = v2 at *
                        rcases hup with hup | ⟨hup, hup2⟩
                        · have b1 : (v2 == v1) = false := int_ne (by omega)
                          have b2 : decide (v1 < v2) = false := by simp <;> omega
                          have e1 := E1.out
                          as_aux_lemma =>
                          go_wp2_with (go_quiet (fail))
                          clear e1
                          go_roundg (tl - (j + 1 + 1))
                          case measure => omega
                          case rel => exact ⟨j + 1 + 1, by omega, rfl, by go_num, HKP.out.drewN _⟩
                        · subst hup
                          have b2 : decide (v2 < v2) = false := by simp
                          have b3 : decide ((p1 : Int) ≤ (p2 : Int)) = false := by simp <;> omega
                          have e1 := E1.out
                          as_aux_lemma =>
                          go_wp2_with (go_quiet (fail))
                          clear e1
                          go_roundg (tl - (j + 1 + 1))
                          case measure => omega
                          case rel => exact ⟨j + 1 + 1, by omega, rfl, by go_num, HKP.out.drewN _⟩
                    · obtain rfl : tl = k := by omega
                      have HB5 := hide (HB4.out.keep HKP.out id)
                      have HX5 := hide (HX.out.fresh HKP.out)
                      have HR5 := hide (HR4.out.fresh HKP.out)
                      have htne : ((tl : Int) != (tl : Int)) = false := by simp
                      clear HB4 HX HR4 HKP
                      generalize hw5 : wr = w5 at *
                      clear hw5
                      go_wp2_with fail
                      go_loopg [16] tl (fun g s16 wx => ∃ k : Nat, k ≤ tl ∧ g = tl - k ∧ s16 = .int .i64 k ∧ Keeps (fun j => j = cb + 1) w5 wx ∧ Blk wx (cb + 1) 50 (ints (resets D (ts.take k))).toArray)
                      case atStart => exact ⟨0, by omega, rfl, rfl, Keeps.refl _ _, HB5.out⟩
                      case round =>
                        obtain ⟨k, hk, rfl, rfl, hkp, hbk⟩ := hrel
                        have HKP := hide hkp; have HBK := hide hbk
                        clear hkp hbk
                        by_cases hk2 : k < tl
                        · obtain ⟨⟨xg, xo, sp⟩, hA, hs, _, _, hc⟩ := (HX5.out.keep HKP.out (fun j hj e => HXS.out (e ▸ hj))).reads.2 (by omega)
                          simp only at hs
                          subst hs hA
                          obtain ⟨q1, hq1⟩ : ∃ q1, ts[k]? = some q1 := ⟨_, List.getElem?_eq_getElem (by rw [HTL.out]; exact hk2)⟩
                          obtain ⟨p1, rfl, hp1, hlo1, hhi1, _⟩ := T1.out k q1 hq1
                          have x0 : wr.cell? ⟨xg, xo + k, none⟩ = some (.int .i64 (p1 : Int)) := (hc k _ (by simp [ints, hq1])).1
                          have hrl : (resets D (ts.take k)).length = 12 := by rw [resets_len, HDL.out]
                          have g0 : wr.cell? ⟨cb + 1, p1, none⟩ = some (.int .i64 (dueAt (resets D (ts.take k)) p1)) := by
                            rw [HBK.out.cell]; have := dueAt_get (D := resets D (ts.take k)) (p := p1) (by omega); simp [ints, this]
                          have f0 : wr.frozen? ⟨cb + 1, p1, none⟩ = false := HBK.out.free p1
                          have hkz : (k : Int) < tl := by omega
                          have hk0 : (0 : Int) ≤ k := by omega
                          have hp1z : (p1 : Int) < 12 := by omega
                          have hp10 : (0 : Int) ≤ p1 := by omega
                          have HB6 := hide (show Blk (wr.setCell ⟨cb + 1, p1, none⟩ (.int .i64 (-1))) (cb + 1) 50 (ints (resets D (ts.take (k + 1)))).toArray from by
                            have h := HBK.out.put p1 (.int .i64 (-1))
                            rw [ints_set] at h
                            rw [List.take_add_one, hq1]
                            show Blk _ _ _ (ints (resets D (ts.take k ++ [(p1 : Int)]))).toArray
                            rw [resets_snoc]; exact h)
                          have HK6 := hide (HKP.out.setCell (p := ⟨cb + 1, p1, none⟩) (.inl rfl) (.int .i64 (-1)))
                          generalize dueAt (resets D (ts.take k)) p1 = v1 at *
                          clear hc hq1 hrl hlo1 hhi1
                          go_wp2_with fail
                          go_roundg (tl - (k + 1))
                          case measure => omega
                          case rel => exact ⟨k + 1, by omega, rfl, by go_num, HK6.out, HB6.out⟩
                        · obtain rfl : tl = k := by omega
                          have HFIN := hide (show OnceInv w wr cb (cb + 1) (i + 1) (now + q) C2 n2 s' (resets D ts) from ⟨HR5.out.due HSEP.out HDB.out HKP.out, by have h := HBK.out; rw [List.take_of_length_le (by have := HTL.out; omega)] at h; exact h, TT.out, TN.out, HDB.out, by have := TL.out; omega, by omega, by omega⟩)
                          go_wp2_with fail
                          go_roundg (m - (i + 1))
                          case measure => omega
                          case rel => exact ⟨i + 1, now + q, C2, n2, s', resets D ts, by omega, rfl, rfl, by go_num, HFIN.out⟩
            · as_aux_lemma =>
              have TOK := hide (show s.tickOk q = true from decide_eq_true ⟨hq0, by rw [HI.out.hnow]; unfold lastT; omega⟩)
              have TD := hide (show s.told q = pidsOf (due (now + q) s.L) from by unfold St.told; rw [if_pos TOK.out, HI.out.hnow])
              have TN := hide (show (s.tick q).now = now + q from by unfold St.tick; rw [if_pos TOK.out, HI.out.hnow])
              have TL := hide (show (s.tick q).L.length ≤ i from by have := s.tick_len q; omega)
              have TT := hide (HI.out.rel.tick HI.out.run.at'.good TOK.out)
              have TC := hide (HI.out.rel.count HI.out.run.at'.good (t := now + q))
              have T1 := hide (fun k q' hq' => HI.out.rel.told_at HI.out.run.at'.good (t := now + q) (k := k) (q := q') hq')
              have T2 := hide (fun (k p q' : Nat) hp' hq' => HI.out.rel.told_up HI.out.run.at'.good (t := now + q) (k := k) (p := p) (q := q') hp' hq')
              have HDL := hide HI.out.rel.len
              obtain ⟨s', hs'⟩ : ∃ s', s.tick q = s' := ⟨_, rfl⟩
              obtain ⟨ts, hts⟩ : ∃ ts, s.told q = ts := ⟨_, rfl⟩
              have TE := hide (show pidsOf (due (now + q) s.L) = ts from by rw [← TD.out]; exact hts)
              have TC := hide (show cnt D (now + q) 12 = ts.length from by rw [← TE.out]; exact TC.out)
              have T1 := hide (fun k q' (hq' : ts[k]? = some q') => T1.out k q' (by rw [TE.out]; exact hq'))
              have T2 := hide (fun (k p q' : Nat) (hp' : ts[k]? = some (p : Int)) (hq' : ts[k + 1]? = some (q' : Int)) => T2.out k p q' (by rw [TE.out]; exact hp') (by rw [TE.out]; exact hq'))
              have TT := hide (show OnceRel (resets D ts) s' from by rw [← hs', ← hts]; exact TT.out)
              have TN := hide (show s'.now = now + q from hs' ▸ TN.out)
              have TL := hide (show s'.L.length ≤ i from hs' ▸ TL.out)
              have HS' := hide hs'; have HTS := hide hts
              clear hs' hts TE TD
              go_wp2_with fail
              refine (tick_to cb _ C1 s s' ts ts.length true q _ (HI.out.run.fresh ((Keeps.refl NoB wr).drew)).at' (by omega) TOK.out HS'.out HTS.out rfl).mono ?_
              rintro e w4 ⟨C2, n2, X, xc, rfl, h1, h2, h3, hx, hxf⟩
              have HR4 := hide ((HI.out.run.fresh ((Keeps.refl NoB wr).drew)).turn h1 h2 h3)
              have hb4 := HI.out.blk.drew.keep h2 HI.out.sep
              have HSEP := hide (show ¬ clkFp cb C2 (cb + 1) from by
                rintro (e | hr)
                · omega
                · exact h1.row.ne hb4 (by decide) hr)
              have HB4 := hide hb4
              have HX := hide hx
              have HXS := hide (show ¬ rowB X (cb + 1) from hx.ne hb4 (by decide))
              have HDB := hide HI.out.hdb
              obtain ⟨tl, htl⟩ : ∃ tl, ts.length = tl := ⟨_, rfl⟩
              have HTL := hide htl
              have HX := hide (show Slab w4 3 1 X tl xc (ints ts) from htl ▸ HX.out)
              have htl80 : tl ≤ 80 := by have := HX.out.1; rw [List.length_map] at this; have h := (show (s.told q).length ≤ s.L.length from s.told_len q); rw [HTS.out] at h; omega
              rw [htl]
              have k1 : w4.cell? ⟨cb, 1, none⟩ = some (.bool true) := h1.blk.cell 1
              have k0 : w4.cell? ⟨cb, 0, none⟩ = some (.int .i64 (now + q)) := by have := h1.blk.cell 0; rw [TN.out] at this; exact this
              clear h1 h2 h3 hx hxf hb4 htl HI TOK
              go_wp2_with
                first
                | (go_at_call 16
                   refine (now_at cb (now + q) _ k1 k0).mono ?_
                   rintro e w' ⟨rfl, rfl⟩)
                | fail
              clear k0 k1
              go_loopg [12, 13] 12 (fun g s12 s13 wx => ∃ k : Nat, k ≤ 12 ∧ g = 12 - k ∧ s13 = .int .i64 k ∧ s12 = .int .i64 (cnt D (now + q) k) ∧ w4 = wx)
              case atStart => exact ⟨0, by omega, rfl, rfl, rfl, rfl⟩
              case round =>
                obtain ⟨k, hk, rfl, rfl, rfl, rfl⟩ := hrel
                by_cases hk2 : k < 12
                · have hkz : (k : Int) < 12 := by omega
                  have hk0 : (0 : Int) ≤ k := by omega
                  have g0 : w4.cell? ⟨cb + 1, k, none⟩ = some (.int .i64 (dueAt D k)) := by
                    rw [HB4.out.cell]; have := dueAt_get (D := D) (p := k) (by rw [HDL.out]; exact hk2); simp [ints, this]
                  have CS := hide (cnt_succ D (now + q) k)
                  have CL := cnt_le D (now + q) k
                  generalize hv : dueAt D k = v at *
                  have HV := hide hv
                  clear hv
                  by_cases hv0 : 0 ≤ v
                  · by_cases hv1 : v ≤ now + q
                    · have HC := hide (show cnt D (now + q) (k + 1) = cnt D (now + q) k + 1 from by rw [CS.out, if_pos ⟨hv0, hv1⟩])
                      generalize cnt D (now + q) k = cc at *
                      go_wp2_with fail
                      go_roundg (12 - (k + 1))
                      case measure => omega
                      case rel => exact ⟨k + 1, by omega, rfl, by go_num, by rw [HC.out]; go_num, rfl⟩
                    · have HC := hide (show cnt D (now + q) (k + 1) = cnt D (now + q) k from by rw [CS.out, if_neg (by omega)])
                      generalize cnt D (now + q) k = cc at *
                      go_wp2_with fail
                      go_roundg (12 - (k + 1))
                      case measure => omega
                      case rel => exact ⟨k + 1, by omega, rfl, by go_num, by rw [HC.out], rfl⟩
                  · have HC := hide (show cnt D (now + q) (k + 1) = cnt D (now + q) k from by rw [CS.out, if_neg (by omega)])
                    generalize cnt D (now + q) k = cc at *
                    go_wp2_with fail
                    go_roundg (12 - (k + 1))
                    case measure => omega
                    case rel => exact ⟨k + 1, by omega, rfl, by go_num, by rw [HC.out], rfl⟩
                · obtain rfl : k = 12 := by omega
                  have hcc : cnt D (now + q) 12 = tl := by rw [TC.out, HTL.out]
                  rw [hcc]
                  clear hcc
                  go_wp2_with fail
                  go_loopg [14, 15] tl (fun g s14 _ wx => ∃ k : Nat, k ≤ tl ∧ g = tl - k ∧ s14 = .int .i64 k ∧ Keeps NoB w4 wx)
                  case atStart => exact ⟨0, by omega, rfl, rfl, Keeps.refl _ _⟩
                  case round =>
                    obtain ⟨k, hk, rfl, rfl, hkp⟩ := hrel
                    have HKP := hide hkp
                    clear hkp
                    by_cases hk2 : k < tl
                    · obtain ⟨⟨xg, xo, sp⟩, hA, hs, _, _, hc⟩ := (HX.out.fresh HKP.out).reads.2 (by omega)
                      simp only at hs
                      subst hs hA
                      obtain ⟨q1, hq1⟩ : ∃ q1, ts[k]? = some q1 := ⟨_, List.getElem?_eq_getElem (by rw [HTL.out]; exact hk2)⟩
                      obtain ⟨p1, rfl, hp1, hlo1, hhi1, _⟩ := T1.out k q1 hq1
                      have x0 : wr.cell? ⟨xg, xo + k, none⟩ = some (.int .i64 (p1 : Int)) := (hc k _ (by simp [ints, hq1])).1
                      have g0 : wr.cell? ⟨cb + 1, p1, none⟩ = some (.int .i64 (dueAt D p1)) := by
                        rw [(HB4.out.keep HKP.out id).cell]; have := dueAt_get (D := D) (p := p1) (by rw [HDL.out]; exact hp1); simp [ints, this]
                      have hkz : (k : Int) < tl := by omega
                      have hk0 : (0 : Int) ≤ k := by omega
                      have hp1z : (p1 : Int) < 12 := by omega
                      have hp10 : (0 : Int) ≤ p1 := by omega
                      have hnp : ¬ (11 : Int) < (p1 : Int) := by omega
                      have HQ1 := hide hq1
                      have HCC := hide hc
                      clear hc hq1
                      rcases Nat.eq_zero_or_pos k with hk00 | hkp
                      · subst hk00
                        have hzz : ¬ (0 : Int) < 0 := by omega
                        have x1 : wr.cell? ⟨xg, xo, none⟩ = some (.int .i64 (p1 : Int)) := by simpa using x0
                        have hkz1 : (0 : Int) < tl := by omega
                        have z1 : decide ((p1 : Int) < 0) = false := by simp
                        have z2 : decide ((11 : Int) < (p1 : Int)) = false := by simp <;> omega
                        have z3 : decide (dueAt D p1 < 0) = false := by simp <;> omega
                        have z4 : decide (now + q < dueAt D p1) = false := by simp <;> omega
                        clear x0 hkz hk0
                        generalize dueAt D p1 = v1 at *
                        go_wp2_with (go_quiet (fail))
                        go_roundg (tl - 1)
                        case measure => omega
                        case rel => exact ⟨1, by omega, rfl, by go_num, HKP.out.drewN _⟩
                      · obtain ⟨j, rfl⟩ : ∃ j, k = j + 1 := ⟨k - 1, by omega⟩
                        obtain ⟨q2, hq2⟩ : ∃ q2, ts[j]? = some q2 := ⟨_, List.getElem?_eq_getElem (by rw [HTL.out]; omega)⟩
                        obtain ⟨p2, rfl, hp2, hlo2, hhi2, _⟩ := T1.out j q2 hq2
                        have x2 : wr.cell? ⟨xg, xo + j, none⟩ = some (.int .i64 (p2 : Int)) := (HCC.out j _ (by simp [ints, hq2])).1
                        have g2 : wr.cell? ⟨cb + 1, p2, none⟩ = some (.int .i64 (dueAt D p2)) := by
                          rw [(HB4.out.keep HKP.out id).cell]; have := dueAt_get (D := D) (p := p2) (by rw [HDL.out]; exact hp2); simp [ints, this]
                        have hup := T2.out j p2 p1 hq2 HQ1.out
                        have hp2z : (p2 : Int) < 12 := by omega
                        have hp20 : (0 : Int) ≤ p2 := by omega
                        have hkpz : (0 : Int) < (j : Int) + 1 := by omega
                        have E1 := hide (show IntKind.i64.wrap ((j : Int) + 1 - 1) = (j : Int) from by rw [show (j : Int) + 1 - 1 = j from by omega]; exact IntWalk.i64_in _ (by omega))
                        have z0 : decide ((0 : Int) < (j : Int) + 1) = true := by simp <;> omega
                        have z1 : decide ((p1 : Int) < 0) = false := by simp
                        have z2 : decide ((11 : Int) < (p1 : Int)) = false := by simp <;> omega
                        have z3 : decide (dueAt D p1 < 0) = false := by simp <;> omega
                        have z4 : decide (now + q < dueAt D p1) = false := by simp <;> omega
                        clear hq2
                        generalize dueAt D p1 = v1 at *
                        generalize dueAt D p2 = v2 at *
                        rcases hup with hup | ⟨hup, hup2⟩
                        · have b1 : (v2 == v1) = false := int_ne (by omega)
                          have b2 : decide (v1 < v2) = false := by simp <;> omega
                          have e1 := E1.out
                          as_aux_lemma =>
                          go_wp2_with (go_quiet (fail))
                          clear e1
                          go_roundg (tl - (j + 1 + 1))
                          case measure => omega
                          case rel => exact ⟨j + 1 + 1, by omega, rfl, by go_num, HKP.out.drewN _⟩
                        · subst hup
                          have b2 : decide (v2 < v2) = false := by simp
                          have b3 : decide ((p1 : Int) ≤ (p2 : Int)) = false := by simp <;> omega
                          have e1 := E1.out
                          as_aux_lemma =>
                          go_wp2_with (go_quiet (fail))
                          clear e1
                          go_roundg (tl - (j + 1 + 1))
                          case measure => omega
                          case rel => exact ⟨j + 1 + 1, by omega, rfl, by go_num, HKP.out.drewN _⟩
                    · obtain rfl : tl = k := by omega
                      have HB5 := hide (HB4.out.keep HKP.out id)
                      have HX5 := hide (HX.out.fresh HKP.out)
                      have HR5 := hide (HR4.out.fresh HKP.out)
                      have htne : ((tl : Int) != (tl : Int)) = false := by simp
                      clear HB4 HX HR4 HKP
                      generalize hw5 : wr = w5 at *
                      clear hw5
                      go_wp2_with fail
                      go_loopg [16] tl (fun g s16 wx => ∃ k : Nat, k ≤ tl ∧ g = tl - k ∧ s16 = .int .i64 k ∧ Keeps (fun j => j = cb + 1) w5 wx ∧ Blk wx (cb + 1) 50 (ints (resets D (ts.take k))).toArray)
                      case atStart => exact ⟨0, by omega, rfl, rfl, Keeps.refl _ _, HB5.out⟩
                      case round =>
                        obtain ⟨k, hk, rfl, rfl, hkp, hbk⟩ := hrel
                        have HKP := hide hkp; have HBK := hide hbk
                        clear hkp hbk
                        by_cases hk2 : k < tl
                        · obtain ⟨⟨xg, xo, sp⟩, hA, hs, _, _, hc⟩ := (HX5.out.keep HKP.out (fun j hj e => HXS.out (e ▸ hj))).reads.2 (by omega)
                          simp only at hs
                          subst hs hA
                          obtain ⟨q1, hq1⟩ : ∃ q1, ts[k]? = some q1 := ⟨_, List.getElem?_eq_getElem (by rw [HTL.out]; exact hk2)⟩
                          obtain ⟨p1, rfl, hp1, hlo1, hhi1, _⟩ := T1.out k q1 hq1
                          have x0 : wr.cell? ⟨xg, xo + k, none⟩ = some (.int .i64 (p1 : Int)) := (hc k _ (by simp [ints, hq1])).1
                          have hrl : (resets D (ts.take k)).length = 12 := by rw [resets_len, HDL.out]
                          have g0 : wr.cell? ⟨cb + 1, p1, none⟩ = some (.int .i64 (dueAt (resets D (ts.take k)) p1)) := by
                            rw [HBK.out.cell]; have := dueAt_get (D := resets D (ts.take k)) (p := p1) (by omega); simp [ints, this]
                          have f0 : wr.frozen? ⟨cb + 1, p1, none⟩ = false := HBK.out.free p1
                          have hkz : (k : Int) < tl := by omega
                          have hk0 : (0 : Int) ≤ k := by omega
                          have hp1z : (p1 : Int) < 12 := by omega
                          have hp10 : (0 : Int) ≤ p1 := by omega
                          have HB6 := hide (show Blk (wr.setCell ⟨cb + 1, p1, none⟩ (.int .i64 (-1))) (cb + 1) 50 (ints (resets D (ts.take (k + 1)))).toArray from by
                            have h := HBK.out.put p1 (.int .i64 (-1))
                            rw [ints_set] at h
                            rw [List.take_add_one, hq1]
                            show Blk _ _ _ (ints (resets D (ts.take k ++ [(p1 : Int)]))).toArray
                            rw [resets_snoc]; exact h)
                          have HK6 := hide (HKP.out.setCell (p := ⟨cb + 1, p1, none⟩) (.inl rfl) (.int .i64 (-1)))
                          generalize dueAt (resets D (ts.take k)) p1 = v1 at *
                          clear hc hq1 hrl hlo1 hhi1
                          go_wp2_with fail
                          go_roundg (tl - (k + 1))
                          case measure => omega
                          case rel => exact ⟨k + 1, by omega, rfl, by go_num, HK6.out, HB6.out⟩
                        · obtain rfl : tl = k := by omega
                          have HFIN := hide (show OnceInv w wr cb (cb + 1) (i + 1) (now + q) C2 n2 s' (resets D ts) from ⟨HR5.out.due HSEP.out HDB.out HKP.out, by have h := HBK.out; rw [List.take_of_length_le (by have := HTL.out; omega)] at h; exact h, TT.out, TN.out, HDB.out, by have := TL.out; omega, by omega, by omega⟩)
                          go_wp2_with fail
                          go_roundg (m - (i + 1))
                          case measure => omega
                          case rel => exact ⟨i + 1, now + q, C2, n2, s', resets D ts, by omega, rfl, rfl, by go_num, HFIN.out⟩
            · by_cases hd : 0 ≤ dueAt D p
              · as_aux_lemma =>
                have HOK := hide (show s.dropOk p = true from by rw [HI.out.rel.dropOk HI.out.run.at'.good hp12]; simp <;> omega)
                have HREL := hide (HI.out.rel.drop HI.out.run.at'.good hp12)
                have HC := hide (HI.out.cell hp12)
                have HL2 := hide (show (s.drop p).L.length ≤ i from by have := s.drop_len p; omega)
                have zb : decide (0 ≤ dueAt D p) = true := by simp <;> omega
                generalize hv : dueAt D p = v at *
                have HV := hide hv
                clear hv
                go_wp2_with fail
                refine order_begin (fun W => W.cell? ⟨cb + 1, p, none⟩ = some (.int .i64 v)) (fun _ => true) (by kernel_rfl) 8 rfl ?_
                have HS : wr.drew.drew.cell? ⟨cb + 1, p, none⟩ = some (.int .i64 v) := HC.out
                refine order_pure (i := 0) rfl (by kernel_rfl) (fun _ _ _ h => h) (.inl ⟨rfl, fun _ => by go_simp; rfl⟩) ?_
                try simp only [Act.put, List.setIfInBounds_toArray, List.set_cons_succ, List.set_cons_zero]
                refine order_pure (i := 1) rfl (by kernel_rfl) (fun _ _ _ h => h) (.inl ⟨rfl, fun _ => by go_simp; rfl⟩) ?_
                try simp only [Act.put, List.setIfInBounds_toArray, List.set_cons_succ, List.set_cons_zero]
                refine order_pure (i := 3) rfl (by kernel_rfl) (fun _ _ _ h => h) (.inl ⟨rfl, fun _ => by go_simp; rfl⟩) ?_
                try simp only [Act.put, List.setIfInBounds_toArray, List.set_cons_succ, List.set_cons_zero]
                refine order_pure (i := 4) rfl (by kernel_rfl) (fun _ _ _ h => h) (.inl ⟨rfl, fun _ => by go_simp; rfl⟩) ?_
                try simp only [Act.put, List.setIfInBounds_toArray, List.set_cons_succ, List.set_cons_zero]
                refine order_held (i := 5) rfl (by kernel_rfl) (fun _ _ _ h => h) (.inl ⟨rfl, fun W hW => by
                  have q0 : W.cell? ⟨cb + 1, p, none⟩ = some (.int .i64 v) := hW
                  go_simp; rfl⟩) HS ?_
                try simp only [Act.put, List.setIfInBounds_toArray, List.set_cons_succ, List.set_cons_zero]
                refine order_pure (i := 6) rfl (by kernel_rfl) (fun _ _ _ h => h) (.inl ⟨rfl, fun _ => by go_simp; rfl⟩) ?_
                try simp only [Act.put, List.setIfInBounds_toArray, List.set_cons_succ, List.set_cons_zero]
                refine order_one (i := 2) rfl (by kernel_rfl) (fun K hK => ?_)
                go_simp
                refine (drop_to cb _ C1 s (s.drop p) true p _ (HI.out.run.fresh ((Keeps.refl NoB wr).drew.drew)).at' (by omega) HOK.out rfl).mono ?_
                rintro e w4 ⟨C2, n2, rfl, h1, h2, h3⟩
                refine hK _ _ (fun _ h => h2.cell (p := ⟨cb + 1, p, none⟩) HI.out.sep h) ?_
                clear hK HS
                have HR4 := hide ((HI.out.run.fresh ((Keeps.refl NoB wr).drew.drew)).turn h1 h2 h3)
                have hb4 := HI.out.blk.drew.drew.keep h2 HI.out.sep
                have HSEP := hide (show ¬ clkFp cb C2 (cb + 1) from by
                  rintro (e | hr)
                  · omega
                  · exact h1.row.ne hb4 (by decide) hr)
                have g0 : w4.cell? ⟨cb + 1, p, none⟩ = some (.int .i64 v) := h2.cell (p := ⟨cb + 1, p, none⟩) HI.out.sep HC.out
                have f0 : w4.frozen? ⟨cb + 1, p, none⟩ = false := hb4.free p
                have HFIN := hide (show OnceInv w (w4.setCell ⟨cb + 1, p, none⟩ (.int .i64 (-1))) cb (cb + 1) (i + 1) now C2 n2 (s.drop p) (D.set p (-1)) from
                  ⟨HR4.out.due HSEP.out HI.out.hdb ((Keeps.refl (fun j => j = cb + 1) w4).setCell (p := ⟨cb + 1, p, none⟩) (.inl rfl) (.int .i64 (-1))), by have h := hb4.put p (.int .i64 (-1)); rw [ints_set] at h; exact h, HREL.out, HI.out.hnow, HI.out.hdb, by have := HL2.out; omega, by omega, by omega⟩)
                clear h1 h2 h3 hb4 HI
                try simp only [Act.put, List.setIfInBounds_toArray, List.set_cons_succ, List.set_cons_zero]
                refine order_pure (i := 7) rfl (by kernel_rfl) (fun _ _ _ h => h) (.inl ⟨rfl, fun _ => by go_simp; rfl⟩) ?_
                try simp only [Act.put, List.setIfInBounds_toArray, List.set_cons_succ, List.set_cons_zero]
                refine order_done (by kernel_rfl) ?_
                go_wp2_with fail
                go_roundg (m - (i + 1))
                case measure => omega
                case rel => exact ⟨i + 1, now, C2, n2, s.drop p, D.set p (-1), by omega, rfl, rfl, by go_num, HFIN.out⟩
              · as_aux_lemma =>
                have HOK := hide (show s.dropOk p = false from by rw [HI.out.rel.dropOk HI.out.run.at'.good hp12]; simp <;> omega)
                have HREL := hide (HI.out.rel.drop HI.out.run.at'.good hp12)
                have HC := hide (HI.out.cell hp12)
                have HL2 := hide (show (s.drop p).L.length ≤ i from by have := s.drop_len p; omega)
                have zb : decide (0 ≤ dueAt D p) = false := by simp <;> omega
                generalize hv : dueAt D p = v at *
                have HV := hide hv
                clear hv
                go_wp2_with fail
                refine order_begin (fun W => W.cell? ⟨cb + 1, p, none⟩ = some (.int .i64 v)) (fun _ => true) (by kernel_rfl) 8 rfl ?_
                have HS : wr.drew.drew.cell? ⟨cb + 1, p, none⟩ = some (.int .i64 v) := HC.out
                refine order_pure (i := 0) rfl (by kernel_rfl) (fun _ _ _ h => h) (.inl ⟨rfl, fun _ => by go_simp; rfl⟩) ?_
                try simp only [Act.put, List.setIfInBounds_toArray, List.set_cons_succ, List.set_cons_zero]
                refine order_pure (i := 1) rfl (by kernel_rfl) (fun _ _ _ h => h) (.inl ⟨rfl, fun _ => by go_simp; rfl⟩) ?_
                try simp only [Act.put, List.setIfInBounds_toArray, List.set_cons_succ, List.set_cons_zero]
                refine order_pure (i := 3) rfl (by kernel_rfl) (fun _ _ _ h => h) (.inl ⟨rfl, fun _ => by go_simp; rfl⟩) ?_
                try simp only [Act.put, List.setIfInBounds_toArray, List.set_cons_succ, List.set_cons_zero]
                refine order_pure (i := 4) rfl (by kernel_rfl) (fun _ _ _ h => h) (.inl ⟨rfl, fun _ => by go_simp; rfl⟩) ?_
                try simp only [Act.put, List.setIfInBounds_toArray, List.set_cons_succ, List.set_cons_zero]
                refine order_held (i := 5) rfl (by kernel_rfl) (fun _ _ _ h => h) (.inl ⟨rfl, fun W hW => by
                  have q0 : W.cell? ⟨cb + 1, p, none⟩ = some (.int .i64 v) := hW
                  go_simp; rfl⟩) HS ?_
                try simp only [Act.put, List.setIfInBounds_toArray, List.set_cons_succ, List.set_cons_zero]
                refine order_pure (i := 6) rfl (by kernel_rfl) (fun _ _ _ h => h) (.inl ⟨rfl, fun _ => by go_simp; rfl⟩) ?_
                try simp only [Act.put, List.setIfInBounds_toArray, List.set_cons_succ, List.set_cons_zero]
                refine order_one (i := 2) rfl (by kernel_rfl) (fun K hK => ?_)
                go_simp
                refine (drop_to cb _ C1 s (s.drop p) false p _ (HI.out.run.fresh ((Keeps.refl NoB wr).drew.drew)).at' (by omega) HOK.out rfl).mono ?_
                rintro e w4 ⟨C2, n2, rfl, h1, h2, h3⟩
                refine hK _ _ (fun _ h => h2.cell (p := ⟨cb + 1, p, none⟩) HI.out.sep h) ?_
                clear hK HS
                have HR4 := hide ((HI.out.run.fresh ((Keeps.refl NoB wr).drew.drew)).turn h1 h2 h3)
                have hb4 := HI.out.blk.drew.drew.keep h2 HI.out.sep
                have HSEP := hide (show ¬ clkFp cb C2 (cb + 1) from by
                  rintro (e | hr)
                  · omega
                  · exact h1.row.ne hb4 (by decide) hr)
                have g0 : w4.cell? ⟨cb + 1, p, none⟩ = some (.int .i64 v) := h2.cell (p := ⟨cb + 1, p, none⟩) HI.out.sep HC.out
                have f0 : w4.frozen? ⟨cb + 1, p, none⟩ = false := hb4.free p
                have HFIN := hide (show OnceInv w (w4.setCell ⟨cb + 1, p, none⟩ (.int .i64 (-1))) cb (cb + 1) (i + 1) now C2 n2 (s.drop p) (D.set p (-1)) from
                  ⟨HR4.out.due HSEP.out HI.out.hdb ((Keeps.refl (fun j => j = cb + 1) w4).setCell (p := ⟨cb + 1, p, none⟩) (.inl rfl) (.int .i64 (-1))), by have h := hb4.put p (.int .i64 (-1)); rw [ints_set] at h; exact h, HREL.out, HI.out.hnow, HI.out.hdb, by have := HL2.out; omega, by omega, by omega⟩)
                clear h1 h2 h3 hb4 HI
                try simp only [Act.put, List.setIfInBounds_toArray, List.set_cons_succ, List.set_cons_zero]
                refine order_pure (i := 7) rfl (by kernel_rfl) (fun _ _ _ h => h) (.inl ⟨rfl, fun _ => by go_simp; rfl⟩) ?_
                try simp only [Act.put, List.setIfInBounds_toArray, List.set_cons_succ, List.set_cons_zero]
                refine order_done (by kernel_rfl) ?_
                go_wp2_with fail
                go_roundg (m - (i + 1))
                case measure => omega
                case rel => exact ⟨i + 1, now, C2, n2, s.drop p, D.set p (-1), by omega, rfl, rfl, by go_num, HFIN.out⟩
            · have hne0 := int_ne (show r ≠ 0 by omega)
              have hne1 := int_ne (show r ≠ 1 by omega)
              have hne2 := int_ne (show r ≠ 2 by omega)
              by_cases hd : dueAt D p < 0
              · as_aux_lemma =>
                have HOK := hide (show s.setOk p q = true from by rw [HI.out.rel.setOk HI.out.run.at'.good hp12 hq0 hq1]; simp <;> omega)
                have HREL := hide (show OnceRel (D.set p (now + q)) (s.set p q) from (by have h := HI.out.rel.set HI.out.run.at'.good hp12 hq0 hq1 hd; rw [HI.out.hnow] at h; exact h))
                have HC := hide (HI.out.cell hp12)
                have HL2 := hide (show (s.set p q).L.length ≤ i + 1 from by have := s.set_len p q; omega)
                have HN2 := hide (show (s.set p q).now = now from by rw [← HI.out.hnow]; unfold St.set; split <;> rfl)
                have zb : decide (dueAt D p < 0) = true := by simp <;> omega
                generalize hv : dueAt D p = v at *
                have HV := hide hv
                clear hv
                go_wp2_with fail
                refine order_begin (fun W => W.cell? ⟨cb + 1, p, none⟩ = some (.int .i64 v)) (fun _ => true) (by kernel_rfl) 9 rfl ?_
                have HS : wr.drew.drew.cell? ⟨cb + 1, p, none⟩ = some (.int .i64 v) := HC.out
                refine order_pure (i := 0) rfl (by kernel_rfl) (fun _ _ _ h => h) (.inl ⟨rfl, fun _ => by go_simp; rfl⟩) ?_
                try simp only [Act.put, List.setIfInBounds_toArray, List.set_cons_succ, List.set_cons_zero]
                refine order_pure (i := 1) rfl (by kernel_rfl) (fun _ _ _ h => h) (.inl ⟨rfl, fun _ => by go_simp; rfl⟩) ?_
                try simp only [Act.put, List.setIfInBounds_toArray, List.set_cons_succ, List.set_cons_zero]
                refine order_pure (i := 2) rfl (by kernel_rfl) (fun _ _ _ h => h) (.inl ⟨rfl, fun _ => by go_simp; rfl⟩) ?_
                try simp only [Act.put, List.setIfInBounds_toArray, List.set_cons_succ, List.set_cons_zero]
                refine order_pure (i := 4) rfl (by kernel_rfl) (fun _ _ _ h => h) (.inl ⟨rfl, fun _ => by go_simp; rfl⟩) ?_
                try simp only [Act.put, List.setIfInBounds_toArray, List.set_cons_succ, List.set_cons_zero]
                refine order_pure (i := 5) rfl (by kernel_rfl) (fun _ _ _ h => h) (.inl ⟨rfl, fun _ => by go_simp; rfl⟩) ?_
                try simp only [Act.put, List.setIfInBounds_toArray, List.set_cons_succ, List.set_cons_zero]
                refine order_held (i := 6) rfl (by kernel_rfl) (fun _ _ _ h => h) (.inl ⟨rfl, fun W hW => by
                  have q0 : W.cell? ⟨cb + 1, p, none⟩ = some (.int .i64 v) := hW
                  go_simp; rfl⟩) HS ?_
                try simp only [Act.put, List.setIfInBounds_toArray, List.set_cons_succ, List.set_cons_zero]
                refine order_pure (i := 7) rfl (by kernel_rfl) (fun _ _ _ h => h) (.inl ⟨rfl, fun _ => by go_simp; rfl⟩) ?_
                try simp only [Act.put, List.setIfInBounds_toArray, List.set_cons_succ, List.set_cons_zero]
                refine order_one (i := 3) rfl (by kernel_rfl) (fun K hK => ?_)
                go_simp
                refine (set_to cb _ C1 s (s.set p q) true p q _ (HI.out.run.fresh ((Keeps.refl NoB wr).drew.drew)).at' (by omega) HOK.out rfl).mono ?_
                rintro e w4 ⟨C2, n2, rfl, h1, h2, h3⟩
                refine hK _ _ (fun _ h => h2.cell (p := ⟨cb + 1, p, none⟩) HI.out.sep h) ?_
                clear hK HS
                have HR4 := hide ((HI.out.run.fresh ((Keeps.refl NoB wr).drew.drew)).turn h1 h2 h3)
                have hb4 := HI.out.blk.drew.drew.keep h2 HI.out.sep
                have HSEP := hide (show ¬ clkFp cb C2 (cb + 1) from by
                  rintro (e | hr)
                  · omega
                  · exact h1.row.ne hb4 (by decide) hr)
                have g0 : w4.cell? ⟨cb + 1, p, none⟩ = some (.int .i64 v) := h2.cell (p := ⟨cb + 1, p, none⟩) HI.out.sep HC.out
                have f0 : w4.frozen? ⟨cb + 1, p, none⟩ = false := hb4.free p
                have HFIN := hide (show OnceInv w (w4.setCell ⟨cb + 1, p, none⟩ (.int .i64 (now + q))) cb (cb + 1) (i + 1) now C2 n2 (s.set p q) (D.set p (now + q)) from
                  ⟨HR4.out.due HSEP.out HI.out.hdb ((Keeps.refl (fun j => j = cb + 1) w4).setCell (p := ⟨cb + 1, p, none⟩) (.inl rfl) (.int .i64 (now + q))), by have h := hb4.put p (.int .i64 (now + q)); rw [ints_set] at h; exact h, HREL.out, HN2.out, HI.out.hdb, HL2.out, by omega, by omega⟩)
                clear h1 h2 h3 hb4 HI
                try simp only [Act.put, List.setIfInBounds_toArray, List.set_cons_succ, List.set_cons_zero]
                refine order_pure (i := 8) rfl (by kernel_rfl) (fun _ _ _ h => h) (.inl ⟨rfl, fun _ => by go_simp; rfl⟩) ?_
                try simp only [Act.put, List.setIfInBounds_toArray, List.set_cons_succ, List.set_cons_zero]
                refine order_done (by kernel_rfl) ?_
                go_wp2_with fail
                go_roundg (m - (i + 1))
                case measure => omega
                case rel => exact ⟨i + 1, now, C2, n2, s.set p q, D.set p (now + q), by omega, rfl, rfl, by go_num, HFIN.out⟩
              · as_aux_lemma =>
                have HOK := hide (show s.setOk p q = false from by rw [HI.out.rel.setOk HI.out.run.at'.good hp12 hq0 hq1]; simp <;> omega)
                have HREL := hide (show OnceRel (D) (s.set p q) from (by have h := HI.out.rel; rw [← HI.out.rel.set_no HI.out.run.at'.good hp12 hq0 hq1 hd] at h; exact h))
                have HC := hide (HI.out.cell hp12)
                have HL2 := hide (show (s.set p q).L.length ≤ i + 1 from by have := s.set_len p q; omega)
                have HN2 := hide (show (s.set p q).now = now from by rw [← HI.out.hnow]; unfold St.set; split <;> rfl)
                have zb : decide (dueAt D p < 0) = false := by simp <;> omega
                generalize hv : dueAt D p = v at *
                have HV := hide hv
                clear hv
                go_wp2_with fail
                refine order_begin (fun W => W.cell? ⟨cb + 1, p, none⟩ = some (.int .i64 v)) (fun _ => true) (by kernel_rfl) 9 rfl ?_
                have HS : wr.drew.drew.cell? ⟨cb + 1, p, none⟩ = some (.int .i64 v) := HC.out
                refine order_pure (i := 0) rfl (by kernel_rfl) (fun _ _ _ h => h) (.inl ⟨rfl, fun _ => by go_simp; rfl⟩) ?_
                try simp only [Act.put, List.setIfInBounds_toArray, List.set_cons_succ, List.set_cons_zero]
                refine order_pure (i := 1) rfl (by kernel_rfl) (fun _ _ _ h => h) (.inl ⟨rfl, fun _ => by go_simp; rfl⟩) ?_
                try simp only [Act.put, List.setIfInBounds_toArray, List.set_cons_succ, List.set_cons_zero]
                refine order_pure (i := 2) rfl (by kernel_rfl) (fun _ _ _ h => h) (.inl ⟨rfl, fun _ => by go_simp; rfl⟩) ?_
                try simp only [Act.put, List.setIfInBounds_toArray, List.set_cons_succ, List.set_cons_zero]
                refine order_pure (i := 4) rfl (by kernel_rfl) (fun _ _ _ h => h) (.inl ⟨rfl, fun _ => by go_simp; rfl⟩) ?_
                try simp only [Act.put, List.setIfInBounds_toArray, List.set_cons_succ, List.set_cons_zero]
                refine order_pure (i := 5) rfl (by kernel_rfl) (fun _ _ _ h => h) (.inl ⟨rfl, fun _ => by go_simp; rfl⟩) ?_
                try simp only [Act.put, List.setIfInBounds_toArray, List.set_cons_succ, List.set_cons_zero]
                refine order_held (i := 6) rfl (by kernel_rfl) (fun _ _ _ h => h) (.inl ⟨rfl, fun W hW => by
                  have q0 : W.cell? ⟨cb + 1, p, none⟩ = some (.int .i64 v) := hW
                  go_simp; rfl⟩) HS ?_
                try simp only [Act.put, List.setIfInBounds_toArray, List.set_cons_succ, List.set_cons_zero]
                refine order_pure (i := 7) rfl (by kernel_rfl) (fun _ _ _ h => h) (.inl ⟨rfl, fun _ => by go_simp; rfl⟩) ?_
                try simp only [Act.put, List.setIfInBounds_toArray, List.set_cons_succ, List.set_cons_zero]
                refine order_one (i := 3) rfl (by kernel_rfl) (fun K hK => ?_)
                go_simp
                refine (set_to cb _ C1 s (s.set p q) false p q _ (HI.out.run.fresh ((Keeps.refl NoB wr).drew.drew)).at' (by omega) HOK.out rfl).mono ?_
                rintro e w4 ⟨C2, n2, rfl, h1, h2, h3⟩
                refine hK _ _ (fun _ h => h2.cell (p := ⟨cb + 1, p, none⟩) HI.out.sep h) ?_
                clear hK HS
                have HR4 := hide ((HI.out.run.fresh ((Keeps.refl NoB wr).drew.drew)).turn h1 h2 h3)
                have hb4 := HI.out.blk.drew.drew.keep h2 HI.out.sep
                have HSEP := hide (show ¬ clkFp cb C2 (cb + 1) from by
                  rintro (e | hr)
                  · omega
                  · exact h1.row.ne hb4 (by decide) hr)
                have g0 : w4.cell? ⟨cb + 1, p, none⟩ = some (.int .i64 v) := h2.cell (p := ⟨cb + 1, p, none⟩) HI.out.sep HC.out
                have f0 : w4.frozen? ⟨cb + 1, p, none⟩ = false := hb4.free p
                have HFIN := hide (show OnceInv w w4 cb (cb + 1) (i + 1) now C2 n2 (s.set p q) (D) from
                  ⟨HR4.out, hb4, HREL.out, HN2.out, HI.out.hdb, HL2.out, by omega, by omega⟩)
                clear h1 h2 h3 hb4 HI
                try simp only [Act.put, List.setIfInBounds_toArray, List.set_cons_succ, List.set_cons_zero]
                refine order_pure (i := 8) rfl (by kernel_rfl) (fun _ _ _ h => h) (.inl ⟨rfl, fun _ => by go_simp; rfl⟩) ?_
                try simp only [Act.put, List.setIfInBounds_toArray, List.set_cons_succ, List.set_cons_zero]
                refine order_done (by kernel_rfl) ?_
                go_wp2_with fail
                go_roundg (m - (i + 1))
                case measure => omega
                case rel => exact ⟨i + 1, now, C2, n2, s.set p q, D, by omega, rfl, rfl, by go_num, HFIN.out⟩
          · have hi1 : ¬ (i : Int) < (m : Int) := by omega
            go_wp2_with fail
            go_ret
            exact ⟨rfl, HI.out.run.keep⟩
end Go.Proofs.Ytaiphjgklfioeaa
