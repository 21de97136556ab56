/- The document's links in memory: End. -/
import Derived.Test.YtjmljjmnamfljaaGreatRef4
import Derived.Test.YtjmljjmnamfljaaGreatOnceLaw
namespace Go.Proofs.YtjmljjmnamfljaaGreat
set_option maxRecDepth 100000
open Go.RowKit Go.Maps

/-- The document's links, and what they tell. -/
def Stands (w : World) (r : Nat) (A : Option Addr) (c : Nat) (B : Option Addr) (d : Nat) (L : LK) (M : List Mon) : Prop := ∃ P, RefAt w r A c B d P M ∧ Rel P L ∧ P.length ≤ 1000000
def REndPost (w : World) (r : Nat) (A B : Option Addr) (P : List Pr) (L : LK) (M : List Mon) (a : Int) (e : Ending) (w' : World) : Prop :=
  ∃ X cX Y cY A' c' B' d' P', e = .returned (.tuple #[.slice X (L a).length cX, .slice Y (toldM a M).length cY]) ∧ Slab w' 3 1 X (L a).length cX (intC (L a)) ∧ Slab w' 108 3 Y (toldM a M).length cY (mons (toldM a M)) ∧
    RefAt w' r A' c' B' d' P' (endM a M) ∧ Rel P' (endL a L) ∧ P'.length ≤ P.length ∧ Keeps (refFp r A B) w w' ∧ Moved w A A' ∧ Moved w B B'
set_option maxRecDepth 100000 in
set_option maxHeartbeats 8000000 in
theorem rend_any (w : World) (r c d : Nat) (A B : Option Addr) (P : List Pr) (L : LK) (M : List Mon) (a : Int) (h : RefAt w r A c B d P M) (hP : P.length ≤ 1000000) (hM : M.length ≤ 1000000) (hrel : Rel P L) (hg : Good L) : Calls Tryz.prog 22 #[.pointer (some ⟨r, 0, none⟩), .int .i64 a] w (REndPost w r A B P L M a) := by
  obtain ⟨i0, ni0, nz0, nz1, nz2⟩ := info_parts Tryz.info108
  have H := hide h; have HREL := hide hrel; have HG := hide hg
  obtain ⟨n, hn⟩ : ∃ n, M.length = n := ⟨_, rfl⟩
  have HN := hide hn
  rw [hn] at hM
  obtain ⟨l, hl⟩ : ∃ l, L a = l := ⟨_, rfl⟩
  obtain ⟨q, hq⟩ : ∃ q, l.length = q := ⟨_, rfl⟩
  have HL := hide hl; have HLQ := hide hq
  have hq6 : q ≤ 1000000 := by
    rw [← hq, ← hl, ← ofR_eq hrel hg a]; exact Nat.le_trans (ofR_len _ _) hP
  clear h hn hrel hg hl hq
  go_enter Tryz.func22, Tryz.ntmps22
  go_wp2_with
    first
    | (go_at_call 54
       refine (rof_any w r c d A B P M L a H.out hP HREL.out).mono ?_
       rintro e w1 ⟨X, cX, rfl, h1, hk, hf⟩
       rw [ofR_eq HREL.out HG.out a, HL.out, HLQ.out] at h1
       rw [ofR_eq HREL.out HG.out a, HL.out, HLQ.out]
       have HX := hide h1
       have HK1 := hide hk
       have HXF := hide hf
       have H1 := hide (H.out.fresh hk)
       clear h1 hk hf H)
    | fail
  go_loopg [7, 8, 9] n (fun g s7 s8 s9 wx => ∃ (k : Nat) (Y : Option Addr) (cY : Nat) (Z : Option Addr) (cZ : Nat), k ≤ n ∧ g = n - k ∧ s9 = .int .i64 k ∧ s7 = .slice Y (toldM a (M.take k)).length cY ∧ s8 = .slice Z (endM a (M.take k)).length cZ ∧ Slab wx 108 3 Y (toldM a (M.take k)).length cY (mons (toldM a (M.take k))) ∧ Slab wx 108 3 Z (endM a (M.take k)).length cZ (mons (endM a (M.take k))) ∧ Keeps NoB w1 wx ∧ (∀ k, rowB Y k → w1.heap.size ≤ k) ∧ (∀ k, rowB Z k → w1.heap.size ≤ k) ∧ ∀ k, rowB Y k → rowB Z k → False)
  case atStart => exact ⟨0, none, 0, none, 0, Nat.zero_le _, rfl, rfl, rfl, rfl, Slab.nil _ _ _, Slab.nil _ _ _, Keeps.refl _ _, (fun k ⟨o, e⟩ => by cases e), (fun k ⟨o, e⟩ => by cases e), fun k ⟨o, e⟩ => by cases e⟩
  case round =>
    obtain ⟨k, Y, cY, Z, cZ, hk, rfl, rfl, rfl, rfl, hy, hz, hkp, hny, hnz, hyz⟩ := hrel
    have HY := hide hy; have HZ := hide hz; have HKP := hide hkp; have HNY := hide hny; have HNZ := hide hnz; have HYZ := hide hyz
    have HR := hide (H1.out.fresh hkp)
    clear hy hz hkp hny hnz hyz
    have hk0 : (0 : Int) ≤ k := by omega
    have k0 : wr.cell? ⟨r, 1, none⟩ = some (.slice B n d) := by rw [← HN.out]; exact HR.out.blk.cell 1
    by_cases hkn : k < n
    · have hkz : (k : Int) < n := by omega
      obtain ⟨x, hx⟩ : ∃ x, M[k]? = some x := ⟨_, List.getElem?_eq_getElem (by have := HN.out; omega)⟩
      obtain ⟨g, o, hB, p0, p1, p2⟩ := mon_reads HR.out.two.reads hx
      subst hB
      have HTT := hide (told_take (a := a) hx); have HET := hide (endM_take (a := a) hx)
      have htl := told_len (a := a) (M := M) k
      have hel : (endM a (M.take k)).length ≤ k := filter_take_len _ _
      obtain ⟨T0, hT0⟩ : ∃ T0, toldM a (M.take k) = T0 := ⟨_, rfl⟩
      obtain ⟨E0, hE0⟩ : ∃ E0, endM a (M.take k) = E0 := ⟨_, rfl⟩
      rw [hT0] at HY HTT htl ⊢
      rw [hE0] at HZ HET hel ⊢
      obtain ⟨r', wh, wm⟩ := x
      simp only at p0 p1 p2
      clear hx hT0 hE0
      have hka : Keeps NoB wr (wr.alloc (.cells #[.int .i64 r', .int .i64 wh, .int .i64 wm] 108)) := (Keeps.refl NoB wr).alloc _
      have HYA := hide (HY.out.fresh hka); have HZA := hide (HZ.out.fresh hka)
      have HKA := hide (HKP.out.alloc (.cells #[.int .i64 r', .int .i64 wh, .int .i64 wm] 108))
      have HPA := hide (Blk.new wr 108 #[.int .i64 r', .int .i64 wh, .int .i64 wm])
      have HSZ := hide (show w1.heap.size ≤ wr.heap.size from HKP.out.size)
      have HYL := hide (show ∀ k, rowB Y k → k < wr.heap.size from fun k hr => HY.out.lt hr)
      have HZL := hide (show ∀ k, rowB Z k → k < wr.heap.size from fun k hr => HZ.out.lt hr)
      clear hka HY HZ HKP HR
      by_cases hwm : wm = a
      · have hq1 : (wm == a) = true := by simpa using hwm
        have hq1' : (wm != a) = false := by simp [hwm]
        have HT2 := hide (show toldM a (M.take (k + 1)) = T0 ++ [⟨r', wh, wm⟩] from by rw [HTT.out, if_pos hwm])
        have HE2 := hide (show endM a (M.take (k + 1)) = E0 from by rw [HET.out, if_neg (by unfold keepM; simp [hwm]), List.append_nil])
        clear hwm HTT HET
        go_wp2_with
          first
          |
            (at_builtin
             have hkc : Keeps NoB (wr.alloc (.cells #[.int .i64 r', .int .i64 wh, .int .i64 wm] 108)) ((wr.alloc (.cells #[.int .i64 r', .int .i64 wh, .int .i64 wm] 108)).alloc (.cells #[.int .i64 r', .int .i64 wh, .int .i64 wm] 108)) := (Keeps.refl NoB _).alloc _
             have HRD := hide (show Reads ((wr.alloc (.cells #[.int .i64 r', .int .i64 wh, .int .i64 wm] 108)).alloc (.cells #[.int .i64 r', .int .i64 wh, .int .i64 wm] 108)) (fun _ => True) true 3 (some ⟨wr.heap.size + 1, 0, none⟩) 1 [.int .i64 r', .int .i64 wh, .int .i64 wm] from by
               have := three_reads (Blk.new (wr.alloc (.cells #[.int .i64 r', .int .i64 wh, .int .i64 wm] 108)) 108 #[.int .i64 r', .int .i64 wh, .int .i64 wm])
               rwa [World.size_alloc] at this)
             refine wpList_append_any _ rfl (.tmp 35) (.tmp 37) 39 rfl 108 i0 _ 3 24 Tryz.underlying39 ni0 nz0 nz1 nz2 rfl (by omega) Y T0.length cY (mons T0) rfl (HYA.out.fresh hkc) (fun _ => True) true (some ⟨wr.heap.size + 1, 0, none⟩) 1 1 [.int .i64 r', .int .i64 wh, .int .i64 wm] rfl HRD.out (mons_ones [⟨r', wh, wm⟩]) (by unfold maxLen; omega) (by omega) ?_
             intro S3 c3 w3 hs3 hk3 hm3
             have HS3 := hide hs3
             have HO3 := hide ((HZA.out.fresh hkc).keep hk3 (fun k h1 h2 => HYZ.out k h2 h1))
             have HP3 := hide ((HPA.out.keep hkc id).keep hk3 (fun e => by have := HYL.out _ e; omega))
             have HK3 := hide ((HKA.out.alloc (.cells #[.int .i64 r', .int .i64 wh, .int .i64 wm] 108)).trans' hk3 (fun _ _ h => h) (fun j hj hr => by have := HNY.out j hr; omega))
             have HN3 := hide (show ∀ k, rowB S3 k → w1.heap.size ≤ k from fun k hr => (hm3 k hr).elim (HNY.out k) (fun e => by rw [World.size_alloc, World.size_alloc] at e; have := HSZ.out; omega))
             have HD3 := hide (show ∀ k, rowB S3 k → rowB Z k → False from fun k h1 h2 => (hm3 k h1).elim (fun e => HYZ.out k e h2) (fun e => by rw [World.size_alloc, World.size_alloc] at e; have := HZL.out k h2; omega))
             have c1' : w3.cell? ⟨wr.heap.size, 1, none⟩ = some (.int .i64 wh) := HP3.out.cell 1
             have c2' : w3.cell? ⟨wr.heap.size, 2, none⟩ = some (.int .i64 wm) := HP3.out.cell 2
             clear hs3 hk3 hm3 hkc HRD)
          | fail
        go_roundg (n - (k + 1))
        case measure => omega
        case rel => exact ⟨k + 1, S3, c3, Z, cZ, by omega, rfl, by go_num, by rw [HT2.out, List.length_append]; rfl, by rw [HE2.out], by rw [HT2.out, List.length_append, mons_append]; exact HS3.out, by rw [HE2.out]; exact HO3.out, HK3.out, HN3.out, HNZ.out, HD3.out⟩
      · have hq1 : (wm == a) = false := by simpa using hwm
        have hq1' : (wm != a) = true := by simpa using hwm
        have HT2 := hide (show toldM a (M.take (k + 1)) = T0 from by rw [HTT.out, if_neg hwm, List.append_nil])
        by_cases hwh : wh = a
        · have hq2 : (wh == a) = true := by simpa using hwh
          have hq2' : (wh != a) = false := by simp [hwh]
          have HE2 := hide (show endM a (M.take (k + 1)) = E0 from by rw [HET.out, if_neg (by unfold keepM; simp [hwh]), List.append_nil])
          clear hwm hwh HTT HET
          go_wp2_with fail
          go_roundg (n - (k + 1))
          case measure => omega
          case rel => exact ⟨k + 1, Y, cY, Z, cZ, by omega, rfl, by go_num, by rw [HT2.out], by rw [HE2.out], by rw [HT2.out]; exact HYA.out, by rw [HE2.out]; exact HZA.out, HKA.out, HNY.out, HNZ.out, HYZ.out⟩
        · have hq2 : (wh == a) = false := by simpa using hwh
          have hq2' : (wh != a) = true := by simpa using hwh
          have HE2 := hide (show endM a (M.take (k + 1)) = E0 ++ [⟨r', wh, wm⟩] from by rw [HET.out, if_pos (by unfold keepM; simp [hwh, hwm])])
          clear hwm hwh HTT HET
          go_wp2_with
            first
            |
              (at_builtin
               have hkc : Keeps NoB (wr.alloc (.cells #[.int .i64 r', .int .i64 wh, .int .i64 wm] 108)) ((wr.alloc (.cells #[.int .i64 r', .int .i64 wh, .int .i64 wm] 108)).alloc (.cells #[.int .i64 r', .int .i64 wh, .int .i64 wm] 108)) := (Keeps.refl NoB _).alloc _
               have HRD := hide (show Reads ((wr.alloc (.cells #[.int .i64 r', .int .i64 wh, .int .i64 wm] 108)).alloc (.cells #[.int .i64 r', .int .i64 wh, .int .i64 wm] 108)) (fun _ => True) true 3 (some ⟨wr.heap.size + 1, 0, none⟩) 1 [.int .i64 r', .int .i64 wh, .int .i64 wm] from by
                 have := three_reads (Blk.new (wr.alloc (.cells #[.int .i64 r', .int .i64 wh, .int .i64 wm] 108)) 108 #[.int .i64 r', .int .i64 wh, .int .i64 wm])
                 rwa [World.size_alloc] at this)
               refine wpList_append_any _ rfl (.tmp 49) (.tmp 51) 39 rfl 108 i0 _ 3 24 Tryz.underlying39 ni0 nz0 nz1 nz2 rfl (by omega) Z E0.length cZ (mons E0) rfl (HZA.out.fresh hkc) (fun _ => True) true (some ⟨wr.heap.size + 1, 0, none⟩) 1 1 [.int .i64 r', .int .i64 wh, .int .i64 wm] rfl HRD.out (mons_ones [⟨r', wh, wm⟩]) (by unfold maxLen; omega) (by omega) ?_
               intro S3 c3 w3 hs3 hk3 hm3
               have HS3 := hide hs3
               have HO3 := hide ((HYA.out.fresh hkc).keep hk3 (fun k h1 h2 => HYZ.out k h1 h2))
               have HP3 := hide ((HPA.out.keep hkc id).keep hk3 (fun e => by have := HZL.out _ e; omega))
               have HK3 := hide ((HKA.out.alloc (.cells #[.int .i64 r', .int .i64 wh, .int .i64 wm] 108)).trans' hk3 (fun _ _ h => h) (fun j hj hr => by have := HNZ.out j hr; omega))
               have HN3 := hide (show ∀ k, rowB S3 k → w1.heap.size ≤ k from fun k hr => (hm3 k hr).elim (HNZ.out k) (fun e => by rw [World.size_alloc, World.size_alloc] at e; have := HSZ.out; omega))
               have HD3 := hide (show ∀ k, rowB S3 k → rowB Y k → False from fun k h1 h2 => (hm3 k h1).elim (fun e => HYZ.out k h2 e) (fun e => by rw [World.size_alloc, World.size_alloc] at e; have := HYL.out k h2; omega))
               have c1' : w3.cell? ⟨wr.heap.size, 1, none⟩ = some (.int .i64 wh) := HP3.out.cell 1
               have c2' : w3.cell? ⟨wr.heap.size, 2, none⟩ = some (.int .i64 wm) := HP3.out.cell 2
               clear hs3 hk3 hm3 hkc HRD)
            | fail
          go_roundg (n - (k + 1))
          case measure => omega
          case rel => exact ⟨k + 1, Y, cY, S3, c3, by omega, rfl, by go_num, by rw [HT2.out], by rw [HE2.out, List.length_append]; rfl, by rw [HT2.out]; exact HO3.out, by rw [HE2.out, List.length_append, mons_append]; exact HS3.out, HK3.out, HNY.out, HN3.out, fun k h1 h2 => HD3.out k h2 h1⟩
    · obtain rfl : k = n := by omega
      have hkz : ¬ (k : Int) < k := by omega
      have e1 : M.take k = M := List.take_of_length_le (by have := HN.out; omega)
      rw [e1] at HY HZ ⊢
      have HF := hide (ref_set1 (A' := Z) (n' := (endM a M).length) (c' := cZ) (M' := endM a M) H1.out HKP.out (fun _ h => h.elim) (Moved.new HNZ.out) HZ.out rfl)
      have f0 : wr.frozen? ⟨r, 1, none⟩ = false := HR.out.blk.free 1
      have hkr : Keeps (fun j => j = r) wr (wr.setCell ⟨r, 1, none⟩ (.slice Z (endM a M).length cZ)) := (Keeps.refl (fun j => j = r) wr).setCell (p := ⟨r, 1, none⟩) (.inl rfl) _
      have HX4 := hide ((HX.out.fresh HKP.out).keep hkr (fun j hj e => by subst e; exact (HX.out.fresh HKP.out).ne HR.out.blk (by decide) hj))
      have HY4 := hide (HY.out.keep hkr (fun j hj e => by subst e; have := HNY.out _ hj; have := H1.out.blk.lt; omega))
      have hrl : r < w1.heap.size := H1.out.blk.lt
      clear hkr HY HZ HX e1
      go_wp2_with fail
      clear k0 f0
      generalize wr.setCell ⟨r, 1, none⟩ (.slice Z (endM a M).length cZ) = w4 at *
      have HR4 := hide HF.out.1; have HK4 := hide HF.out.2
      clear HF HR HKP
      go_loopg [11] q (fun g s11 wx => ∃ (i : Nat) (A' : Option Addr) (c' : Nat) (P' : List Pr), i ≤ q ∧ g = q - i ∧ s11 = .int .i64 i ∧ RefAt wx r A' c' Z cZ P' (endM a M) ∧ Rel P' (unl a (l.take i) L) ∧ P'.length ≤ P.length ∧ Keeps (refFp r A Z) w4 wx ∧ Moved w4 A A' ∧ Slab wx 3 1 X q cX (intC l) ∧ Slab wx 108 3 Y (toldM a M).length cY (mons (toldM a M)))
      case atStart => exact ⟨0, A, c, P, Nat.zero_le _, rfl, rfl, HR4.out, HREL.out, Nat.le_refl _, Keeps.refl _ _, Moved.same _ _, HX4.out, HY4.out⟩
      case round =>
        clear HR4 HX4 HY4
        obtain ⟨i, A', c', P', hi, rfl, rfl, hr4, hrel, hpl, hk5, hm5, hx4, hy4⟩ := hrel
        have HR4 := hide hr4; have HRL := hide hrel; have HPL := hide hpl; have HK5 := hide hk5; have HM5 := hide hm5; have HX4 := hide hx4; have HY4 := hide hy4
        clear hr4 hrel hpl hk5 hm5 hx4 hy4
        have hi0 : (0 : Int) ≤ i := by omega
        by_cases hiq : i < q
        · have hiz : (i : Int) < q := by omega
          obtain ⟨x, hx⟩ : ∃ x, l[i]? = some x := ⟨_, List.getElem?_eq_getElem (by have := HLQ.out; omega)⟩
          obtain ⟨g, o, hA, p0⟩ := ints_at HX4.out.reads hx
          subst hA
          have hnot : a ∉ l.take i := fun e => HG.out.irr a (HL.out ▸ List.mem_of_mem_take e)
          have HGI := hide (unl_good (l.take i) L HG.out hnot)
          have hxin : x ∈ unl a (l.take i) L a := by
            rw [unl_left (l.take i) (l.drop i) L HG.out (by rw [List.take_append_drop]; exact HL.out) hnot]
            obtain ⟨hi', e⟩ := List.getElem?_eq_some_iff.1 hx
            rw [List.drop_eq_getElem_cons hi', e]; exact List.mem_cons_self
          have hax : a ≠ x := fun e => HGI.out.irr a (e ▸ hxin)
          have HIN := hide ((HRL.out.pair HGI.out hax).2 hxin)
          have HAX := hide hax
          have HT := hide (unl_take (a := a) hx L)
          clear hx hnot hxin hax
          go_wp2_with fail
          refine (runlink_yes wr r c' cZ A' Z P' (endM a M) a x HR4.out (Nat.le_trans HPL.out hP) HIN.out).mono ?_
          rintro e w5 ⟨t, A6, c6, rfl, ht, h1, h2, h3⟩
          have HR6 := hide h1
          have HRL6 := hide (show Rel (P'.eraseIdx t) (unl a (l.take (i + 1)) L) from by rw [HT.out]; exact HRL.out.unlink HGI.out HAX.out ht)
          have HPL6 := hide (show (P'.eraseIdx t).length ≤ P.length from Nat.le_trans (List.length_eraseIdx_le _ _) HPL.out)
          have HK6 := hide (show Keeps (refFp r A Z) w4 w5 from HK5.out.trans' h2 (fun _ _ h => h) (fun j hj e => by
            rcases e with e | e | e
            · exact .inl e
            · exact (HM5.out j e).elim (fun e => .inr (.inl e)) (fun e => by omega)
            · exact .inr (.inr e)))
          have HM6 := hide (HM5.out.trans HK5.out.size h3)
          have HX6 := hide (HX4.out.keep h2 (fun j hj e => by
            rcases e with e | e | e
            · subst e; exact HX4.out.ne HR4.out.blk (by decide) hj
            · exact Slab.apart HX4.out HR4.out.one (by decide) j hj e
            · exact Slab.apart HX4.out HR4.out.two (by decide) j hj e))
          have HY6 := hide (HY4.out.keep h2 (fun j hj e => by
            rcases e with e | e | e
            · subst e; exact HY4.out.ne HR4.out.blk (by decide) hj
            · exact Slab.apart HY4.out HR4.out.one (by decide) j hj e
            · exact HYZ.out j hj e))
          clear ht h1 h2 h3 HR4 HRL HPL HK5 HM5 HX4 HY4 p0
          go_wp2_with fail
          go_roundg (q - (i + 1))
          case measure => omega
          case rel => exact ⟨i + 1, A6, c6, P'.eraseIdx t, by omega, rfl, by go_num, HR6.out, HRL6.out, HPL6.out, HK6.out, HM6.out, HX6.out, HY6.out⟩
        · obtain rfl : i = q := by omega
          have hiz : ¬ (i : Int) < i := by omega
          have e2 : l.take i = l := List.take_of_length_le (by have := HLQ.out; omega)
          have HRL2 := hide (show Rel P' (endL a L) from by have := HRL.out; rwa [e2, unl_end l L HG.out HL.out] at this)
          clear e2
          go_wp2_with fail
          go_ret2
          refine ⟨X, cX, Y, cY, A', c', Z, cZ, P', (by rw [HL.out, HLQ.out]; rfl), by rw [HL.out, HLQ.out]; exact HX4.out, HY4.out, HR4.out, HRL2.out, HPL.out, ?_, (Moved.same _ _).trans (Nat.le_trans HK1.out.size HK4.out.size) HM5.out, Moved.new (fun j hj => Nat.le_trans HK1.out.size (HNZ.out j hj))⟩
          refine (HK1.out.trans' HK4.out (fun _ _ h => h.elim) (fun _ _ h => h) : Keeps (refFp r A B) w w4).trans' HK5.out (fun _ _ h => h) (fun j hj e => ?_)
          rcases e with e | e | e
          · exact .inl e
          · exact .inr (.inl e)
          · have := HNZ.out j e; have := HK1.out.size; omega
end Go.Proofs.YtjmljjmnamfljaaGreat
