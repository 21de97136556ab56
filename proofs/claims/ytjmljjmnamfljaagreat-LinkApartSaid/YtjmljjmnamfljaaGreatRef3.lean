/- The document's links in memory: Watch. -/
import Derived.Test.YtjmljjmnamfljaaGreatRef2
namespace Go.Proofs.YtjmljjmnamfljaaGreat
set_option maxRecDepth 100000
open Go.RowKit Go.Maps

theorem insM_cut {x : Mon} : ∀ {M : List Mon} {at' : Nat}, at' ≤ M.length → (∀ j y, j < at' → M[j]? = some y → y.ref < x.ref) → (∀ y, M[at']? = some y → x.ref < y.ref) → insM x M = M.take at' ++ x :: M.drop at'
  | [], at', h1, _, _ => by
    obtain rfl : at' = 0 := by simpa using h1
    rfl
  | y :: M, 0, _, _, h3 => by
    have := h3 y rfl
    show (if x.ref < y.ref then x :: y :: M else y :: insM x M) = _
    rw [if_pos this]; rfl
  | y :: M, at' + 1, h1, h2, h3 => by
    have := h2 0 y (by omega) rfl
    show (if x.ref < y.ref then x :: y :: M else y :: insM x M) = _
    rw [if_neg (by omega), insM_cut (at' := at') (by simpa using h1) (fun j z hj hz => h2 (j + 1) z (by omega) (by simpa using hz)) (fun z hz => h3 z (by simpa using hz))]
    rfl
theorem mons_ins (M : List Mon) (k : Nat) (xr xw xm : Int) : mons (M.take k ++ ⟨xr, xw, xm⟩ :: M.drop k) = ((mons M).take (k * 3) ++ [.int .i64 xr, .int .i64 xw, .int .i64 xm]) ++ (mons M).drop (k * 3) := by
  rw [mons_append, mons_take, mons_cons, mons_drop, List.append_assoc]
theorem rwatch_end {w w2 : World} {r c0 c c' n k : Nat} {A B B' : Option Addr} {xr xw xm : Int} {P : List Pr} {M : List Mon} (h : RefAt w r A c0 B c P M) (hn : M.length = n) (hk : k ≤ n) (hk2 : Keeps NoB w w2) (hs : Slab w2 108 3 B' (n + 1) c' (((mons M).take (k * 3) ++ [.int .i64 xr, .int .i64 xw, .int .i64 xm]) ++ (mons M).drop (k * 3))) (hB : ∀ j, rowB B' j → w.heap.size ≤ j) :
    RPost w r A B P (M.take k ++ ⟨xr, xw, xm⟩ :: M.drop k) true (.returned (.bool true)) (w2.setCell ⟨r, 1, none⟩ (.slice B' (n + 1) c')) := by
  have hF := ref_set1 (A' := B') (n' := n + 1) (c' := c') (M' := M.take k ++ ⟨xr, xw, xm⟩ :: M.drop k) h hk2 (fun _ h => h.elim) (Moved.new hB) (by rw [mons_ins]; exact hs) (by rw [List.length_append, List.length_cons, List.length_take, List.length_drop]; omega)
  exact ⟨A, c0, B', c', rfl, hF.1, hF.2, Moved.same _ _, Moved.new hB⟩

def RwPost (w : World) (r : Nat) (A B : Option Addr) (P : List Pr) (M : List Mon) (x : Mon) (e : Ending) (w' : World) : Prop := RPost w r A B P (goW x M) (canW x.ref M) e w'
set_option maxRecDepth 100000 in
set_option maxHeartbeats 4000000 in
theorem rwatch_any (w : World) (r c0 c : Nat) (A B : Option Addr) (P : List Pr) (M : List Mon) (xr xw xm : Int) (h : RefAt w r A c0 B c P M) (hl : M.length ≤ 1000000) (hu : UpM M) : Calls Tryz.prog 28 #[.pointer (some ⟨r, 0, none⟩), .int .i64 xr, .int .i64 xw, .int .i64 xm] w (RwPost w r A B P M ⟨xr, xw, xm⟩) := by
  obtain ⟨i0, ni0, nz0, nz1, nz2⟩ := info_parts Tryz.info108
  have H := hide h; have HU := hide hu
  obtain ⟨n, hn⟩ : ∃ n, M.length = n := ⟨_, rfl⟩
  have HN := hide hn
  have k0 : w.cell? ⟨r, 1, none⟩ = some (.slice B n c) := by rw [← hn]; exact h.blk.cell 1
  have HROW := hide (show Slab w 108 3 B n c (mons M) from hn ▸ h.two)
  rw [hn] at hl
  clear h hn hu
  go_enter Tryz.func28, Tryz.ntmps28
  go_wp2_with fail
  go_loopg [9] n (fun g s9 wx => ∃ k : Nat, k ≤ n ∧ g = n - k ∧ s9 = .int .i64 k ∧ w = wx ∧ Hid (∀ j y, j < k → M[j]? = some y → y.ref < xr))
  case atStart => exact ⟨0, Nat.zero_le _, rfl, rfl, rfl, hide (fun j z h => by omega)⟩
  case round =>
    obtain ⟨at', hk, rfl, rfl, rfl, HI⟩ := hrel
    have hat0 : (0 : Int) ≤ at' := by omega
    by_cases hlt : at' < n
    · have hkz : (at' : Int) < n := by omega
      obtain ⟨y, hy⟩ : ∃ y, M[at']? = some y := ⟨_, List.getElem?_eq_getElem (by have := HN.out; omega)⟩
      obtain ⟨g, o, hA, p0, _, _⟩ := mon_reads H.out.two.reads hy
      subst hA
      obtain ⟨yr, yw, ym⟩ := y
      simp only at p0
      have HY := hide hy
      clear hy
      by_cases hyx : yr < xr
      · have HI2 := hide (show ∀ j y, j < at' + 1 → M[j]? = some y → y.ref < xr from fun j z hj hz => by
          rcases Nat.lt_succ_iff_lt_or_eq.1 hj with h | rfl
          · exact HI.out j z h hz
          · rw [HY.out] at hz; cases hz; exact hyx)
        clear hat0
        have hat0 : (0 : Int) ≤ at' := by omega
        go_wp2_with fail
        go_roundg (n - (at' + 1))
        case measure => omega
        case rel => exact ⟨at' + 1, by omega, rfl, by go_num, rfl, HI2.out⟩
      · by_cases hyq : yr = xr
        · subst hyq
          have hnl : ¬ yr < yr := Int.lt_irrefl _
          have HE := hide (show canW yr M = false ∧ goW ⟨yr, xw, xm⟩ M = M from by
            have : canW yr M = false := by
              cases e : canW yr M with
              | false => rfl
              | true => exact absurd (List.mem_map.2 ⟨_, List.mem_of_getElem? HY.out, rfl⟩) (canW_iff.1 e)
            exact ⟨this, by unfold goW; rw [if_neg (by show ¬ canW yr M = true; rw [this]; decide)]⟩)
          clear HI hyx
          go_wp2_with fail
          go_ret
          unfold RwPost
          rw [HE.out.2]
          show RPost _ _ _ _ _ _ (canW yr M) _ _
          rw [HE.out.1]
          exact rpost_same H.out (Keeps.refl _ _)
        · have hgt : xr < yr := by omega
          have hq0 : (yr == xr) = false := by simpa using hyq
          have HE := hide (show canW xr M = true ∧ goW ⟨xr, xw, xm⟩ M = M.take at' ++ ⟨xr, xw, xm⟩ :: M.drop at' from by
            have : canW xr M = true := canW_iff.2 (fun hm => by
              obtain ⟨z, hz, e⟩ := List.mem_map.1 hm
              obtain ⟨j, hj, e2⟩ := List.mem_iff_getElem.1 hz
              have hz2 : M[j]? = some z := List.getElem?_eq_some_iff.2 ⟨hj, e2⟩
              rcases Nat.lt_trichotomy j at' with h | h | h
              · have := HI.out j z h hz2; omega
              · subst h; rw [HY.out] at hz2; cases hz2; exact hyq e
              · have hr := HU.out
                unfold UpM Rise refs at hr
                rw [List.pairwise_map] at hr
                obtain ⟨h1, e3⟩ := List.getElem?_eq_some_iff.1 HY.out
                have := List.pairwise_iff_getElem.1 hr at' j h1 hj h
                rw [e2, e3] at this; simp only at this; omega)
            exact ⟨this, by unfold goW; rw [if_pos this]; exact insM_cut (by have := HN.out; omega) (fun j y hj hy => HI.out j y hj hy) (fun y hy => by rw [HY.out] at hy; cases hy; exact hgt)⟩)
          clear HI hyq
          have hle : at' ≤ n := by omega
          have hca : ¬ c = at' := by have := HROW.out.2.1; omega
          clear hyx
          have hnc : n ≤ c := HROW.out.2.1
          have hat0 : (0 : Int) ≤ at' := by omega
          have hatn : (at' : Int) ≤ n := by omega
          have hatc : at' ≤ c := by omega
          have hatcz : (at' : Int) ≤ c := by omega
          have HK1 := hide (((Keeps.refl NoB w).alloc (.cells #[] 108)) : Keeps NoB w (w.alloc (.cells #[] 108)))
          have k1 : (w.alloc (.cells #[] 108)).cell? ⟨r, 1, none⟩ = some (.slice (some ⟨g, o, none⟩) n c) := HK1.out.cell id k0
          have HM := hide (Slab.made w 108 3)
          obtain ⟨T, hT⟩ : ∃ T, (mons M).take (at' * 3) = T := ⟨_, rfl⟩
          obtain ⟨U, hU⟩ : ∃ U, (mons M).drop (at' * 3) = U := ⟨_, rfl⟩
          obtain ⟨X, hX⟩ : ∃ X : List Value, [.int .i64 xr, .int .i64 xw, .int .i64 xm] = X := ⟨_, rfl⟩
          have hTo : ∀ u ∈ T, u.oneCell' = true := fun u hu => mons_ones _ u (List.mem_of_mem_take (hT ▸ hu))
          have hUo : ∀ u ∈ U, u.oneCell' = true := fun u hu => mons_ones _ u (List.mem_of_mem_drop (hU ▸ hu))
          have hXo : ∀ u ∈ X, u.oneCell' = true := fun u hu => by
            rw [← hX] at hu; simp only [List.mem_cons, List.not_mem_nil, or_false] at hu; rcases hu with rfl | rfl | rfl <;> rfl
          have HXR := hide (show ∀ wa : World, Reads (wa.alloc (.cells #[.int .i64 xr, .int .i64 xw, .int .i64 xm] 108)) (fun _ => True) true 3 (some ⟨wa.heap.size, 0, none⟩) 1 X from by
            intro wa; rw [← hX]; exact three_reads (Blk.new wa 108 #[.int .i64 xr, .int .i64 xw, .int .i64 xm]))
          have HTR := hide (show Reads (w.alloc (.cells #[] 108)) (rowB (some ⟨g, o, none⟩)) true 3 (some ⟨g, o, none⟩) at' T from by rw [← hT]; exact (Slab.part HROW.out hle).keep HK1.out (fun _ _ => id))
          have HEND := hide (show ∀ (B' : Option Addr) (c' : Nat) (w2 : World), Keeps NoB w w2 → Slab w2 108 3 B' (n + 1) c' ((T ++ X) ++ U) → (∀ j, rowB B' j → w.heap.size ≤ j) → RPost w r A (some ⟨g, o, none⟩) P (M.take at' ++ ⟨xr, xw, xm⟩ :: M.drop at') true (.returned (.bool true)) (w2.setCell ⟨r, 1, none⟩ (.slice B' (n + 1) c')) from by
            intro B' c' w2 h1 h2 h3
            rw [← hT, ← hU, ← hX] at h2
            exact rwatch_end H.out HN.out hle h1 h2 h3)
          have HUR := hide (show Reads w (rowB (some ⟨g, o, none⟩)) true 3 (some ⟨g, o + at' * 3, none⟩) (n - at') U from by rw [← hU]; exact Reads.part HROW.out.reads hle)
          have HU0 := hide (show at' = n → U = [] from by
            intro e; rw [← hU, List.drop_eq_nil_of_le (by rw [mons_len, HN.out]; omega)])
          clear hT hU hX
          obtain ⟨RR, hRR⟩ : ∃ RR, M.take at' ++ ⟨xr, xw, xm⟩ :: M.drop at' = RR := ⟨_, rfl⟩
          rw [hRR] at HEND HE
          clear hRR
          go_wp2_with (at_builtin; go_loud (refine wpList_append_any _ rfl (.tmp 51) (.tmp 57) 39 rfl 108 i0 _ 3 24 Tryz.underlying39 ni0 nz0 nz1 nz2 rfl (by omega) (some ⟨w.heap.size, 0, none⟩) 0 0 [] rfl HM.out (rowB (some ⟨g, o, none⟩)) true (some ⟨g, o, none⟩) at' c T rfl HTR.out hTo (by unfold maxLen; omega) (by omega) ?_))
          intro A1 c1 w1 h1 h2 h3
          have hk3 : Keeps NoB w w1 := HK1.out.trans' h2 (fun _ _ => id) (fun j hj ⟨o', e⟩ => by injection e with e; injection e with e; omega)
          have hB1 : ∀ j, rowB A1 j → w.heap.size ≤ j := fun j hj => by
            rcases h3 j hj with ⟨o', e⟩ | e
            · injection e with e; injection e with e; omega
            · exact Nat.le_trans HK1.out.size e
          have HS1 := hide (h1.fresh ((Keeps.refl NoB w1).alloc (.cells #[.int .i64 xr, .int .i64 xw, .int .i64 xm] 108))); have HK2 := hide (hk3.alloc (.cells #[.int .i64 xr, .int .i64 xw, .int .i64 xm] 108)); have HB1 := hide hB1
          clear h1 h2 h3 hk3 hB1 HM k1
          go_wp2_with (at_builtin; go_loud (refine wpList_append_any _ rfl (.tmp 59) (.tmp 64) 39 rfl 108 i0 _ 3 24 Tryz.underlying39 ni0 nz0 nz1 nz2 rfl (by omega) A1 at' c1 T rfl HS1.out (fun _ => True) true (some ⟨w1.heap.size, 0, none⟩) 1 1 X rfl (HXR.out w1) hXo (by unfold maxLen; omega) (by omega) ?_))
          intro A2 c2 w2 h1 h2 h3
          have hk3 : Keeps NoB w w2 := HK2.out.trans' h2 (fun _ _ => id) (fun j hj hr => by have := HB1.out j hr; omega)
          have hB2 : ∀ j, rowB A2 j → w.heap.size ≤ j := fun j hj => (h3 j hj).elim (HB1.out j) (fun e => Nat.le_trans HK2.out.size e)
          have HS2 := hide h1; have HK3 := hide hk3; have HB2 := hide hB2
          have k2 : w2.cell? ⟨r, 1, none⟩ = some (.slice (some ⟨g, o, none⟩) n c) := hk3.cell id k0
          clear h1 h2 h3 hk3 hB2 HS1 HB1
          go_wp2_with (at_builtin; go_loud (refine wpList_append_any _ rfl (.tmp 67) (.tmp 73) 39 rfl 108 i0 _ 3 24 Tryz.underlying39 ni0 nz0 nz1 nz2 rfl (by omega) A2 (at' + 1) c2 (T ++ X) rfl HS2.out (rowB (some ⟨g, o, none⟩)) true (some ⟨g, o + at' * 3, none⟩) (n - at') (c - at') U rfl (HUR.out.keep HK3.out (fun _ _ => id)) hUo (by unfold maxLen; omega) (by omega) ?_))
          intro A3 c3 w3 h1 h2 h3
          have hk4 : Keeps NoB w w3 := HK3.out.trans' h2 (fun _ _ => id) (fun j hj hr => by have := HB2.out j hr; omega)
          have hB3 : ∀ j, rowB A3 j → w.heap.size ≤ j := fun j hj => (h3 j hj).elim (HB2.out j) (fun e => Nat.le_trans HK3.out.size e)
          have hen : at' + 1 + (n - at') = n + 1 := by omega
          try rw [hen]
          have h1' : Slab w3 108 3 A3 (n + 1) c3 ((T ++ X) ++ U) := by
            first
            | (rw [List.append_nil]; exact h1)
            | exact h1
            | (rw [List.append_assoc]; exact h1)
            | (rw [hen] at h1; exact h1)
            | (rw [hen] at h1; rw [List.append_assoc]; exact h1)
          have HF := hide (HEND.out _ _ _ hk4 h1' hB3)
          have hb := H.out.blk.keep hk4 id
          have g0 : w3.cell? ⟨r, 1, none⟩ = some (.slice (some ⟨g, o, none⟩) M.length c) := hb.cell 1
          have f0 : w3.frozen? ⟨r, 1, none⟩ = false := hb.free 1
          clear h1 h1' h2 h3 hk4 hB3 hb k2 hen
          go_wp2_with fail
          go_ret
          show RPost w r A (some ⟨g, o, none⟩) P (goW ⟨xr, xw, xm⟩ M) (canW xr M) _ _
          rw [HE.out.1, HE.out.2]
          exact HF.out
    · obtain rfl : n = at' := by omega
      have hkz : ¬ (n : Int) < n := by omega
      have HE := hide (show canW xr M = true ∧ goW ⟨xr, xw, xm⟩ M = M.take n ++ ⟨xr, xw, xm⟩ :: M.drop n from by
        have : canW xr M = true := canW_iff.2 (fun hm => by
          obtain ⟨z, hz, e⟩ := List.mem_map.1 hm
          obtain ⟨j, hj, e2⟩ := List.mem_iff_getElem.1 hz
          have := HI.out j z (by have := HN.out; omega) (List.getElem?_eq_some_iff.2 ⟨hj, e2⟩)
          omega)
        exact ⟨this, by unfold goW; rw [if_pos this]; exact insM_cut (by have := HN.out; omega) (fun j y hj hy => HI.out j y hj hy) (fun y hy => by rw [List.getElem?_eq_none (by have := HN.out; omega)] at hy; cases hy)⟩)
      clear HI hlt
      have HBS := hide (show B = none ∧ c = 0 ∨ ∃ g o, B = some ⟨g, o, none⟩ from by
        rcases HROW.out.2.2.2 with h | ⟨g, o, cur, h, _⟩
        · exact .inl h
        · exact .inr ⟨g, o, h⟩)
      have hle : n ≤ n := Nat.le_refl _
      rcases HBS.out with ⟨rfl, rfl⟩ | ⟨g, o, rfl⟩
      · obtain rfl : n = 0 := by have := HROW.out.2.1; omega
        have hnc : 0 ≤ 0 := HROW.out.2.1
        have hat0 : (0 : Int) ≤ 0 := by omega
        have hatn : (0 : Int) ≤ 0 := by omega
        have hatc : 0 ≤ 0 := by omega
        have hatcz : (0 : Int) ≤ 0 := by omega
        have HK1 := hide (((Keeps.refl NoB w).alloc (.cells #[] 108)) : Keeps NoB w (w.alloc (.cells #[] 108)))
        have k1 : (w.alloc (.cells #[] 108)).cell? ⟨r, 1, none⟩ = some (.slice none 0 0) := HK1.out.cell id k0
        have HM := hide (Slab.made w 108 3)
        obtain ⟨T, hT⟩ : ∃ T, (mons M).take (0 * 3) = T := ⟨_, rfl⟩
        obtain ⟨U, hU⟩ : ∃ U, (mons M).drop (0 * 3) = U := ⟨_, rfl⟩
        obtain ⟨X, hX⟩ : ∃ X : List Value, [.int .i64 xr, .int .i64 xw, .int .i64 xm] = X := ⟨_, rfl⟩
        have hTo : ∀ u ∈ T, u.oneCell' = true := fun u hu => mons_ones _ u (List.mem_of_mem_take (hT ▸ hu))
        have hUo : ∀ u ∈ U, u.oneCell' = true := fun u hu => mons_ones _ u (List.mem_of_mem_drop (hU ▸ hu))
        have hXo : ∀ u ∈ X, u.oneCell' = true := fun u hu => by
          rw [← hX] at hu; simp only [List.mem_cons, List.not_mem_nil, or_false] at hu; rcases hu with rfl | rfl | rfl <;> rfl
        have HXR := hide (show ∀ wa : World, Reads (wa.alloc (.cells #[.int .i64 xr, .int .i64 xw, .int .i64 xm] 108)) (fun _ => True) true 3 (some ⟨wa.heap.size, 0, none⟩) 1 X from by
          intro wa; rw [← hX]; exact three_reads (Blk.new wa 108 #[.int .i64 xr, .int .i64 xw, .int .i64 xm]))
        have HTR := hide (show Reads (w.alloc (.cells #[] 108)) (rowB none) true 3 none 0 T from by rw [← hT]; exact (Slab.part HROW.out hle).keep HK1.out (fun _ _ => id))
        have HEND := hide (show ∀ (B' : Option Addr) (c' : Nat) (w2 : World), Keeps NoB w w2 → Slab w2 108 3 B' (0 + 1) c' ((T ++ X) ++ U) → (∀ j, rowB B' j → w.heap.size ≤ j) → RPost w r A none P (M.take 0 ++ ⟨xr, xw, xm⟩ :: M.drop 0) true (.returned (.bool true)) (w2.setCell ⟨r, 1, none⟩ (.slice B' (0 + 1) c')) from by
          intro B' c' w2 h1 h2 h3
          rw [← hT, ← hU, ← hX] at h2
          exact rwatch_end H.out HN.out hle h1 h2 h3)
        have HU0 := hide (show 0 = 0 → U = [] from by
          intro _; rw [← hU, List.drop_eq_nil_of_le (by rw [mons_len, HN.out]; omega)])
        clear hT hU hX
        obtain ⟨RR, hRR⟩ : ∃ RR, M.take 0 ++ ⟨xr, xw, xm⟩ :: M.drop 0 = RR := ⟨_, rfl⟩
        rw [hRR] at HEND HE
        clear hRR
        obtain rfl : U = [] := by first | exact HU0.out rfl | exact HU0.out trivial
        go_wp2_with (at_builtin; go_loud (refine wpList_append_any _ rfl (.tmp 51) (.tmp 57) 39 rfl 108 i0 _ 3 24 Tryz.underlying39 ni0 nz0 nz1 nz2 rfl (by omega) (some ⟨w.heap.size, 0, none⟩) 0 0 [] rfl HM.out (rowB none) true none 0 0 T rfl HTR.out hTo (by unfold maxLen; omega) (by omega) ?_))
        intro A1 c1 w1 h1 h2 h3
        have hk3 : Keeps NoB w w1 := HK1.out.trans' h2 (fun _ _ => id) (fun j hj ⟨o', e⟩ => by injection e with e; injection e with e; omega)
        have hB1 : ∀ j, rowB A1 j → w.heap.size ≤ j := fun j hj => by
          rcases h3 j hj with ⟨o', e⟩ | e
          · injection e with e; injection e with e; omega
          · exact Nat.le_trans HK1.out.size e
        have HS1 := hide (h1.fresh ((Keeps.refl NoB w1).alloc (.cells #[.int .i64 xr, .int .i64 xw, .int .i64 xm] 108))); have HK2 := hide (hk3.alloc (.cells #[.int .i64 xr, .int .i64 xw, .int .i64 xm] 108)); have HB1 := hide hB1
        clear h1 h2 h3 hk3 hB1 HM k1
        go_wp2_with (at_builtin; go_loud (refine wpList_append_any _ rfl (.tmp 59) (.tmp 64) 39 rfl 108 i0 _ 3 24 Tryz.underlying39 ni0 nz0 nz1 nz2 rfl (by omega) A1 0 c1 T rfl HS1.out (fun _ => True) true (some ⟨w1.heap.size, 0, none⟩) 1 1 X rfl (HXR.out w1) hXo (by unfold maxLen; omega) (by omega) ?_))
        intro A2 c2 w2 h1 h2 h3
        have hk3 : Keeps NoB w w2 := HK2.out.trans' h2 (fun _ _ => id) (fun j hj hr => by have := HB1.out j hr; omega)
        have hB2 : ∀ j, rowB A2 j → w.heap.size ≤ j := fun j hj => (h3 j hj).elim (HB1.out j) (fun e => Nat.le_trans HK2.out.size e)
        have HS2 := hide h1; have HK3 := hide hk3; have HB2 := hide hB2
        have k2 : w2.cell? ⟨r, 1, none⟩ = some (.slice none 0 0) := hk3.cell id k0
        clear h1 h2 h3 hk3 hB2 HS1 HB1
        go_wp2_with (at_builtin; go_loud (refine wpList_append_any _ rfl (.tmp 67) (.tmp 73) 39 rfl 108 i0 _ 3 24 Tryz.underlying39 ni0 nz0 nz1 nz2 rfl (by omega) A2 (0 + 1) c2 (T ++ X) rfl HS2.out (rowB none) true none 0 0 [] rfl (Reads.zero _ _ _ _ _) hUo (by unfold maxLen; omega) (by omega) ?_))
        intro A3 c3 w3 h1 h2 h3
        have hk4 : Keeps NoB w w3 := HK3.out.trans' h2 (fun _ _ => id) (fun j hj hr => by have := HB2.out j hr; omega)
        have hB3 : ∀ j, rowB A3 j → w.heap.size ≤ j := fun j hj => (h3 j hj).elim (HB2.out j) (fun e => Nat.le_trans HK3.out.size e)
        have hen : 0 + 1 + (0 - 0) = 0 + 1 := by omega
        try rw [hen]
        have h1' : Slab w3 108 3 A3 (0 + 1) c3 ((T ++ X) ++ []) := by
          first
          | (rw [List.append_nil]; exact h1)
          | exact h1
          | (rw [List.append_assoc]; exact h1)
          | (rw [hen] at h1; exact h1)
          | (rw [hen] at h1; rw [List.append_assoc]; exact h1)
        have HF := hide (HEND.out _ _ _ hk4 h1' hB3)
        have hb := H.out.blk.keep hk4 id
        have g0 : w3.cell? ⟨r, 1, none⟩ = some (.slice none M.length 0) := hb.cell 1
        have f0 : w3.frozen? ⟨r, 1, none⟩ = false := hb.free 1
        clear h1 h1' h2 h3 hk4 hB3 hb k2 hen
        go_wp2_with fail
        go_ret
        show RPost w r A none P (goW ⟨xr, xw, xm⟩ M) (canW xr M) _ _
        rw [HE.out.1, HE.out.2]
        exact HF.out
      · by_cases hca : c = n
        · obtain rfl : n = c := hca.symm
          have hnc : n ≤ n := HROW.out.2.1
          have hat0 : (0 : Int) ≤ n := by omega
          have hatn : (n : Int) ≤ n := by omega
          have hatc : n ≤ n := by omega
          have hatcz : (n : Int) ≤ n := by omega
          have HK1 := hide (((Keeps.refl NoB w).alloc (.cells #[] 108)) : Keeps NoB w (w.alloc (.cells #[] 108)))
          have k1 : (w.alloc (.cells #[] 108)).cell? ⟨r, 1, none⟩ = some (.slice (some ⟨g, o, none⟩) n n) := HK1.out.cell id k0
          have HM := hide (Slab.made w 108 3)
          obtain ⟨T, hT⟩ : ∃ T, (mons M).take (n * 3) = T := ⟨_, rfl⟩
          obtain ⟨U, hU⟩ : ∃ U, (mons M).drop (n * 3) = U := ⟨_, rfl⟩
          obtain ⟨X, hX⟩ : ∃ X : List Value, [.int .i64 xr, .int .i64 xw, .int .i64 xm] = X := ⟨_, rfl⟩
          have hTo : ∀ u ∈ T, u.oneCell' = true := fun u hu => mons_ones _ u (List.mem_of_mem_take (hT ▸ hu))
          have hUo : ∀ u ∈ U, u.oneCell' = true := fun u hu => mons_ones _ u (List.mem_of_mem_drop (hU ▸ hu))
          have hXo : ∀ u ∈ X, u.oneCell' = true := fun u hu => by
            rw [← hX] at hu; simp only [List.mem_cons, List.not_mem_nil, or_false] at hu; rcases hu with rfl | rfl | rfl <;> rfl
          have HXR := hide (show ∀ wa : World, Reads (wa.alloc (.cells #[.int .i64 xr, .int .i64 xw, .int .i64 xm] 108)) (fun _ => True) true 3 (some ⟨wa.heap.size, 0, none⟩) 1 X from by
            intro wa; rw [← hX]; exact three_reads (Blk.new wa 108 #[.int .i64 xr, .int .i64 xw, .int .i64 xm]))
          have HTR := hide (show Reads (w.alloc (.cells #[] 108)) (rowB (some ⟨g, o, none⟩)) true 3 (some ⟨g, o, none⟩) n T from by rw [← hT]; exact (Slab.part HROW.out hle).keep HK1.out (fun _ _ => id))
          have HEND := hide (show ∀ (B' : Option Addr) (c' : Nat) (w2 : World), Keeps NoB w w2 → Slab w2 108 3 B' (n + 1) c' ((T ++ X) ++ U) → (∀ j, rowB B' j → w.heap.size ≤ j) → RPost w r A (some ⟨g, o, none⟩) P (M.take n ++ ⟨xr, xw, xm⟩ :: M.drop n) true (.returned (.bool true)) (w2.setCell ⟨r, 1, none⟩ (.slice B' (n + 1) c')) from by
            intro B' c' w2 h1 h2 h3
            rw [← hT, ← hU, ← hX] at h2
            exact rwatch_end H.out HN.out hle h1 h2 h3)
          have HUR := hide (show Reads w (rowB (some ⟨g, o, none⟩)) true 3 (some ⟨g, o + n * 3, none⟩) (n - n) U from by rw [← hU]; exact Reads.part HROW.out.reads hle)
          have HU0 := hide (show n = n → U = [] from by
            intro e; rw [← hU, List.drop_eq_nil_of_le (by rw [mons_len, HN.out]; omega)])
          clear hT hU hX
          obtain ⟨RR, hRR⟩ : ∃ RR, M.take n ++ ⟨xr, xw, xm⟩ :: M.drop n = RR := ⟨_, rfl⟩
          rw [hRR] at HEND HE
          clear hRR
          go_wp2_with (at_builtin; go_loud (refine wpList_append_any _ rfl (.tmp 51) (.tmp 57) 39 rfl 108 i0 _ 3 24 Tryz.underlying39 ni0 nz0 nz1 nz2 rfl (by omega) (some ⟨w.heap.size, 0, none⟩) 0 0 [] rfl HM.out (rowB (some ⟨g, o, none⟩)) true (some ⟨g, o, none⟩) n n T rfl HTR.out hTo (by unfold maxLen; omega) (by omega) ?_))
          intro A1 c1 w1 h1 h2 h3
          have hk3 : Keeps NoB w w1 := HK1.out.trans' h2 (fun _ _ => id) (fun j hj ⟨o', e⟩ => by injection e with e; injection e with e; omega)
          have hB1 : ∀ j, rowB A1 j → w.heap.size ≤ j := fun j hj => by
            rcases h3 j hj with ⟨o', e⟩ | e
            · injection e with e; injection e with e; omega
            · exact Nat.le_trans HK1.out.size e
          have HS1 := hide (h1.fresh ((Keeps.refl NoB w1).alloc (.cells #[.int .i64 xr, .int .i64 xw, .int .i64 xm] 108))); have HK2 := hide (hk3.alloc (.cells #[.int .i64 xr, .int .i64 xw, .int .i64 xm] 108)); have HB1 := hide hB1
          clear h1 h2 h3 hk3 hB1 HM k1
          go_wp2_with (at_builtin; go_loud (refine wpList_append_any _ rfl (.tmp 59) (.tmp 64) 39 rfl 108 i0 _ 3 24 Tryz.underlying39 ni0 nz0 nz1 nz2 rfl (by omega) A1 n c1 T rfl HS1.out (fun _ => True) true (some ⟨w1.heap.size, 0, none⟩) 1 1 X rfl (HXR.out w1) hXo (by unfold maxLen; omega) (by omega) ?_))
          intro A2 c2 w2 h1 h2 h3
          have hk3 : Keeps NoB w w2 := HK2.out.trans' h2 (fun _ _ => id) (fun j hj hr => by have := HB1.out j hr; omega)
          have hB2 : ∀ j, rowB A2 j → w.heap.size ≤ j := fun j hj => (h3 j hj).elim (HB1.out j) (fun e => Nat.le_trans HK2.out.size e)
          have HS2 := hide h1; have HK3 := hide hk3; have HB2 := hide hB2
          have k2 : w2.cell? ⟨r, 1, none⟩ = some (.slice (some ⟨g, o, none⟩) n n) := hk3.cell id k0
          clear h1 h2 h3 hk3 hB2 HS1 HB1
          obtain rfl : U = [] := by first | exact HU0.out rfl | exact HU0.out trivial
          go_wp2_with (at_builtin; go_loud (refine wpList_append_any _ rfl (.tmp 67) (.tmp 73) 39 rfl 108 i0 _ 3 24 Tryz.underlying39 ni0 nz0 nz1 nz2 rfl (by omega) A2 (n + 1) c2 (T ++ X) rfl HS2.out (rowB none) true (some ⟨g, o, none⟩) 0 0 [] rfl (Reads.zero _ _ _ _ _) hUo (by unfold maxLen; omega) (by omega) ?_))
          intro A3 c3 w3 h1 h2 h3
          have hk4 : Keeps NoB w w3 := HK3.out.trans' h2 (fun _ _ => id) (fun j hj hr => by have := HB2.out j hr; omega)
          have hB3 : ∀ j, rowB A3 j → w.heap.size ≤ j := fun j hj => (h3 j hj).elim (HB2.out j) (fun e => Nat.le_trans HK3.out.size e)
          have hen : n + 1 + (n - n) = n + 1 := by omega
          try rw [hen]
          have h1' : Slab w3 108 3 A3 (n + 1) c3 ((T ++ X) ++ []) := by
            first
            | (rw [List.append_nil]; exact h1)
            | exact h1
            | (rw [List.append_assoc]; exact h1)
            | (rw [hen] at h1; exact h1)
            | (rw [hen] at h1; rw [List.append_assoc]; exact h1)
          have HF := hide (HEND.out _ _ _ hk4 h1' hB3)
          have hb := H.out.blk.keep hk4 id
          have g0 : w3.cell? ⟨r, 1, none⟩ = some (.slice (some ⟨g, o, none⟩) M.length n) := hb.cell 1
          have f0 : w3.frozen? ⟨r, 1, none⟩ = false := hb.free 1
          clear h1 h1' h2 h3 hk4 hB3 hb k2 hen
          go_wp2_with fail
          go_ret
          show RPost w r A (some ⟨g, o, none⟩) P (goW ⟨xr, xw, xm⟩ M) (canW xr M) _ _
          rw [HE.out.1, HE.out.2]
          exact HF.out
        · skip
          have hnc : n ≤ c := HROW.out.2.1
          have hat0 : (0 : Int) ≤ n := by omega
          have hatn : (n : Int) ≤ n := by omega
          have hatc : n ≤ c := by omega
          have hatcz : (n : Int) ≤ c := by omega
          have HK1 := hide (((Keeps.refl NoB w).alloc (.cells #[] 108)) : Keeps NoB w (w.alloc (.cells #[] 108)))
          have k1 : (w.alloc (.cells #[] 108)).cell? ⟨r, 1, none⟩ = some (.slice (some ⟨g, o, none⟩) n c) := HK1.out.cell id k0
          have HM := hide (Slab.made w 108 3)
          obtain ⟨T, hT⟩ : ∃ T, (mons M).take (n * 3) = T := ⟨_, rfl⟩
          obtain ⟨U, hU⟩ : ∃ U, (mons M).drop (n * 3) = U := ⟨_, rfl⟩
          obtain ⟨X, hX⟩ : ∃ X : List Value, [.int .i64 xr, .int .i64 xw, .int .i64 xm] = X := ⟨_, rfl⟩
          have hTo : ∀ u ∈ T, u.oneCell' = true := fun u hu => mons_ones _ u (List.mem_of_mem_take (hT ▸ hu))
          have hUo : ∀ u ∈ U, u.oneCell' = true := fun u hu => mons_ones _ u (List.mem_of_mem_drop (hU ▸ hu))
          have hXo : ∀ u ∈ X, u.oneCell' = true := fun u hu => by
            rw [← hX] at hu; simp only [List.mem_cons, List.not_mem_nil, or_false] at hu; rcases hu with rfl | rfl | rfl <;> rfl
          have HXR := hide (show ∀ wa : World, Reads (wa.alloc (.cells #[.int .i64 xr, .int .i64 xw, .int .i64 xm] 108)) (fun _ => True) true 3 (some ⟨wa.heap.size, 0, none⟩) 1 X from by
            intro wa; rw [← hX]; exact three_reads (Blk.new wa 108 #[.int .i64 xr, .int .i64 xw, .int .i64 xm]))
          have HTR := hide (show Reads (w.alloc (.cells #[] 108)) (rowB (some ⟨g, o, none⟩)) true 3 (some ⟨g, o, none⟩) n T from by rw [← hT]; exact (Slab.part HROW.out hle).keep HK1.out (fun _ _ => id))
          have HEND := hide (show ∀ (B' : Option Addr) (c' : Nat) (w2 : World), Keeps NoB w w2 → Slab w2 108 3 B' (n + 1) c' ((T ++ X) ++ U) → (∀ j, rowB B' j → w.heap.size ≤ j) → RPost w r A (some ⟨g, o, none⟩) P (M.take n ++ ⟨xr, xw, xm⟩ :: M.drop n) true (.returned (.bool true)) (w2.setCell ⟨r, 1, none⟩ (.slice B' (n + 1) c')) from by
            intro B' c' w2 h1 h2 h3
            rw [← hT, ← hU, ← hX] at h2
            exact rwatch_end H.out HN.out hle h1 h2 h3)
          have HUR := hide (show Reads w (rowB (some ⟨g, o, none⟩)) true 3 (some ⟨g, o + n * 3, none⟩) (n - n) U from by rw [← hU]; exact Reads.part HROW.out.reads hle)
          have HU0 := hide (show n = n → U = [] from by
            intro e; rw [← hU, List.drop_eq_nil_of_le (by rw [mons_len, HN.out]; omega)])
          clear hT hU hX
          obtain ⟨RR, hRR⟩ : ∃ RR, M.take n ++ ⟨xr, xw, xm⟩ :: M.drop n = RR := ⟨_, rfl⟩
          rw [hRR] at HEND HE
          clear hRR
          go_wp2_with (at_builtin; go_loud (refine wpList_append_any _ rfl (.tmp 51) (.tmp 57) 39 rfl 108 i0 _ 3 24 Tryz.underlying39 ni0 nz0 nz1 nz2 rfl (by omega) (some ⟨w.heap.size, 0, none⟩) 0 0 [] rfl HM.out (rowB (some ⟨g, o, none⟩)) true (some ⟨g, o, none⟩) n c T rfl HTR.out hTo (by unfold maxLen; omega) (by omega) ?_))
          intro A1 c1 w1 h1 h2 h3
          have hk3 : Keeps NoB w w1 := HK1.out.trans' h2 (fun _ _ => id) (fun j hj ⟨o', e⟩ => by injection e with e; injection e with e; omega)
          have hB1 : ∀ j, rowB A1 j → w.heap.size ≤ j := fun j hj => by
            rcases h3 j hj with ⟨o', e⟩ | e
            · injection e with e; injection e with e; omega
            · exact Nat.le_trans HK1.out.size e
          have HS1 := hide (h1.fresh ((Keeps.refl NoB w1).alloc (.cells #[.int .i64 xr, .int .i64 xw, .int .i64 xm] 108))); have HK2 := hide (hk3.alloc (.cells #[.int .i64 xr, .int .i64 xw, .int .i64 xm] 108)); have HB1 := hide hB1
          clear h1 h2 h3 hk3 hB1 HM k1
          go_wp2_with (at_builtin; go_loud (refine wpList_append_any _ rfl (.tmp 59) (.tmp 64) 39 rfl 108 i0 _ 3 24 Tryz.underlying39 ni0 nz0 nz1 nz2 rfl (by omega) A1 n c1 T rfl HS1.out (fun _ => True) true (some ⟨w1.heap.size, 0, none⟩) 1 1 X rfl (HXR.out w1) hXo (by unfold maxLen; omega) (by omega) ?_))
          intro A2 c2 w2 h1 h2 h3
          have hk3 : Keeps NoB w w2 := HK2.out.trans' h2 (fun _ _ => id) (fun j hj hr => by have := HB1.out j hr; omega)
          have hB2 : ∀ j, rowB A2 j → w.heap.size ≤ j := fun j hj => (h3 j hj).elim (HB1.out j) (fun e => Nat.le_trans HK2.out.size e)
          have HS2 := hide h1; have HK3 := hide hk3; have HB2 := hide hB2
          have k2 : w2.cell? ⟨r, 1, none⟩ = some (.slice (some ⟨g, o, none⟩) n c) := hk3.cell id k0
          clear h1 h2 h3 hk3 hB2 HS1 HB1
          obtain rfl : U = [] := by first | exact HU0.out rfl | exact HU0.out trivial
          go_wp2_with (at_builtin; go_loud (refine wpList_append_any _ rfl (.tmp 67) (.tmp 73) 39 rfl 108 i0 _ 3 24 Tryz.underlying39 ni0 nz0 nz1 nz2 rfl (by omega) A2 (n + 1) c2 (T ++ X) rfl HS2.out (rowB none) true (some ⟨g, o + n * 3, none⟩) 0 (c - n) [] rfl (Reads.zero _ _ _ _ _) hUo (by unfold maxLen; omega) (by omega) ?_))
          intro A3 c3 w3 h1 h2 h3
          have hk4 : Keeps NoB w w3 := HK3.out.trans' h2 (fun _ _ => id) (fun j hj hr => by have := HB2.out j hr; omega)
          have hB3 : ∀ j, rowB A3 j → w.heap.size ≤ j := fun j hj => (h3 j hj).elim (HB2.out j) (fun e => Nat.le_trans HK3.out.size e)
          have hen : n + 1 + (n - n) = n + 1 := by omega
          try rw [hen]
          have h1' : Slab w3 108 3 A3 (n + 1) c3 ((T ++ X) ++ []) := by
            first
            | (rw [List.append_nil]; exact h1)
            | exact h1
            | (rw [List.append_assoc]; exact h1)
            | (rw [hen] at h1; exact h1)
            | (rw [hen] at h1; rw [List.append_assoc]; exact h1)
          have HF := hide (HEND.out _ _ _ hk4 h1' hB3)
          have hb := H.out.blk.keep hk4 id
          have g0 : w3.cell? ⟨r, 1, none⟩ = some (.slice (some ⟨g, o, none⟩) M.length c) := hb.cell 1
          have f0 : w3.frozen? ⟨r, 1, none⟩ = false := hb.free 1
          clear h1 h1' h2 h3 hk4 hB3 hb k2 hen
          go_wp2_with fail
          go_ret
          show RPost w r A (some ⟨g, o, none⟩) P (goW ⟨xr, xw, xm⟩ M) (canW xr M) _ _
          rw [HE.out.1, HE.out.2]
          exact HF.out
end Go.Proofs.YtjmljjmnamfljaaGreat
