/- The document's names in memory: Put, End. -/
import Derived.Test.YthoaaihghgabcaaGreatRef
namespace Go.Proofs.YthoaaihghgabcaaGreat
open Go.RowKit Go.Maps

theorem nms_ins (L : List Nm) (k : Nat) (s : ByteArray) (p : Int) : nms (L.take k ++ (s, p) :: L.drop k) = ((nms L).take (k * 2) ++ [.string s, .int .i64 p]) ++ (nms L).drop (k * 2) := by
  rw [nms_append, nms_take, ← nms_drop, List.append_assoc]; rfl
theorem rput_end {w w2 w3 : World} {r c c' n k : Nat} {B B' : Option Addr} {s : ByteArray} {p : Int} {R : List Nm} (h : RefAt w r B c R) (hn : R.length = n) (hk : k ≤ n) (hk2 : Keeps NoB w w2) (hs : Slab w2 42 2 B' (n + 1) c' (((nms R).take (k * 2) ++ [.string s, .int .i64 p]) ++ (nms R).drop (k * 2))) (hB : ∀ j, rowB B' j → w.heap.size ≤ j) (hw : w2.setCell ⟨r, 0, none⟩ (.slice B' (n + 1) c') = w3) :
    RPost w r B (R.take k ++ (s, p) :: R.drop k) true (.returned (.bool true)) w3 := by
  subst hw
  have hb := h.blk.keep hk2 id
  have hl : (R.take k ++ (s, p) :: R.drop k).length = n + 1 := by
    rw [List.length_append, List.length_cons, List.length_take, List.length_drop]; omega
  have hkr : Keeps (fun j => j = r) w2 (w2.setCell ⟨r, 0, none⟩ (.slice B' (n + 1) c')) := (Keeps.refl (fun j => j = r) w2).setCell (p := ⟨r, 0, none⟩) (.inl rfl) _
  refine ⟨B', c', rfl, ⟨?_, ?_⟩, hk2.trans' hkr (fun _ _ h => h.elim) (fun _ _ h => .inl h), Moved.new hB⟩
  · rw [hl]; exact hb.put 0 _
  · rw [hl, nms_ins]
    exact hs.keep hkr (fun j hj e => by have := hB j hj; have := h.blk.lt; omega)

set_option maxRecDepth 100000 in
set_option maxHeartbeats 4000000 in
theorem rput_any (r c : Nat) (B : Option Addr) (s : ByteArray) (p : Int) (R R' : List Nm) (ok : Bool) (w : World) (h : RefAt w r B c R) (hu : Up R) (hl : R.length ≤ 1000000) (hok : PutsTo R s p ok R') :
    Calls Tryz.prog 21 #[.pointer (some ⟨r, 0, none⟩), .string s, .int .i64 p] w (RPost w r B R' ok) := by
  obtain ⟨i0, hi0, hz0, hz1, hz2⟩ := info_parts Tryz.info42
  obtain ⟨n, hn⟩ : ∃ n, R.length = n := ⟨_, rfl⟩
  have k0 : w.cell? ⟨r, 0, none⟩ = some (.slice B n c) := by rw [← hn]; exact h.blk.cell 0
  have HROW := hide (show Slab w 42 2 B n c (nms R) from hn ▸ h.row)
  have H := hide h
  have HN := hide hn; have HU := hide hu; have HOK := hide hok
  rw [hn] at hl
  clear h hn hu hok
  go_enter Tryz.func21, Tryz.ntmps21
  go_wp2_with fail
  go_loopg [7, 8] n (fun g s7 s8 wx => ∃ k at' : Nat, k ≤ n ∧ g = n - k ∧ s8 = .int .i64 k ∧ s7 = .int .i64 at' ∧ w = wx ∧ Hid (CutAt R s k at' ∧ ∀ j x, j < k → R[j]? = some x → x.1 ≠ s ∧ x.2 ≠ p))
  case atStart => exact ⟨0, 0, Nat.zero_le _, rfl, rfl, rfl, rfl, hide ⟨CutAt.zero _ _, fun j x h => by omega⟩⟩
  case round =>
    obtain ⟨k, at', hk, rfl, rfl, rfl, rfl, HI⟩ := hrel
    by_cases hlt : k < n
    · obtain ⟨⟨g, o, sp⟩, hA, hs, _, _, hc⟩ := HROW.out.reads.2 (by omega)
      simp only at hs
      subst hs hA
      obtain ⟨x, hx⟩ : ∃ x, R[k]? = some x := ⟨_, List.getElem?_eq_getElem (by have := HN.out; omega)⟩
      obtain ⟨e0, e1⟩ := nms_at hx
      obtain ⟨t, q⟩ := x
      have c0 : w.cell? ⟨g, o + k * 2, none⟩ = some (.string t) := (hc _ _ e0).1
      have c1 : w.cell? ⟨g, o + k * 2 + 1, none⟩ = some (.int .i64 q) := (hc _ _ e1).1
      have HX := hide hx
      have hkz : (k : Int) < n := by omega
      have hk0 : (0 : Int) ≤ k := by omega
      clear hc e0 e1 hx
      by_cases ht : t = s
      · subst ht
        have HE := hide (show ok = false ∧ R' = R from by
          rcases HOK.out with ⟨h1, _⟩ | ⟨_, h2⟩
          · rw [hasN_at HX.out rfl] at h1; cases h1
          · exact h2)
        clear HI c1
        go_wp2_with fail
        go_ret
        rw [HE.out.2]
        exact rpost_same H.out HE.out.1
      · have hb := strs_ne ht
        by_cases hq : q = p
        · have hqb : (q == p) = true := by simp [hq]
          have HE := hide (show ok = false ∧ R' = R from by
            rcases HOK.out with ⟨_, h1, _⟩ | ⟨_, h2⟩
            · rw [hasP_at HX.out hq] at h1; cases h1
            · exact h2)
          clear HI hq
          go_wp2_with fail
          go_ret
          rw [HE.out.2]
          exact rpost_same H.out HE.out.1
        · have hqb : (q == p) = false := int_ne hq
          have HT := hide (And.intro ht hq)
          clear ht hq
          have HI2 := hide (show ∀ j x, j < k + 1 → R[j]? = some x → x.1 ≠ s ∧ x.2 ≠ p from fun j x hj hx => by
            rcases Nat.lt_succ_iff_lt_or_eq.1 hj with h | rfl
            · exact HI.out.2 j x h hx
            · rw [HX.out] at hx; cases hx; exact HT.out)
          by_cases hlt2 : key t < key s
          · have hle := less9 hlt2
            have HC := hide (HI.out.1.up HU.out HX.out hlt2)
            clear hlt2 HI
            go_wp2_with fail
            go_roundg (n - (k + 1))
            case measure => omega
            case rel => exact ⟨k + 1, k + 1, by omega, rfl, by go_num, by go_num, rfl, hide ⟨HC.out, HI2.out⟩⟩
          · have hle := nless9 hlt2
            have HC := hide (HI.out.1.stay HX.out hlt2)
            clear hlt2 HI
            go_wp2_with fail
            go_roundg (n - (k + 1))
            case measure => omega
            case rel => exact ⟨k + 1, at', by omega, rfl, by go_num, rfl, rfl, hide ⟨HC.out, HI2.out⟩⟩
    · obtain rfl : n = k := by omega
      have hkz : ¬ (n : Int) < n := by omega
      have hcut : CutAt R s R.length at' := by rw [HN.out]; exact HI.out.1
      have hle : at' ≤ n := HI.out.1.le
      have hN1 : hasN s R = false := hasN_all (fun j x hj hx => (HI.out.2 j x (by rw [← HN.out]; exact hj) hx).1)
      have hP1 : hasP p R = false := hasP_all (fun j x hj hx => (HI.out.2 j x (by rw [← HN.out]; exact hj) hx).2)
      have HE := hide (show ok = true ∧ R' = R.take at' ++ (s, p) :: R.drop at' from by
        rcases HOK.out with ⟨_, _, h1, h2⟩ | ⟨h1, _⟩
        · exact ⟨h1, by rw [h2]; exact ins_cut hcut (fun hm => by rw [hasN_iff.2 hm] at hN1; cases hN1)⟩
        · rcases h1 with h1 | h1
          · rw [hN1] at h1; cases h1
          · rw [hP1] at h1; cases h1)
      clear HI HOK hcut hN1 hP1 hlt hk
      have hnc : n ≤ c := HROW.out.2.1
      have hat0 : (0 : Int) ≤ at' := by omega
      have hatn : (at' : Int) ≤ n := by omega
      have hatc : at' ≤ c := by omega
      have hatcz : (at' : Int) ≤ c := by omega
      have HK1 := hide (((Keeps.refl NoB w).alloc (.cells #[] 42)) : Keeps NoB w (w.alloc (.cells #[] 42)))
      have k1 : (w.alloc (.cells #[] 42)).cell? ⟨r, 0, none⟩ = some (.slice B n c) := HK1.out.cell id k0
      have HM := hide (Slab.made w 42 2)
      obtain ⟨T, hT⟩ : ∃ T, (nms R).take (at' * 2) = T := ⟨_, rfl⟩
      obtain ⟨U, hU⟩ : ∃ U, (nms R).drop (at' * 2) = U := ⟨_, rfl⟩
      obtain ⟨X, hX⟩ : ∃ X : List Value, [.string s, .int .i64 p] = X := ⟨_, rfl⟩
      have hTo : ∀ u ∈ T, u.oneCell' = true := fun u hu => nms_ones _ u (List.mem_of_mem_take (hT ▸ hu))
      have hUo : ∀ u ∈ U, u.oneCell' = true := fun u hu => nms_ones _ u (List.mem_of_mem_drop (hU ▸ hu))
      have hXo : ∀ u ∈ X, u.oneCell' = true := fun u hu => by
        rw [← hX] at hu; simp only [List.mem_cons, List.not_mem_nil, or_false] at hu; rcases hu with rfl | rfl <;> rfl
      have HXR := hide (show ∀ wa : World, Reads (wa.alloc (.cells #[.string s, .int .i64 p] 42)) (fun _ => True) true 2 (some ⟨wa.heap.size, 0, none⟩) 1 X from by
        intro wa; rw [← hX]; exact two_reads (Blk.new wa 42 #[.string s, .int .i64 p]))
      have HTR := hide (show Reads (w.alloc (.cells #[] 42)) (rowB B) true 2 B at' T from by rw [← hT]; exact (Slab.part HROW.out hle).keep HK1.out (fun _ _ => id))
      have HEND := hide (show ∀ (B' : Option Addr) (c' : Nat) (w2 : World), Keeps NoB w w2 → Slab w2 42 2 B' (n + 1) c' ((T ++ X) ++ U) → (∀ j, rowB B' j → w.heap.size ≤ j) → RPost w r B (R.take at' ++ (s, p) :: R.drop at') true (.returned (.bool true)) (w2.setCell ⟨r, 0, none⟩ (.slice B' (n + 1) c')) from by
        intro B' c' w2 h1 h2 h3
        rw [← hT, ← hU, ← hX] at h2
        exact rput_end H.out HN.out hle h1 h2 h3 rfl)
      have HUR := hide (show ∀ g o, B = some ⟨g, o, none⟩ → Reads w (rowB B) true 2 (some ⟨g, o + at' * 2, none⟩) (n - at') U from by
        rintro g o rfl; rw [← hU]; exact Reads.part HROW.out.reads hle)
      have HU0 := hide (show at' = n → U = [] from by
        rintro rfl; rw [← hU, List.drop_eq_nil_of_le (by rw [nms_len, HN.out]; omega)])
      have HBS := hide (show B = none ∧ c = 0 ∨ ∃ g o, B = some ⟨g, o, none⟩ from by
        rcases HROW.out.2.2.2 with h | ⟨g, o, cur, h, _⟩
        · exact .inl h
        · exact .inr ⟨g, o, h⟩)
      clear hT hU hX
      obtain ⟨RR, hRR⟩ : ∃ RR, R.take at' ++ (s, p) :: R.drop at' = RR := ⟨_, rfl⟩
      rw [hRR] at HEND HE
      clear hRR
      rcases HBS.out with ⟨rfl, rfl⟩ | ⟨g, o, rfl⟩
      · obtain rfl : n = 0 := by omega
        obtain rfl : at' = 0 := by omega
        obtain rfl : U = [] := HU0.out rfl
        go_wp2_with (at_builtin; go_loud (refine wpList_append_any _ rfl (.tmp 53) (.tmp 59) 28 rfl 42 i0 _ 2 24 Tryz.underlying28 hi0 hz0 hz1 hz2 rfl (by omega) (some ⟨w.heap.size, 0, none⟩) 0 0 [] rfl HM.out (rowB none) true none 0 0 T rfl HTR.out hTo (by unfold maxLen; omega) (by omega) ?_))
        intro A1 c1 w1 h1 h2 h3
        have hk3 : Keeps NoB w w1 := HK1.out.trans' h2 (fun _ _ => id) (fun j hj ⟨o', e⟩ => by injection e with e; injection e with e; omega)
        have hB1 : ∀ j, rowB A1 j → w.heap.size ≤ j := fun j hj => by
          rcases h3 j hj with ⟨o', e⟩ | e
          · injection e with e; injection e with e; omega
          · exact Nat.le_trans HK1.out.size e
        have HS1 := hide (h1.fresh ((Keeps.refl NoB w1).alloc (.cells #[.string s, .int .i64 p] 42))); have HK2 := hide (hk3.alloc (.cells #[.string s, .int .i64 p] 42)); have HB1 := hide hB1
        clear h1 h2 h3 hk3 hB1 HM k1
        go_wp2_with (at_builtin; go_loud (refine wpList_append_any _ rfl (.tmp 61) (.tmp 65) 28 rfl 42 i0 _ 2 24 Tryz.underlying28 hi0 hz0 hz1 hz2 rfl (by omega) A1 0 c1 T rfl HS1.out (fun _ => True) true (some ⟨w1.heap.size, 0, none⟩) 1 1 X rfl (HXR.out w1) hXo (by unfold maxLen; omega) (by omega) ?_))
        intro A2 c2 w2 h1 h2 h3
        have hk3 : Keeps NoB w w2 := HK2.out.trans' h2 (fun _ _ => id) (fun j hj hr => by have := HB1.out j hr; omega)
        have hB2 : ∀ j, rowB A2 j → w.heap.size ≤ j := fun j hj => (h3 j hj).elim (HB1.out j) (fun e => Nat.le_trans HK2.out.size e)
        have HS2 := hide h1; have HK3 := hide hk3; have HB2 := hide hB2
        have k2 : w2.cell? ⟨r, 0, none⟩ = some (.slice none 0 0) := hk3.cell id k0
        clear h1 h2 h3 hk3 hB2 HS1 HB1
        go_wp2_with (at_builtin; go_loud (refine wpList_append_any _ rfl (.tmp 68) (.tmp 74) 28 rfl 42 i0 _ 2 24 Tryz.underlying28 hi0 hz0 hz1 hz2 rfl (by omega) A2 (0 + 1) c2 (T ++ X) rfl HS2.out (rowB none) true none 0 0 [] rfl (Reads.zero _ _ _ _ _) hUo (by unfold maxLen; omega) (by omega) ?_))
        intro A3 c3 w3 h1 h2 h3
        have hk4 : Keeps NoB w w3 := HK3.out.trans' h2 (fun _ _ => id) (fun j hj hr => by have := HB2.out j hr; omega)
        have hB3 : ∀ j, rowB A3 j → w.heap.size ≤ j := fun j hj => (h3 j hj).elim (HB2.out j) (fun e => Nat.le_trans HK3.out.size e)
        have hen : 0 + 1 + (0 - 0) = 0 + 1 := by omega
        try rw [hen]
        have h1' : Slab w3 42 2 A3 (0 + 1) c3 ((T ++ X) ++ []) := by
          first
          | (rw [List.append_nil]; exact h1)
          | exact h1
          | (rw [List.append_assoc]; exact h1)
          | (rw [hen] at h1; exact h1)
          | (rw [hen] at h1; rw [List.append_assoc]; exact h1)
        have HF := hide (HEND.out _ _ _ hk4 h1' hB3)
        have hb := H.out.blk.keep hk4 id
        have g0 : w3.cell? ⟨r, 0, none⟩ = some (.slice none R.length 0) := hb.cell 0
        have f0 : w3.frozen? ⟨r, 0, none⟩ = false := hb.free 0
        clear h1 h1' h2 h3 hk4 hB3 hb k2 hen
        go_wp2_with fail
        go_ret
        rw [HE.out.1, HE.out.2]
        exact HF.out
      · go_wp2_with (at_builtin; go_loud (refine wpList_append_any _ rfl (.tmp 53) (.tmp 59) 28 rfl 42 i0 _ 2 24 Tryz.underlying28 hi0 hz0 hz1 hz2 rfl (by omega) (some ⟨w.heap.size, 0, none⟩) 0 0 [] rfl HM.out (rowB (some ⟨g, o, none⟩)) true (some ⟨g, o, none⟩) at' c T rfl HTR.out hTo (by unfold maxLen; omega) (by omega) ?_))
        intro A1 c1 w1 h1 h2 h3
        have hk3 : Keeps NoB w w1 := HK1.out.trans' h2 (fun _ _ => id) (fun j hj ⟨o', e⟩ => by injection e with e; injection e with e; omega)
        have hB1 : ∀ j, rowB A1 j → w.heap.size ≤ j := fun j hj => by
          rcases h3 j hj with ⟨o', e⟩ | e
          · injection e with e; injection e with e; omega
          · exact Nat.le_trans HK1.out.size e
        have HS1 := hide (h1.fresh ((Keeps.refl NoB w1).alloc (.cells #[.string s, .int .i64 p] 42))); have HK2 := hide (hk3.alloc (.cells #[.string s, .int .i64 p] 42)); have HB1 := hide hB1
        clear h1 h2 h3 hk3 hB1 HM k1
        go_wp2_with (at_builtin; go_loud (refine wpList_append_any _ rfl (.tmp 61) (.tmp 65) 28 rfl 42 i0 _ 2 24 Tryz.underlying28 hi0 hz0 hz1 hz2 rfl (by omega) A1 at' c1 T rfl HS1.out (fun _ => True) true (some ⟨w1.heap.size, 0, none⟩) 1 1 X rfl (HXR.out w1) hXo (by unfold maxLen; omega) (by omega) ?_))
        intro A2 c2 w2 h1 h2 h3
        have hk3 : Keeps NoB w w2 := HK2.out.trans' h2 (fun _ _ => id) (fun j hj hr => by have := HB1.out j hr; omega)
        have hB2 : ∀ j, rowB A2 j → w.heap.size ≤ j := fun j hj => (h3 j hj).elim (HB1.out j) (fun e => Nat.le_trans HK2.out.size e)
        have HS2 := hide h1; have HK3 := hide hk3; have HB2 := hide hB2
        have k2 : w2.cell? ⟨r, 0, none⟩ = some (.slice (some ⟨g, o, none⟩) n c) := hk3.cell id k0
        clear h1 h2 h3 hk3 hB2 HS1 HB1
        by_cases hca : c = at'
        · subst hca
          obtain rfl : n = c := by omega
          obtain rfl : U = [] := HU0.out rfl
          go_wp2_with (at_builtin; go_loud (refine wpList_append_any _ rfl (.tmp 68) (.tmp 74) 28 rfl 42 i0 _ 2 24 Tryz.underlying28 hi0 hz0 hz1 hz2 rfl (by omega) A2 (n + 1) c2 (T ++ X) rfl HS2.out (rowB none) true (some ⟨g, o, none⟩) 0 0 [] rfl (Reads.zero _ _ _ _ _) hUo (by unfold maxLen; omega) (by omega) ?_))
          intro A3 c3 w3 h1 h2 h3
          have hk4 : Keeps NoB w w3 := HK3.out.trans' h2 (fun _ _ => id) (fun j hj hr => by have := HB2.out j hr; omega)
          have hB3 : ∀ j, rowB A3 j → w.heap.size ≤ j := fun j hj => (h3 j hj).elim (HB2.out j) (fun e => Nat.le_trans HK3.out.size e)
          have hen : n + 1 + (n - n) = n + 1 := by omega
          try rw [hen]
          have h1' : Slab w3 42 2 A3 (n + 1) c3 ((T ++ X) ++ []) := by
            first
            | (rw [List.append_nil]; exact h1)
            | exact h1
            | (rw [List.append_assoc]; exact h1)
            | (rw [hen] at h1; exact h1)
            | (rw [hen] at h1; rw [List.append_assoc]; exact h1)
          have HF := hide (HEND.out _ _ _ hk4 h1' hB3)
          have hb := H.out.blk.keep hk4 id
          have g0 : w3.cell? ⟨r, 0, none⟩ = some (.slice (some ⟨g, o, none⟩) R.length n) := hb.cell 0
          have f0 : w3.frozen? ⟨r, 0, none⟩ = false := hb.free 0
          clear h1 h1' h2 h3 hk4 hB3 hb k2 hen
          go_wp2_with fail
          go_ret
          rw [HE.out.1, HE.out.2]
          exact HF.out
        · go_wp2_with (at_builtin; go_loud (refine wpList_append_any _ rfl (.tmp 68) (.tmp 74) 28 rfl 42 i0 _ 2 24 Tryz.underlying28 hi0 hz0 hz1 hz2 rfl (by omega) A2 (at' + 1) c2 (T ++ X) rfl HS2.out (rowB (some ⟨g, o, none⟩)) true (some ⟨g, o + at' * 2, none⟩) (n - at') (c - at') U rfl ((HUR.out g o rfl).keep HK3.out (fun _ _ => id)) hUo (by unfold maxLen; omega) (by omega) ?_))
          intro A3 c3 w3 h1 h2 h3
          have hk4 : Keeps NoB w w3 := HK3.out.trans' h2 (fun _ _ => id) (fun j hj hr => by have := HB2.out j hr; omega)
          have hB3 : ∀ j, rowB A3 j → w.heap.size ≤ j := fun j hj => (h3 j hj).elim (HB2.out j) (fun e => Nat.le_trans HK3.out.size e)
          have hen : at' + 1 + (n - at') = n + 1 := by omega
          try rw [hen]
          have h1' : Slab w3 42 2 A3 (n + 1) c3 ((T ++ X) ++ U) := by
            first
            | (rw [List.append_nil]; exact h1)
            | exact h1
            | (rw [List.append_assoc]; exact h1)
            | (rw [hen] at h1; exact h1)
            | (rw [hen] at h1; rw [List.append_assoc]; exact h1)
          have HF := hide (HEND.out _ _ _ hk4 h1' hB3)
          have hb := H.out.blk.keep hk4 id
          have g0 : w3.cell? ⟨r, 0, none⟩ = some (.slice (some ⟨g, o, none⟩) R.length c) := hb.cell 0
          have f0 : w3.frozen? ⟨r, 0, none⟩ = false := hb.free 0
          clear h1 h1' h2 h3 hk4 hB3 hb k2 hen
          go_wp2_with fail
          go_ret
          rw [HE.out.1, HE.out.2]
          exact HF.out
end Go.Proofs.YthoaaihghgabcaaGreat
