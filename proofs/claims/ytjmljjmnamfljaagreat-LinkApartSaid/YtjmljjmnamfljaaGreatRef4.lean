/- The document's links in memory: Of. -/
import Derived.Test.YtjmljjmnamfljaaGreatRef3
namespace Go.Proofs.YtjmljjmnamfljaaGreat
set_option maxRecDepth 100000
open Go.RowKit Go.Maps

theorem fold_len (a : Int) : ∀ (P : List Pr) (out : List Int), (P.foldl (inO a) out).length ≤ out.length + P.length
  | [], out => Nat.le_refl _
  | p :: P, out => by
    have h := fold_len a P (inO a out p)
    have : (inO a out p).length ≤ out.length + 1 := by
      unfold inO
      split
      · rw [insI_len]; exact Nat.le_refl _
      · omega
    rw [List.foldl_cons, List.length_cons]; omega
theorem ofR_len (a : Int) (P : List Pr) : (ofR a P).length ≤ P.length := by have := fold_len a P []; simpa [ofR] using this
abbrev intC (l : List Int) : List Value := l.map (Value.int .i64)
theorem intC_ones (l : List Int) : ∀ u ∈ intC l, u.oneCell' = true := fun u hu => by obtain ⟨x, _, rfl⟩ := List.mem_map.1 hu; rfl
theorem intC_ins (l : List Int) (k : Nat) (x : Int) : intC (l.take k ++ x :: l.drop k) = ((intC l).take (k * 1) ++ [.int .i64 x]) ++ (intC l).drop (k * 1) := by
  simp [intC, List.map_take, List.map_drop]

set_option maxRecDepth 100000 in
set_option maxHeartbeats 8000000 in
theorem rof_any (w : World) (r c d : Nat) (A B : Option Addr) (P : List Pr) (M : List Mon) (L : LK) (a : Int) (h : RefAt w r A c B d P M) (hP : P.length ≤ 1000000) (hrel : Rel P L) : Calls Tryz.prog 54 #[.pointer (some ⟨r, 0, none⟩), .int .i64 a] w (IntsPost w (ofR a P)) := by
  obtain ⟨i0, ni0, nz0, nz1, nz2⟩ := info_parts Tryz.info3
  have H := hide h; have HREL := hide hrel
  obtain ⟨n, hn⟩ : ∃ n, P.length = n := ⟨_, rfl⟩
  have HN := hide hn
  rw [hn] at hP
  clear h hn hrel
  go_enter Tryz.func54, Tryz.ntmps54
  go_wp2_with fail
  go_loopg [5, 6] n (fun g s5 s6 wx => ∃ (i : Nat) (X : Option Addr) (cX : Nat), i ≤ n ∧ g = n - i ∧ s6 = .int .i64 i ∧ s5 = .slice X (ofR a (P.take i)).length cX ∧ Slab wx 3 1 X (ofR a (P.take i)).length cX (intC (ofR a (P.take i))) ∧ Keeps NoB w wx ∧ ∀ k, rowB X k → w.heap.size ≤ k)
  case atStart => exact ⟨0, none, 0, Nat.zero_le _, rfl, rfl, rfl, Slab.nil _ _ _, Keeps.refl _ _, fun k ⟨o, e⟩ => by cases e⟩
  case round =>
    obtain ⟨i, X, cX, hi, rfl, rfl, rfl, hs, hk, hf⟩ := hrel
    have HS := hide hs; have HK := hide hk; have HF := hide hf
    clear hs hk hf
    have hi0 : (0 : Int) ≤ i := by omega
    have HH := hide (H.out.fresh HK.out)
    have k0 : wr.cell? ⟨r, 0, none⟩ = some (.slice A n c) := by rw [← HN.out]; exact HH.out.blk.cell 0
    have hlen : (ofR a (P.take i)).length ≤ i := Nat.le_trans (ofR_len _ _) (List.length_take_le _ _)
    have HRI := hide (ofR_rise HREL.out a i)
    by_cases hin : i < n
    · have hiz : (i : Int) < n := by omega
      obtain ⟨p, hp⟩ : ∃ p, P[i]? = some p := ⟨_, List.getElem?_eq_getElem (by have := HN.out; omega)⟩
      obtain ⟨g1, o1, hA, p0, p1⟩ := pr_reads HH.out.one.reads hp
      subst hA
      have HT := hide (ofR_take (a := a) hp)
      obtain ⟨x1, x2⟩ := p
      simp only at p0 p1
      clear hp
      obtain ⟨L0, hL0⟩ : ∃ L0, ofR a (P.take i) = L0 := ⟨_, rfl⟩
      rw [hL0] at HS HT HRI hlen ⊢
      clear hL0
      obtain ⟨q, hq⟩ : ∃ q, L0.length = q := ⟨_, rfl⟩
      rw [hq] at HS hlen ⊢
      have HQ := hide hq
      clear hq
      have hka : Keeps NoB wr (wr.alloc (.cells #[.int .i64 x1, .int .i64 x2] 106)) := (Keeps.refl NoB wr).alloc _
      have HS2 := hide (HS.out.fresh hka)
      have HK2 := hide (HK.out.alloc (.cells #[.int .i64 x1, .int .i64 x2] 106))
      clear hka
      by_cases hx1 : x1 = a
      · have hq1 : (x1 == a) = true := by simpa using hx1
        have HO := hide (show inO a L0 (x1, x2) = insI x2 L0 from by unfold inO other; simp [hx1])
        clear hx1
        go_wp2_with fail
        generalize hws : wr.alloc (.cells #[.int .i64 x1, .int .i64 x2] 106) = ws at *
        clear hws k0 p0 p1 HH HK HS
        rcases HS2.out.2.2.2 with ⟨rfl, hc0⟩ | ⟨g, o, cur, rfl, _⟩
        · obtain rfl : cX = 0 := hc0
          obtain rfl : q = 0 := by have := HS2.out.2.1; omega
          have hcut : insI x2 L0 = L0.take 0 ++ x2 :: L0.drop 0 := by
            obtain rfl : L0 = [] := List.eq_nil_of_length_eq_zero HQ.out
            rfl
          have hle : 0 ≤ 0 := Nat.le_refl _
          go_loopg [9] 0 (fun g s9 wx => g = 0 ∧ s9 = .int .i64 0 ∧ ws = wx)
          case atStart => exact ⟨rfl, rfl, rfl⟩
          case round =>
            obtain ⟨rfl, rfl, rfl⟩ := hrel
            have hnc : 0 ≤ 0 := HS2.out.2.1
            have hat0 : (0 : Int) ≤ 0 := by omega
            have hatn : (0 : Int) ≤ 0 := by omega
            have hatc : 0 ≤ 0 := by omega
            have hatcz : (0 : Int) ≤ 0 := by omega
            have HK1 := hide (((Keeps.refl NoB ws).alloc (.cells #[] 3)) : Keeps NoB ws (ws.alloc (.cells #[] 3)))
            have HM := hide (Slab.made ws 3 1)
            have HCUT := hide hcut
            clear hcut
            obtain ⟨T, hT⟩ : ∃ T, (intC L0).take (0 * 1) = T := ⟨_, rfl⟩
            obtain ⟨U, hU⟩ : ∃ U, (intC L0).drop (0 * 1) = U := ⟨_, rfl⟩
            have hTo : ∀ u ∈ T, u.oneCell' = true := fun u hu => intC_ones _ u (List.mem_of_mem_take (hT ▸ hu))
            have hUo : ∀ u ∈ U, u.oneCell' = true := fun u hu => intC_ones _ u (List.mem_of_mem_drop (hU ▸ hu))
            have HTR := hide (show Reads (ws.alloc (.cells #[] 3)) (rowB none) true 1 none 0 T from by rw [← hT]; exact (Slab.part HS2.out hle).keep HK1.out (fun _ _ => id))
            have HEND := hide (show ∀ (A3 : Option Addr) (c3 : Nat) (w3 : World), Slab w3 3 1 A3 (0 + 1) c3 ((T ++ [.int .i64 x2]) ++ U) → Value.slice A3 (0 + 1) c3 = Value.slice A3 (ofR a (P.take (i + 1))).length c3 ∧ Slab w3 3 1 A3 (ofR a (P.take (i + 1))).length c3 (intC (ofR a (P.take (i + 1)))) from by
              intro A3 c3 w3 h1
              rw [HT.out, HO.out, insI_len, HQ.out]
              rw [← hT, ← hU] at h1
              exact ⟨rfl, by rw [HCUT.out, intC_ins]; exact h1⟩)
            have HU0 := hide (show 0 = 0 → U = [] from by
              intro e; rw [← hU, List.drop_eq_nil_of_le (by rw [List.length_map, HQ.out]; omega)])
            obtain rfl : U = [] := by first | exact HU0.out rfl | exact HU0.out trivial
            clear hT hU
            go_wp2_with (at_builtin; go_loud (refine wpList_append_any _ rfl (.tmp 54) (.tmp 57) 25 rfl 3 i0 _ 1 8 Tryz.underlying25 ni0 nz0 nz1 nz2 rfl (by omega) (some ⟨ws.heap.size, 0, none⟩) 0 0 [] rfl HM.out (rowB none) true none 0 0 T rfl HTR.out hTo (by unfold maxLen; omega) (by omega) ?_))
            intro A1 c1 w1 h1 h2 h3
            have hk3 : Keeps NoB ws w1 := HK1.out.trans' h2 (fun _ _ => id) (fun j hj ⟨o', e⟩ => by injection e with e; injection e with e; omega)
            have hB1 : ∀ j, rowB A1 j → ws.heap.size ≤ j := fun j hj => by
              rcases h3 j hj with ⟨o', e⟩ | e
              · injection e with e; injection e with e; omega
              · exact Nat.le_trans HK1.out.size e
            have HS1 := hide (h1.fresh ((Keeps.refl NoB w1).alloc (.cells #[.int .i64 x2] 3))); have HKB := hide (hk3.alloc (.cells #[.int .i64 x2] 3)); have HB1 := hide hB1
            clear h1 h2 h3 hk3 hB1 HM
            go_wp2_with (at_builtin; go_loud (refine wpList_append_any _ rfl (.tmp 59) (.tmp 61) 25 rfl 3 i0 _ 1 8 Tryz.underlying25 ni0 nz0 nz1 nz2 rfl (by omega) A1 0 c1 T rfl HS1.out (fun _ => True) true (some ⟨w1.heap.size, 0, none⟩) 1 1 [.int .i64 x2] rfl (lit_reads (xs := [x2]) (Blk.new w1 3 #[.int .i64 x2])) (intC_ones [x2]) (by unfold maxLen; omega) (by omega) ?_))
            intro A2 c2 w2 h1 h2 h3
            have hk3 : Keeps NoB ws w2 := HKB.out.trans' h2 (fun _ _ => id) (fun j hj hr => by have := HB1.out j hr; omega)
            have hB2 : ∀ j, rowB A2 j → ws.heap.size ≤ j := fun j hj => (h3 j hj).elim (HB1.out j) (fun e => Nat.le_trans HKB.out.size e)
            have HSC := hide h1; have HK3 := hide hk3; have HB2 := hide hB2
            clear h1 h2 h3 hk3 hB2 HS1 HB1
            go_wp2_with (at_builtin; go_loud (refine wpList_append_any _ rfl (.tmp 63) (.tmp 66) 25 rfl 3 i0 _ 1 8 Tryz.underlying25 ni0 nz0 nz1 nz2 rfl (by omega) A2 (0 + 1) c2 (T ++ [.int .i64 x2]) rfl HSC.out (rowB none) true none 0 0 [] rfl (Reads.zero _ _ _ _ _) hUo (by unfold maxLen; omega) (by omega) ?_))
            intro A3 c3 w3 h1 h2 h3
            have hk4 : Keeps NoB ws w3 := HK3.out.trans' h2 (fun _ _ => id) (fun j hj hr => by have := HB2.out j hr; omega)
            have hB3 : ∀ j, rowB A3 j → ws.heap.size ≤ j := fun j hj => (h3 j hj).elim (HB2.out j) (fun e => Nat.le_trans HK3.out.size e)
            have hen : 0 + 1 + (0 - 0) = 0 + 1 := by omega
            try rw [hen]
            have h1' : Slab w3 3 1 A3 (0 + 1) c3 ((T ++ [.int .i64 x2]) ++ []) := by
              first
              | (rw [List.append_nil]; exact h1)
              | exact h1
              | (rw [List.append_assoc]; exact h1)
              | (rw [hen] at h1; exact h1)
              | (rw [hen] at h1; rw [List.append_assoc]; exact h1)
            have HFI := hide (HEND.out _ _ _ h1')
            have HKF := hide (HK2.out.trans' hk4 (fun _ _ => id) (fun _ _ => id))
            have HFF := hide (show ∀ k, rowB A3 k → w.heap.size ≤ k from fun k hr => Nat.le_trans HK2.out.size (hB3 k hr))
            clear h1 h1' h2 h3 hk4 hB3 hen HK3 HB2 HSC
            go_wp2_with fail
            go_roundg (n - (i + 1))
            case measure => omega
            case rel => exact ⟨i + 1, A3, c3, by omega, rfl, by go_num, HFI.out.1, HFI.out.2, HKF.out, HFF.out⟩
        · go_loopg [9] q (fun g s9 wx => ∃ at' : Nat, at' ≤ q ∧ g = at' ∧ s9 = .int .i64 at' ∧ ws = wx ∧ Hid (∀ (j : Nat) (y : Int), L0[j]? = some y → at' ≤ j → x2 < y))
          case atStart => exact ⟨q, Nat.le_refl _, rfl, rfl, rfl, hide (fun j y hj hle => by have := (List.getElem?_eq_some_iff.1 hj).1; have := HQ.out; omega)⟩
          case round =>
            obtain ⟨at', hle, hg, rfl, rfl, HI⟩ := hrel
            obtain rfl := hg.symm
            have hat0 : (0 : Int) ≤ at' := by omega
            by_cases hpos : 0 < at'
            · obtain ⟨j, hj⟩ : ∃ j, at' = j + 1 := ⟨at' - 1, by omega⟩
              have hjq : j < q := by omega
              obtain ⟨y, hy⟩ : ∃ y, L0[j]? = some y := ⟨_, List.getElem?_eq_getElem (by have := HQ.out; omega)⟩
              obtain ⟨g', o', hA', p2⟩ := ints_at HS2.out.reads hy
              injection hA' with hA'; injection hA' with e8 e9; subst e8 e9
              have e1 : IntKind.i64.wrap ((at' : Int) - 1) = (j : Int) := by rw [show (at' : Int) - 1 = j from by omega]; exact IntWalk.i64_in _ (by omega)
              have hjz : (j : Int) < q := by omega
              have hj0 : (0 : Int) ≤ j := by omega
              have hposz : (0 : Int) < at' := by omega
              have HY := hide hy
              clear hy
              by_cases hxy : x2 < y
              · have HI2 := hide (show ∀ (t : Nat) (z : Int), L0[t]? = some z → j ≤ t → x2 < z from fun t z ht hle => by
                  by_cases e : t = j
                  · subst e; rw [HY.out] at ht; injection ht with ht; omega
                  · exact HI.out t z ht (by omega))
                go_wp2_with fail
                go_roundg j
                case measure => omega
                case rel => exact ⟨j, by omega, rfl, rfl, rfl, HI2.out⟩
              · have hcut : insI x2 L0 = L0.take at' ++ x2 :: L0.drop at' := insI_at HRI.out (by have := HQ.out; omega) (fun t z ht hle => HI.out t z ht hle) (fun z _ hz => by
                  rw [show at' - 1 = j from by omega, HY.out] at hz; injection hz with hz; omega)
                clear HI HY hj
                by_cases hca : cX = at'
                · have hqa : q = at' := by have := HS2.out.2.1; omega
                  subst hqa
                  obtain rfl : q = cX := hca.symm
                  have hnc : q ≤ q := HS2.out.2.1
                  have hat0 : (0 : Int) ≤ q := by omega
                  have hatn : (q : Int) ≤ q := by omega
                  have hatc : q ≤ q := by omega
                  have hatcz : (q : Int) ≤ q := by omega
                  have HK1 := hide (((Keeps.refl NoB ws).alloc (.cells #[] 3)) : Keeps NoB ws (ws.alloc (.cells #[] 3)))
                  have HM := hide (Slab.made ws 3 1)
                  have HCUT := hide hcut
                  clear hcut
                  obtain ⟨T, hT⟩ : ∃ T, (intC L0).take (q * 1) = T := ⟨_, rfl⟩
                  obtain ⟨U, hU⟩ : ∃ U, (intC L0).drop (q * 1) = U := ⟨_, rfl⟩
                  have hTo : ∀ u ∈ T, u.oneCell' = true := fun u hu => intC_ones _ u (List.mem_of_mem_take (hT ▸ hu))
                  have hUo : ∀ u ∈ U, u.oneCell' = true := fun u hu => intC_ones _ u (List.mem_of_mem_drop (hU ▸ hu))
                  have HTR := hide (show Reads (ws.alloc (.cells #[] 3)) (rowB (some ⟨g, o, none⟩)) true 1 (some ⟨g, o, none⟩) q T from by rw [← hT]; exact (Slab.part HS2.out hle).keep HK1.out (fun _ _ => id))
                  have HEND := hide (show ∀ (A3 : Option Addr) (c3 : Nat) (w3 : World), Slab w3 3 1 A3 (q + 1) c3 ((T ++ [.int .i64 x2]) ++ U) → Value.slice A3 (q + 1) c3 = Value.slice A3 (ofR a (P.take (i + 1))).length c3 ∧ Slab w3 3 1 A3 (ofR a (P.take (i + 1))).length c3 (intC (ofR a (P.take (i + 1)))) from by
                    intro A3 c3 w3 h1
                    rw [HT.out, HO.out, insI_len, HQ.out]
                    rw [← hT, ← hU] at h1
                    exact ⟨rfl, by rw [HCUT.out, intC_ins]; exact h1⟩)
                  have HU0 := hide (show q = q → U = [] from by
                    intro e; rw [← hU, List.drop_eq_nil_of_le (by rw [List.length_map, HQ.out]; omega)])
                  have HUR := hide (show Reads ws (rowB (some ⟨g, o, none⟩)) true 1 (some ⟨g, o + q * 1, none⟩) (q - q) U from by rw [← hU]; exact Reads.part HS2.out.reads hle)
                  clear hT hU
                  go_wp2_with (at_builtin; go_loud (refine wpList_append_any _ rfl (.tmp 54) (.tmp 57) 25 rfl 3 i0 _ 1 8 Tryz.underlying25 ni0 nz0 nz1 nz2 rfl (by omega) (some ⟨ws.heap.size, 0, none⟩) 0 0 [] rfl HM.out (rowB (some ⟨g, o, none⟩)) true (some ⟨g, o, none⟩) q q T rfl HTR.out hTo (by unfold maxLen; omega) (by omega) ?_))
                  intro A1 c1 w1 h1 h2 h3
                  have hk3 : Keeps NoB ws w1 := HK1.out.trans' h2 (fun _ _ => id) (fun j hj ⟨o', e⟩ => by injection e with e; injection e with e; omega)
                  have hB1 : ∀ j, rowB A1 j → ws.heap.size ≤ j := fun j hj => by
                    rcases h3 j hj with ⟨o', e⟩ | e
                    · injection e with e; injection e with e; omega
                    · exact Nat.le_trans HK1.out.size e
                  have HS1 := hide (h1.fresh ((Keeps.refl NoB w1).alloc (.cells #[.int .i64 x2] 3))); have HKB := hide (hk3.alloc (.cells #[.int .i64 x2] 3)); have HB1 := hide hB1
                  clear h1 h2 h3 hk3 hB1 HM
                  go_wp2_with (at_builtin; go_loud (refine wpList_append_any _ rfl (.tmp 59) (.tmp 61) 25 rfl 3 i0 _ 1 8 Tryz.underlying25 ni0 nz0 nz1 nz2 rfl (by omega) A1 q c1 T rfl HS1.out (fun _ => True) true (some ⟨w1.heap.size, 0, none⟩) 1 1 [.int .i64 x2] rfl (lit_reads (xs := [x2]) (Blk.new w1 3 #[.int .i64 x2])) (intC_ones [x2]) (by unfold maxLen; omega) (by omega) ?_))
                  intro A2 c2 w2 h1 h2 h3
                  have hk3 : Keeps NoB ws w2 := HKB.out.trans' h2 (fun _ _ => id) (fun j hj hr => by have := HB1.out j hr; omega)
                  have hB2 : ∀ j, rowB A2 j → ws.heap.size ≤ j := fun j hj => (h3 j hj).elim (HB1.out j) (fun e => Nat.le_trans HKB.out.size e)
                  have HSC := hide h1; have HK3 := hide hk3; have HB2 := hide hB2
                  clear h1 h2 h3 hk3 hB2 HS1 HB1
                  obtain rfl : U = [] := by first | exact HU0.out rfl | exact HU0.out trivial
                  go_wp2_with (at_builtin; go_loud (refine wpList_append_any _ rfl (.tmp 63) (.tmp 66) 25 rfl 3 i0 _ 1 8 Tryz.underlying25 ni0 nz0 nz1 nz2 rfl (by omega) A2 (q + 1) c2 (T ++ [.int .i64 x2]) rfl HSC.out (rowB none) true (some ⟨g, o, none⟩) 0 0 [] rfl (Reads.zero _ _ _ _ _) hUo (by unfold maxLen; omega) (by omega) ?_))
                  intro A3 c3 w3 h1 h2 h3
                  have hk4 : Keeps NoB ws w3 := HK3.out.trans' h2 (fun _ _ => id) (fun j hj hr => by have := HB2.out j hr; omega)
                  have hB3 : ∀ j, rowB A3 j → ws.heap.size ≤ j := fun j hj => (h3 j hj).elim (HB2.out j) (fun e => Nat.le_trans HK3.out.size e)
                  have hen : q + 1 + (q - q) = q + 1 := by omega
                  try rw [hen]
                  have h1' : Slab w3 3 1 A3 (q + 1) c3 ((T ++ [.int .i64 x2]) ++ []) := by
                    first
                    | (rw [List.append_nil]; exact h1)
                    | exact h1
                    | (rw [List.append_assoc]; exact h1)
                    | (rw [hen] at h1; exact h1)
                    | (rw [hen] at h1; rw [List.append_assoc]; exact h1)
                  have HFI := hide (HEND.out _ _ _ h1')
                  have HKF := hide (HK2.out.trans' hk4 (fun _ _ => id) (fun _ _ => id))
                  have HFF := hide (show ∀ k, rowB A3 k → w.heap.size ≤ k from fun k hr => Nat.le_trans HK2.out.size (hB3 k hr))
                  clear h1 h1' h2 h3 hk4 hB3 hen HK3 HB2 HSC
                  go_wp2_with fail
                  go_roundg (n - (i + 1))
                  case measure => omega
                  case rel => exact ⟨i + 1, A3, c3, by omega, rfl, by go_num, HFI.out.1, HFI.out.2, HKF.out, HFF.out⟩
                · skip
                  have hnc : q ≤ cX := HS2.out.2.1
                  have hat0 : (0 : Int) ≤ at' := by omega
                  have hatn : (at' : Int) ≤ q := by omega
                  have hatc : at' ≤ cX := by omega
                  have hatcz : (at' : Int) ≤ cX := by omega
                  have HK1 := hide (((Keeps.refl NoB ws).alloc (.cells #[] 3)) : Keeps NoB ws (ws.alloc (.cells #[] 3)))
                  have HM := hide (Slab.made ws 3 1)
                  have HCUT := hide hcut
                  clear hcut
                  obtain ⟨T, hT⟩ : ∃ T, (intC L0).take (at' * 1) = T := ⟨_, rfl⟩
                  obtain ⟨U, hU⟩ : ∃ U, (intC L0).drop (at' * 1) = U := ⟨_, rfl⟩
                  have hTo : ∀ u ∈ T, u.oneCell' = true := fun u hu => intC_ones _ u (List.mem_of_mem_take (hT ▸ hu))
                  have hUo : ∀ u ∈ U, u.oneCell' = true := fun u hu => intC_ones _ u (List.mem_of_mem_drop (hU ▸ hu))
                  have HTR := hide (show Reads (ws.alloc (.cells #[] 3)) (rowB (some ⟨g, o, none⟩)) true 1 (some ⟨g, o, none⟩) at' T from by rw [← hT]; exact (Slab.part HS2.out hle).keep HK1.out (fun _ _ => id))
                  have HEND := hide (show ∀ (A3 : Option Addr) (c3 : Nat) (w3 : World), Slab w3 3 1 A3 (q + 1) c3 ((T ++ [.int .i64 x2]) ++ U) → Value.slice A3 (q + 1) c3 = Value.slice A3 (ofR a (P.take (i + 1))).length c3 ∧ Slab w3 3 1 A3 (ofR a (P.take (i + 1))).length c3 (intC (ofR a (P.take (i + 1)))) from by
                    intro A3 c3 w3 h1
                    rw [HT.out, HO.out, insI_len, HQ.out]
                    rw [← hT, ← hU] at h1
                    exact ⟨rfl, by rw [HCUT.out, intC_ins]; exact h1⟩)
                  have HU0 := hide (show at' = q → U = [] from by
                    intro e; rw [← hU, List.drop_eq_nil_of_le (by rw [List.length_map, HQ.out]; omega)])
                  have HUR := hide (show Reads ws (rowB (some ⟨g, o, none⟩)) true 1 (some ⟨g, o + at' * 1, none⟩) (q - at') U from by rw [← hU]; exact Reads.part HS2.out.reads hle)
                  clear hT hU
                  go_wp2_with (at_builtin; go_loud (refine wpList_append_any _ rfl (.tmp 54) (.tmp 57) 25 rfl 3 i0 _ 1 8 Tryz.underlying25 ni0 nz0 nz1 nz2 rfl (by omega) (some ⟨ws.heap.size, 0, none⟩) 0 0 [] rfl HM.out (rowB (some ⟨g, o, none⟩)) true (some ⟨g, o, none⟩) at' cX T rfl HTR.out hTo (by unfold maxLen; omega) (by omega) ?_))
                  intro A1 c1 w1 h1 h2 h3
                  have hk3 : Keeps NoB ws w1 := HK1.out.trans' h2 (fun _ _ => id) (fun j hj ⟨o', e⟩ => by injection e with e; injection e with e; omega)
                  have hB1 : ∀ j, rowB A1 j → ws.heap.size ≤ j := fun j hj => by
                    rcases h3 j hj with ⟨o', e⟩ | e
                    · injection e with e; injection e with e; omega
                    · exact Nat.le_trans HK1.out.size e
                  have HS1 := hide (h1.fresh ((Keeps.refl NoB w1).alloc (.cells #[.int .i64 x2] 3))); have HKB := hide (hk3.alloc (.cells #[.int .i64 x2] 3)); have HB1 := hide hB1
                  clear h1 h2 h3 hk3 hB1 HM
                  go_wp2_with (at_builtin; go_loud (refine wpList_append_any _ rfl (.tmp 59) (.tmp 61) 25 rfl 3 i0 _ 1 8 Tryz.underlying25 ni0 nz0 nz1 nz2 rfl (by omega) A1 at' c1 T rfl HS1.out (fun _ => True) true (some ⟨w1.heap.size, 0, none⟩) 1 1 [.int .i64 x2] rfl (lit_reads (xs := [x2]) (Blk.new w1 3 #[.int .i64 x2])) (intC_ones [x2]) (by unfold maxLen; omega) (by omega) ?_))
                  intro A2 c2 w2 h1 h2 h3
                  have hk3 : Keeps NoB ws w2 := HKB.out.trans' h2 (fun _ _ => id) (fun j hj hr => by have := HB1.out j hr; omega)
                  have hB2 : ∀ j, rowB A2 j → ws.heap.size ≤ j := fun j hj => (h3 j hj).elim (HB1.out j) (fun e => Nat.le_trans HKB.out.size e)
                  have HSC := hide h1; have HK3 := hide hk3; have HB2 := hide hB2
                  clear h1 h2 h3 hk3 hB2 HS1 HB1
                  go_wp2_with (at_builtin; go_loud (refine wpList_append_any _ rfl (.tmp 63) (.tmp 66) 25 rfl 3 i0 _ 1 8 Tryz.underlying25 ni0 nz0 nz1 nz2 rfl (by omega) A2 (at' + 1) c2 (T ++ [.int .i64 x2]) rfl HSC.out (rowB (some ⟨g, o, none⟩)) true (some ⟨g, o + at', none⟩) (q - at') (cX - at') U rfl (by have := HUR.out.keep HK3.out (fun _ _ => id); rwa [Nat.mul_one] at this) hUo (by unfold maxLen; omega) (by omega) ?_))
                  intro A3 c3 w3 h1 h2 h3
                  have hk4 : Keeps NoB ws w3 := HK3.out.trans' h2 (fun _ _ => id) (fun j hj hr => by have := HB2.out j hr; omega)
                  have hB3 : ∀ j, rowB A3 j → ws.heap.size ≤ j := fun j hj => (h3 j hj).elim (HB2.out j) (fun e => Nat.le_trans HK3.out.size e)
                  have hen : at' + 1 + (q - at') = q + 1 := by omega
                  try rw [hen]
                  have h1' : Slab w3 3 1 A3 (q + 1) c3 ((T ++ [.int .i64 x2]) ++ U) := by
                    first
                    | (rw [List.append_nil]; exact h1)
                    | exact h1
                    | (rw [List.append_assoc]; exact h1)
                    | (rw [hen] at h1; exact h1)
                    | (rw [hen] at h1; rw [List.append_assoc]; exact h1)
                  have HFI := hide (HEND.out _ _ _ h1')
                  have HKF := hide (HK2.out.trans' hk4 (fun _ _ => id) (fun _ _ => id))
                  have HFF := hide (show ∀ k, rowB A3 k → w.heap.size ≤ k from fun k hr => Nat.le_trans HK2.out.size (hB3 k hr))
                  clear h1 h1' h2 h3 hk4 hB3 hen HK3 HB2 HSC
                  go_wp2_with fail
                  go_roundg (n - (i + 1))
                  case measure => omega
                  case rel => exact ⟨i + 1, A3, c3, by omega, rfl, by go_num, HFI.out.1, HFI.out.2, HKF.out, HFF.out⟩
            · have hposz : ¬ (0 : Int) < at' := by omega
              have hcut : insI x2 L0 = L0.take at' ++ x2 :: L0.drop at' := insI_at HRI.out (by have := HQ.out; omega) (fun t z ht hle => HI.out t z ht hle) (fun z h0 _ => by omega)
              clear HI
              by_cases hca : cX = at'
              · have hqa : q = at' := by have := HS2.out.2.1; omega
                subst hqa
                obtain rfl : q = cX := hca.symm
                have hnc : q ≤ q := HS2.out.2.1
                have hat0 : (0 : Int) ≤ q := by omega
                have hatn : (q : Int) ≤ q := by omega
                have hatc : q ≤ q := by omega
                have hatcz : (q : Int) ≤ q := by omega
                have HK1 := hide (((Keeps.refl NoB ws).alloc (.cells #[] 3)) : Keeps NoB ws (ws.alloc (.cells #[] 3)))
                have HM := hide (Slab.made ws 3 1)
                have HCUT := hide hcut
                clear hcut
                obtain ⟨T, hT⟩ : ∃ T, (intC L0).take (q * 1) = T := ⟨_, rfl⟩
                obtain ⟨U, hU⟩ : ∃ U, (intC L0).drop (q * 1) = U := ⟨_, rfl⟩
                have hTo : ∀ u ∈ T, u.oneCell' = true := fun u hu => intC_ones _ u (List.mem_of_mem_take (hT ▸ hu))
                have hUo : ∀ u ∈ U, u.oneCell' = true := fun u hu => intC_ones _ u (List.mem_of_mem_drop (hU ▸ hu))
                have HTR := hide (show Reads (ws.alloc (.cells #[] 3)) (rowB (some ⟨g, o, none⟩)) true 1 (some ⟨g, o, none⟩) q T from by rw [← hT]; exact (Slab.part HS2.out hle).keep HK1.out (fun _ _ => id))
                have HEND := hide (show ∀ (A3 : Option Addr) (c3 : Nat) (w3 : World), Slab w3 3 1 A3 (q + 1) c3 ((T ++ [.int .i64 x2]) ++ U) → Value.slice A3 (q + 1) c3 = Value.slice A3 (ofR a (P.take (i + 1))).length c3 ∧ Slab w3 3 1 A3 (ofR a (P.take (i + 1))).length c3 (intC (ofR a (P.take (i + 1)))) from by
                  intro A3 c3 w3 h1
                  rw [HT.out, HO.out, insI_len, HQ.out]
                  rw [← hT, ← hU] at h1
                  exact ⟨rfl, by rw [HCUT.out, intC_ins]; exact h1⟩)
                have HU0 := hide (show q = q → U = [] from by
                  intro e; rw [← hU, List.drop_eq_nil_of_le (by rw [List.length_map, HQ.out]; omega)])
                have HUR := hide (show Reads ws (rowB (some ⟨g, o, none⟩)) true 1 (some ⟨g, o + q * 1, none⟩) (q - q) U from by rw [← hU]; exact Reads.part HS2.out.reads hle)
                clear hT hU
                go_wp2_with (at_builtin; go_loud (refine wpList_append_any _ rfl (.tmp 54) (.tmp 57) 25 rfl 3 i0 _ 1 8 Tryz.underlying25 ni0 nz0 nz1 nz2 rfl (by omega) (some ⟨ws.heap.size, 0, none⟩) 0 0 [] rfl HM.out (rowB (some ⟨g, o, none⟩)) true (some ⟨g, o, none⟩) q q T rfl HTR.out hTo (by unfold maxLen; omega) (by omega) ?_))
                intro A1 c1 w1 h1 h2 h3
                have hk3 : Keeps NoB ws w1 := HK1.out.trans' h2 (fun _ _ => id) (fun j hj ⟨o', e⟩ => by injection e with e; injection e with e; omega)
                have hB1 : ∀ j, rowB A1 j → ws.heap.size ≤ j := fun j hj => by
                  rcases h3 j hj with ⟨o', e⟩ | e
                  · injection e with e; injection e with e; omega
                  · exact Nat.le_trans HK1.out.size e
                have HS1 := hide (h1.fresh ((Keeps.refl NoB w1).alloc (.cells #[.int .i64 x2] 3))); have HKB := hide (hk3.alloc (.cells #[.int .i64 x2] 3)); have HB1 := hide hB1
                clear h1 h2 h3 hk3 hB1 HM
                go_wp2_with (at_builtin; go_loud (refine wpList_append_any _ rfl (.tmp 59) (.tmp 61) 25 rfl 3 i0 _ 1 8 Tryz.underlying25 ni0 nz0 nz1 nz2 rfl (by omega) A1 q c1 T rfl HS1.out (fun _ => True) true (some ⟨w1.heap.size, 0, none⟩) 1 1 [.int .i64 x2] rfl (lit_reads (xs := [x2]) (Blk.new w1 3 #[.int .i64 x2])) (intC_ones [x2]) (by unfold maxLen; omega) (by omega) ?_))
                intro A2 c2 w2 h1 h2 h3
                have hk3 : Keeps NoB ws w2 := HKB.out.trans' h2 (fun _ _ => id) (fun j hj hr => by have := HB1.out j hr; omega)
                have hB2 : ∀ j, rowB A2 j → ws.heap.size ≤ j := fun j hj => (h3 j hj).elim (HB1.out j) (fun e => Nat.le_trans HKB.out.size e)
                have HSC := hide h1; have HK3 := hide hk3; have HB2 := hide hB2
                clear h1 h2 h3 hk3 hB2 HS1 HB1
                obtain rfl : U = [] := by first | exact HU0.out rfl | exact HU0.out trivial
                go_wp2_with (at_builtin; go_loud (refine wpList_append_any _ rfl (.tmp 63) (.tmp 66) 25 rfl 3 i0 _ 1 8 Tryz.underlying25 ni0 nz0 nz1 nz2 rfl (by omega) A2 (q + 1) c2 (T ++ [.int .i64 x2]) rfl HSC.out (rowB none) true (some ⟨g, o, none⟩) 0 0 [] rfl (Reads.zero _ _ _ _ _) hUo (by unfold maxLen; omega) (by omega) ?_))
                intro A3 c3 w3 h1 h2 h3
                have hk4 : Keeps NoB ws w3 := HK3.out.trans' h2 (fun _ _ => id) (fun j hj hr => by have := HB2.out j hr; omega)
                have hB3 : ∀ j, rowB A3 j → ws.heap.size ≤ j := fun j hj => (h3 j hj).elim (HB2.out j) (fun e => Nat.le_trans HK3.out.size e)
                have hen : q + 1 + (q - q) = q + 1 := by omega
                try rw [hen]
                have h1' : Slab w3 3 1 A3 (q + 1) c3 ((T ++ [.int .i64 x2]) ++ []) := by
                  first
                  | (rw [List.append_nil]; exact h1)
                  | exact h1
                  | (rw [List.append_assoc]; exact h1)
                  | (rw [hen] at h1; exact h1)
                  | (rw [hen] at h1; rw [List.append_assoc]; exact h1)
                have HFI := hide (HEND.out _ _ _ h1')
                have HKF := hide (HK2.out.trans' hk4 (fun _ _ => id) (fun _ _ => id))
                have HFF := hide (show ∀ k, rowB A3 k → w.heap.size ≤ k from fun k hr => Nat.le_trans HK2.out.size (hB3 k hr))
                clear h1 h1' h2 h3 hk4 hB3 hen HK3 HB2 HSC
                go_wp2_with fail
                go_roundg (n - (i + 1))
                case measure => omega
                case rel => exact ⟨i + 1, A3, c3, by omega, rfl, by go_num, HFI.out.1, HFI.out.2, HKF.out, HFF.out⟩
              · skip
                have hnc : q ≤ cX := HS2.out.2.1
                have hat0 : (0 : Int) ≤ at' := by omega
                have hatn : (at' : Int) ≤ q := by omega
                have hatc : at' ≤ cX := by omega
                have hatcz : (at' : Int) ≤ cX := by omega
                have HK1 := hide (((Keeps.refl NoB ws).alloc (.cells #[] 3)) : Keeps NoB ws (ws.alloc (.cells #[] 3)))
                have HM := hide (Slab.made ws 3 1)
                have HCUT := hide hcut
                clear hcut
                obtain ⟨T, hT⟩ : ∃ T, (intC L0).take (at' * 1) = T := ⟨_, rfl⟩
                obtain ⟨U, hU⟩ : ∃ U, (intC L0).drop (at' * 1) = U := ⟨_, rfl⟩
                have hTo : ∀ u ∈ T, u.oneCell' = true := fun u hu => intC_ones _ u (List.mem_of_mem_take (hT ▸ hu))
                have hUo : ∀ u ∈ U, u.oneCell' = true := fun u hu => intC_ones _ u (List.mem_of_mem_drop (hU ▸ hu))
                have HTR := hide (show Reads (ws.alloc (.cells #[] 3)) (rowB (some ⟨g, o, none⟩)) true 1 (some ⟨g, o, none⟩) at' T from by rw [← hT]; exact (Slab.part HS2.out hle).keep HK1.out (fun _ _ => id))
                have HEND := hide (show ∀ (A3 : Option Addr) (c3 : Nat) (w3 : World), Slab w3 3 1 A3 (q + 1) c3 ((T ++ [.int .i64 x2]) ++ U) → Value.slice A3 (q + 1) c3 = Value.slice A3 (ofR a (P.take (i + 1))).length c3 ∧ Slab w3 3 1 A3 (ofR a (P.take (i + 1))).length c3 (intC (ofR a (P.take (i + 1)))) from by
                  intro A3 c3 w3 h1
                  rw [HT.out, HO.out, insI_len, HQ.out]
                  rw [← hT, ← hU] at h1
                  exact ⟨rfl, by rw [HCUT.out, intC_ins]; exact h1⟩)
                have HU0 := hide (show at' = q → U = [] from by
                  intro e; rw [← hU, List.drop_eq_nil_of_le (by rw [List.length_map, HQ.out]; omega)])
                have HUR := hide (show Reads ws (rowB (some ⟨g, o, none⟩)) true 1 (some ⟨g, o + at' * 1, none⟩) (q - at') U from by rw [← hU]; exact Reads.part HS2.out.reads hle)
                clear hT hU
                go_wp2_with (at_builtin; go_loud (refine wpList_append_any _ rfl (.tmp 54) (.tmp 57) 25 rfl 3 i0 _ 1 8 Tryz.underlying25 ni0 nz0 nz1 nz2 rfl (by omega) (some ⟨ws.heap.size, 0, none⟩) 0 0 [] rfl HM.out (rowB (some ⟨g, o, none⟩)) true (some ⟨g, o, none⟩) at' cX T rfl HTR.out hTo (by unfold maxLen; omega) (by omega) ?_))
                intro A1 c1 w1 h1 h2 h3
                have hk3 : Keeps NoB ws w1 := HK1.out.trans' h2 (fun _ _ => id) (fun j hj ⟨o', e⟩ => by injection e with e; injection e with e; omega)
                have hB1 : ∀ j, rowB A1 j → ws.heap.size ≤ j := fun j hj => by
                  rcases h3 j hj with ⟨o', e⟩ | e
                  · injection e with e; injection e with e; omega
                  · exact Nat.le_trans HK1.out.size e
                have HS1 := hide (h1.fresh ((Keeps.refl NoB w1).alloc (.cells #[.int .i64 x2] 3))); have HKB := hide (hk3.alloc (.cells #[.int .i64 x2] 3)); have HB1 := hide hB1
                clear h1 h2 h3 hk3 hB1 HM
                go_wp2_with (at_builtin; go_loud (refine wpList_append_any _ rfl (.tmp 59) (.tmp 61) 25 rfl 3 i0 _ 1 8 Tryz.underlying25 ni0 nz0 nz1 nz2 rfl (by omega) A1 at' c1 T rfl HS1.out (fun _ => True) true (some ⟨w1.heap.size, 0, none⟩) 1 1 [.int .i64 x2] rfl (lit_reads (xs := [x2]) (Blk.new w1 3 #[.int .i64 x2])) (intC_ones [x2]) (by unfold maxLen; omega) (by omega) ?_))
                intro A2 c2 w2 h1 h2 h3
                have hk3 : Keeps NoB ws w2 := HKB.out.trans' h2 (fun _ _ => id) (fun j hj hr => by have := HB1.out j hr; omega)
                have hB2 : ∀ j, rowB A2 j → ws.heap.size ≤ j := fun j hj => (h3 j hj).elim (HB1.out j) (fun e => Nat.le_trans HKB.out.size e)
                have HSC := hide h1; have HK3 := hide hk3; have HB2 := hide hB2
                clear h1 h2 h3 hk3 hB2 HS1 HB1
                go_wp2_with (at_builtin; go_loud (refine wpList_append_any _ rfl (.tmp 63) (.tmp 66) 25 rfl 3 i0 _ 1 8 Tryz.underlying25 ni0 nz0 nz1 nz2 rfl (by omega) A2 (at' + 1) c2 (T ++ [.int .i64 x2]) rfl HSC.out (rowB (some ⟨g, o, none⟩)) true (some ⟨g, o + at', none⟩) (q - at') (cX - at') U rfl (by have := HUR.out.keep HK3.out (fun _ _ => id); rwa [Nat.mul_one] at this) hUo (by unfold maxLen; omega) (by omega) ?_))
                intro A3 c3 w3 h1 h2 h3
                have hk4 : Keeps NoB ws w3 := HK3.out.trans' h2 (fun _ _ => id) (fun j hj hr => by have := HB2.out j hr; omega)
                have hB3 : ∀ j, rowB A3 j → ws.heap.size ≤ j := fun j hj => (h3 j hj).elim (HB2.out j) (fun e => Nat.le_trans HK3.out.size e)
                have hen : at' + 1 + (q - at') = q + 1 := by omega
                try rw [hen]
                have h1' : Slab w3 3 1 A3 (q + 1) c3 ((T ++ [.int .i64 x2]) ++ U) := by
                  first
                  | (rw [List.append_nil]; exact h1)
                  | exact h1
                  | (rw [List.append_assoc]; exact h1)
                  | (rw [hen] at h1; exact h1)
                  | (rw [hen] at h1; rw [List.append_assoc]; exact h1)
                have HFI := hide (HEND.out _ _ _ h1')
                have HKF := hide (HK2.out.trans' hk4 (fun _ _ => id) (fun _ _ => id))
                have HFF := hide (show ∀ k, rowB A3 k → w.heap.size ≤ k from fun k hr => Nat.le_trans HK2.out.size (hB3 k hr))
                clear h1 h1' h2 h3 hk4 hB3 hen HK3 HB2 HSC
                go_wp2_with fail
                go_roundg (n - (i + 1))
                case measure => omega
                case rel => exact ⟨i + 1, A3, c3, by omega, rfl, by go_num, HFI.out.1, HFI.out.2, HKF.out, HFF.out⟩
      · have hq1 : (x1 == a) = false := by simpa using hx1
        by_cases hx2 : x2 = a
        · have hq2 : (x2 == a) = true := by simpa using hx2
          have hq3 : (x2 != a) = false := by simp [hx2]
          have HO := hide (show inO a L0 (x1, x2) = insI x1 L0 from by unfold inO other; simp [hx1, hx2])
          clear hx1 hx2
          go_wp2_with fail
          generalize hws : wr.alloc (.cells #[.int .i64 x1, .int .i64 x2] 106) = ws at *
          clear hws k0 p0 p1 HH HK HS
          rcases HS2.out.2.2.2 with ⟨rfl, hc0⟩ | ⟨g, o, cur, rfl, _⟩
          · obtain rfl : cX = 0 := hc0
            obtain rfl : q = 0 := by have := HS2.out.2.1; omega
            have hcut : insI x1 L0 = L0.take 0 ++ x1 :: L0.drop 0 := by
              obtain rfl : L0 = [] := List.eq_nil_of_length_eq_zero HQ.out
              rfl
            have hle : 0 ≤ 0 := Nat.le_refl _
            go_loopg [9] 0 (fun g s9 wx => g = 0 ∧ s9 = .int .i64 0 ∧ ws = wx)
            case atStart => exact ⟨rfl, rfl, rfl⟩
            case round =>
              obtain ⟨rfl, rfl, rfl⟩ := hrel
              have hnc : 0 ≤ 0 := HS2.out.2.1
              have hat0 : (0 : Int) ≤ 0 := by omega
              have hatn : (0 : Int) ≤ 0 := by omega
              have hatc : 0 ≤ 0 := by omega
              have hatcz : (0 : Int) ≤ 0 := by omega
              have HK1 := hide (((Keeps.refl NoB ws).alloc (.cells #[] 3)) : Keeps NoB ws (ws.alloc (.cells #[] 3)))
              have HM := hide (Slab.made ws 3 1)
              have HCUT := hide hcut
              clear hcut
              obtain ⟨T, hT⟩ : ∃ T, (intC L0).take (0 * 1) = T := ⟨_, rfl⟩
              obtain ⟨U, hU⟩ : ∃ U, (intC L0).drop (0 * 1) = U := ⟨_, rfl⟩
              have hTo : ∀ u ∈ T, u.oneCell' = true := fun u hu => intC_ones _ u (List.mem_of_mem_take (hT ▸ hu))
              have hUo : ∀ u ∈ U, u.oneCell' = true := fun u hu => intC_ones _ u (List.mem_of_mem_drop (hU ▸ hu))
              have HTR := hide (show Reads (ws.alloc (.cells #[] 3)) (rowB none) true 1 none 0 T from by rw [← hT]; exact (Slab.part HS2.out hle).keep HK1.out (fun _ _ => id))
              have HEND := hide (show ∀ (A3 : Option Addr) (c3 : Nat) (w3 : World), Slab w3 3 1 A3 (0 + 1) c3 ((T ++ [.int .i64 x1]) ++ U) → Value.slice A3 (0 + 1) c3 = Value.slice A3 (ofR a (P.take (i + 1))).length c3 ∧ Slab w3 3 1 A3 (ofR a (P.take (i + 1))).length c3 (intC (ofR a (P.take (i + 1)))) from by
                intro A3 c3 w3 h1
                rw [HT.out, HO.out, insI_len, HQ.out]
                rw [← hT, ← hU] at h1
                exact ⟨rfl, by rw [HCUT.out, intC_ins]; exact h1⟩)
              have HU0 := hide (show 0 = 0 → U = [] from by
                intro e; rw [← hU, List.drop_eq_nil_of_le (by rw [List.length_map, HQ.out]; omega)])
              obtain rfl : U = [] := by first | exact HU0.out rfl | exact HU0.out trivial
              clear hT hU
              go_wp2_with (at_builtin; go_loud (refine wpList_append_any _ rfl (.tmp 54) (.tmp 57) 25 rfl 3 i0 _ 1 8 Tryz.underlying25 ni0 nz0 nz1 nz2 rfl (by omega) (some ⟨ws.heap.size, 0, none⟩) 0 0 [] rfl HM.out (rowB none) true none 0 0 T rfl HTR.out hTo (by unfold maxLen; omega) (by omega) ?_))
              intro A1 c1 w1 h1 h2 h3
              have hk3 : Keeps NoB ws w1 := HK1.out.trans' h2 (fun _ _ => id) (fun j hj ⟨o', e⟩ => by injection e with e; injection e with e; omega)
              have hB1 : ∀ j, rowB A1 j → ws.heap.size ≤ j := fun j hj => by
                rcases h3 j hj with ⟨o', e⟩ | e
                · injection e with e; injection e with e; omega
                · exact Nat.le_trans HK1.out.size e
              have HS1 := hide (h1.fresh ((Keeps.refl NoB w1).alloc (.cells #[.int .i64 x1] 3))); have HKB := hide (hk3.alloc (.cells #[.int .i64 x1] 3)); have HB1 := hide hB1
              clear h1 h2 h3 hk3 hB1 HM
              go_wp2_with (at_builtin; go_loud (refine wpList_append_any _ rfl (.tmp 59) (.tmp 61) 25 rfl 3 i0 _ 1 8 Tryz.underlying25 ni0 nz0 nz1 nz2 rfl (by omega) A1 0 c1 T rfl HS1.out (fun _ => True) true (some ⟨w1.heap.size, 0, none⟩) 1 1 [.int .i64 x1] rfl (lit_reads (xs := [x1]) (Blk.new w1 3 #[.int .i64 x1])) (intC_ones [x1]) (by unfold maxLen; omega) (by omega) ?_))
              intro A2 c2 w2 h1 h2 h3
              have hk3 : Keeps NoB ws w2 := HKB.out.trans' h2 (fun _ _ => id) (fun j hj hr => by have := HB1.out j hr; omega)
              have hB2 : ∀ j, rowB A2 j → ws.heap.size ≤ j := fun j hj => (h3 j hj).elim (HB1.out j) (fun e => Nat.le_trans HKB.out.size e)
              have HSC := hide h1; have HK3 := hide hk3; have HB2 := hide hB2
              clear h1 h2 h3 hk3 hB2 HS1 HB1
              go_wp2_with (at_builtin; go_loud (refine wpList_append_any _ rfl (.tmp 63) (.tmp 66) 25 rfl 3 i0 _ 1 8 Tryz.underlying25 ni0 nz0 nz1 nz2 rfl (by omega) A2 (0 + 1) c2 (T ++ [.int .i64 x1]) rfl HSC.out (rowB none) true none 0 0 [] rfl (Reads.zero _ _ _ _ _) hUo (by unfold maxLen; omega) (by omega) ?_))
              intro A3 c3 w3 h1 h2 h3
              have hk4 : Keeps NoB ws w3 := HK3.out.trans' h2 (fun _ _ => id) (fun j hj hr => by have := HB2.out j hr; omega)
              have hB3 : ∀ j, rowB A3 j → ws.heap.size ≤ j := fun j hj => (h3 j hj).elim (HB2.out j) (fun e => Nat.le_trans HK3.out.size e)
              have hen : 0 + 1 + (0 - 0) = 0 + 1 := by omega
              try rw [hen]
              have h1' : Slab w3 3 1 A3 (0 + 1) c3 ((T ++ [.int .i64 x1]) ++ []) := by
                first
                | (rw [List.append_nil]; exact h1)
                | exact h1
                | (rw [List.append_assoc]; exact h1)
                | (rw [hen] at h1; exact h1)
                | (rw [hen] at h1; rw [List.append_assoc]; exact h1)
              have HFI := hide (HEND.out _ _ _ h1')
              have HKF := hide (HK2.out.trans' hk4 (fun _ _ => id) (fun _ _ => id))
              have HFF := hide (show ∀ k, rowB A3 k → w.heap.size ≤ k from fun k hr => Nat.le_trans HK2.out.size (hB3 k hr))
              clear h1 h1' h2 h3 hk4 hB3 hen HK3 HB2 HSC
              go_wp2_with fail
              go_roundg (n - (i + 1))
              case measure => omega
              case rel => exact ⟨i + 1, A3, c3, by omega, rfl, by go_num, HFI.out.1, HFI.out.2, HKF.out, HFF.out⟩
          · go_loopg [9] q (fun g s9 wx => ∃ at' : Nat, at' ≤ q ∧ g = at' ∧ s9 = .int .i64 at' ∧ ws = wx ∧ Hid (∀ (j : Nat) (y : Int), L0[j]? = some y → at' ≤ j → x1 < y))
            case atStart => exact ⟨q, Nat.le_refl _, rfl, rfl, rfl, hide (fun j y hj hle => by have := (List.getElem?_eq_some_iff.1 hj).1; have := HQ.out; omega)⟩
            case round =>
              obtain ⟨at', hle, hg, rfl, rfl, HI⟩ := hrel
              obtain rfl := hg.symm
              have hat0 : (0 : Int) ≤ at' := by omega
              by_cases hpos : 0 < at'
              · obtain ⟨j, hj⟩ : ∃ j, at' = j + 1 := ⟨at' - 1, by omega⟩
                have hjq : j < q := by omega
                obtain ⟨y, hy⟩ : ∃ y, L0[j]? = some y := ⟨_, List.getElem?_eq_getElem (by have := HQ.out; omega)⟩
                obtain ⟨g', o', hA', p2⟩ := ints_at HS2.out.reads hy
                injection hA' with hA'; injection hA' with e8 e9; subst e8 e9
                have e1 : IntKind.i64.wrap ((at' : Int) - 1) = (j : Int) := by rw [show (at' : Int) - 1 = j from by omega]; exact IntWalk.i64_in _ (by omega)
                have hjz : (j : Int) < q := by omega
                have hj0 : (0 : Int) ≤ j := by omega
                have hposz : (0 : Int) < at' := by omega
                have HY := hide hy
                clear hy
                by_cases hxy : x1 < y
                · have HI2 := hide (show ∀ (t : Nat) (z : Int), L0[t]? = some z → j ≤ t → x1 < z from fun t z ht hle => by
                    by_cases e : t = j
                    · subst e; rw [HY.out] at ht; injection ht with ht; omega
                    · exact HI.out t z ht (by omega))
                  go_wp2_with fail
                  go_roundg j
                  case measure => omega
                  case rel => exact ⟨j, by omega, rfl, rfl, rfl, HI2.out⟩
                · have hcut : insI x1 L0 = L0.take at' ++ x1 :: L0.drop at' := insI_at HRI.out (by have := HQ.out; omega) (fun t z ht hle => HI.out t z ht hle) (fun z _ hz => by
                    rw [show at' - 1 = j from by omega, HY.out] at hz; injection hz with hz; omega)
                  clear HI HY hj
                  by_cases hca : cX = at'
                  · have hqa : q = at' := by have := HS2.out.2.1; omega
                    subst hqa
                    obtain rfl : q = cX := hca.symm
                    have hnc : q ≤ q := HS2.out.2.1
                    have hat0 : (0 : Int) ≤ q := by omega
                    have hatn : (q : Int) ≤ q := by omega
                    have hatc : q ≤ q := by omega
                    have hatcz : (q : Int) ≤ q := by omega
                    have HK1 := hide (((Keeps.refl NoB ws).alloc (.cells #[] 3)) : Keeps NoB ws (ws.alloc (.cells #[] 3)))
                    have HM := hide (Slab.made ws 3 1)
                    have HCUT := hide hcut
                    clear hcut
                    obtain ⟨T, hT⟩ : ∃ T, (intC L0).take (q * 1) = T := ⟨_, rfl⟩
                    obtain ⟨U, hU⟩ : ∃ U, (intC L0).drop (q * 1) = U := ⟨_, rfl⟩
                    have hTo : ∀ u ∈ T, u.oneCell' = true := fun u hu => intC_ones _ u (List.mem_of_mem_take (hT ▸ hu))
                    have hUo : ∀ u ∈ U, u.oneCell' = true := fun u hu => intC_ones _ u (List.mem_of_mem_drop (hU ▸ hu))
                    have HTR := hide (show Reads (ws.alloc (.cells #[] 3)) (rowB (some ⟨g, o, none⟩)) true 1 (some ⟨g, o, none⟩) q T from by rw [← hT]; exact (Slab.part HS2.out hle).keep HK1.out (fun _ _ => id))
                    have HEND := hide (show ∀ (A3 : Option Addr) (c3 : Nat) (w3 : World), Slab w3 3 1 A3 (q + 1) c3 ((T ++ [.int .i64 x1]) ++ U) → Value.slice A3 (q + 1) c3 = Value.slice A3 (ofR a (P.take (i + 1))).length c3 ∧ Slab w3 3 1 A3 (ofR a (P.take (i + 1))).length c3 (intC (ofR a (P.take (i + 1)))) from by
                      intro A3 c3 w3 h1
                      rw [HT.out, HO.out, insI_len, HQ.out]
                      rw [← hT, ← hU] at h1
                      exact ⟨rfl, by rw [HCUT.out, intC_ins]; exact h1⟩)
                    have HU0 := hide (show q = q → U = [] from by
                      intro e; rw [← hU, List.drop_eq_nil_of_le (by rw [List.length_map, HQ.out]; omega)])
                    have HUR := hide (show Reads ws (rowB (some ⟨g, o, none⟩)) true 1 (some ⟨g, o + q * 1, none⟩) (q - q) U from by rw [← hU]; exact Reads.part HS2.out.reads hle)
                    clear hT hU
                    go_wp2_with (at_builtin; go_loud (refine wpList_append_any _ rfl (.tmp 54) (.tmp 57) 25 rfl 3 i0 _ 1 8 Tryz.underlying25 ni0 nz0 nz1 nz2 rfl (by omega) (some ⟨ws.heap.size, 0, none⟩) 0 0 [] rfl HM.out (rowB (some ⟨g, o, none⟩)) true (some ⟨g, o, none⟩) q q T rfl HTR.out hTo (by unfold maxLen; omega) (by omega) ?_))
                    intro A1 c1 w1 h1 h2 h3
                    have hk3 : Keeps NoB ws w1 := HK1.out.trans' h2 (fun _ _ => id) (fun j hj ⟨o', e⟩ => by injection e with e; injection e with e; omega)
                    have hB1 : ∀ j, rowB A1 j → ws.heap.size ≤ j := fun j hj => by
                      rcases h3 j hj with ⟨o', e⟩ | e
                      · injection e with e; injection e with e; omega
                      · exact Nat.le_trans HK1.out.size e
                    have HS1 := hide (h1.fresh ((Keeps.refl NoB w1).alloc (.cells #[.int .i64 x1] 3))); have HKB := hide (hk3.alloc (.cells #[.int .i64 x1] 3)); have HB1 := hide hB1
                    clear h1 h2 h3 hk3 hB1 HM
                    go_wp2_with (at_builtin; go_loud (refine wpList_append_any _ rfl (.tmp 59) (.tmp 61) 25 rfl 3 i0 _ 1 8 Tryz.underlying25 ni0 nz0 nz1 nz2 rfl (by omega) A1 q c1 T rfl HS1.out (fun _ => True) true (some ⟨w1.heap.size, 0, none⟩) 1 1 [.int .i64 x1] rfl (lit_reads (xs := [x1]) (Blk.new w1 3 #[.int .i64 x1])) (intC_ones [x1]) (by unfold maxLen; omega) (by omega) ?_))
                    intro A2 c2 w2 h1 h2 h3
                    have hk3 : Keeps NoB ws w2 := HKB.out.trans' h2 (fun _ _ => id) (fun j hj hr => by have := HB1.out j hr; omega)
                    have hB2 : ∀ j, rowB A2 j → ws.heap.size ≤ j := fun j hj => (h3 j hj).elim (HB1.out j) (fun e => Nat.le_trans HKB.out.size e)
                    have HSC := hide h1; have HK3 := hide hk3; have HB2 := hide hB2
                    clear h1 h2 h3 hk3 hB2 HS1 HB1
                    obtain rfl : U = [] := by first | exact HU0.out rfl | exact HU0.out trivial
                    go_wp2_with (at_builtin; go_loud (refine wpList_append_any _ rfl (.tmp 63) (.tmp 66) 25 rfl 3 i0 _ 1 8 Tryz.underlying25 ni0 nz0 nz1 nz2 rfl (by omega) A2 (q + 1) c2 (T ++ [.int .i64 x1]) rfl HSC.out (rowB none) true (some ⟨g, o, none⟩) 0 0 [] rfl (Reads.zero _ _ _ _ _) hUo (by unfold maxLen; omega) (by omega) ?_))
                    intro A3 c3 w3 h1 h2 h3
                    have hk4 : Keeps NoB ws w3 := HK3.out.trans' h2 (fun _ _ => id) (fun j hj hr => by have := HB2.out j hr; omega)
                    have hB3 : ∀ j, rowB A3 j → ws.heap.size ≤ j := fun j hj => (h3 j hj).elim (HB2.out j) (fun e => Nat.le_trans HK3.out.size e)
                    have hen : q + 1 + (q - q) = q + 1 := by omega
                    try rw [hen]
                    have h1' : Slab w3 3 1 A3 (q + 1) c3 ((T ++ [.int .i64 x1]) ++ []) := by
                      first
                      | (rw [List.append_nil]; exact h1)
                      | exact h1
                      | (rw [List.append_assoc]; exact h1)
                      | (rw [hen] at h1; exact h1)
                      | (rw [hen] at h1; rw [List.append_assoc]; exact h1)
                    have HFI := hide (HEND.out _ _ _ h1')
                    have HKF := hide (HK2.out.trans' hk4 (fun _ _ => id) (fun _ _ => id))
                    have HFF := hide (show ∀ k, rowB A3 k → w.heap.size ≤ k from fun k hr => Nat.le_trans HK2.out.size (hB3 k hr))
                    clear h1 h1' h2 h3 hk4 hB3 hen HK3 HB2 HSC
                    go_wp2_with fail
                    go_roundg (n - (i + 1))
                    case measure => omega
                    case rel => exact ⟨i + 1, A3, c3, by omega, rfl, by go_num, HFI.out.1, HFI.out.2, HKF.out, HFF.out⟩
                  · skip
                    have hnc : q ≤ cX := HS2.out.2.1
                    have hat0 : (0 : Int) ≤ at' := by omega
                    have hatn : (at' : Int) ≤ q := by omega
                    have hatc : at' ≤ cX := by omega
                    have hatcz : (at' : Int) ≤ cX := by omega
                    have HK1 := hide (((Keeps.refl NoB ws).alloc (.cells #[] 3)) : Keeps NoB ws (ws.alloc (.cells #[] 3)))
                    have HM := hide (Slab.made ws 3 1)
                    have HCUT := hide hcut
                    clear hcut
                    obtain ⟨T, hT⟩ : ∃ T, (intC L0).take (at' * 1) = T := ⟨_, rfl⟩
                    obtain ⟨U, hU⟩ : ∃ U, (intC L0).drop (at' * 1) = U := ⟨_, rfl⟩
                    have hTo : ∀ u ∈ T, u.oneCell' = true := fun u hu => intC_ones _ u (List.mem_of_mem_take (hT ▸ hu))
                    have hUo : ∀ u ∈ U, u.oneCell' = true := fun u hu => intC_ones _ u (List.mem_of_mem_drop (hU ▸ hu))
                    have HTR := hide (show Reads (ws.alloc (.cells #[] 3)) (rowB (some ⟨g, o, none⟩)) true 1 (some ⟨g, o, none⟩) at' T from by rw [← hT]; exact (Slab.part HS2.out hle).keep HK1.out (fun _ _ => id))
                    have HEND := hide (show ∀ (A3 : Option Addr) (c3 : Nat) (w3 : World), Slab w3 3 1 A3 (q + 1) c3 ((T ++ [.int .i64 x1]) ++ U) → Value.slice A3 (q + 1) c3 = Value.slice A3 (ofR a (P.take (i + 1))).length c3 ∧ Slab w3 3 1 A3 (ofR a (P.take (i + 1))).length c3 (intC (ofR a (P.take (i + 1)))) from by
                      intro A3 c3 w3 h1
                      rw [HT.out, HO.out, insI_len, HQ.out]
                      rw [← hT, ← hU] at h1
                      exact ⟨rfl, by rw [HCUT.out, intC_ins]; exact h1⟩)
                    have HU0 := hide (show at' = q → U = [] from by
                      intro e; rw [← hU, List.drop_eq_nil_of_le (by rw [List.length_map, HQ.out]; omega)])
                    have HUR := hide (show Reads ws (rowB (some ⟨g, o, none⟩)) true 1 (some ⟨g, o + at' * 1, none⟩) (q - at') U from by rw [← hU]; exact Reads.part HS2.out.reads hle)
                    clear hT hU
                    go_wp2_with (at_builtin; go_loud (refine wpList_append_any _ rfl (.tmp 54) (.tmp 57) 25 rfl 3 i0 _ 1 8 Tryz.underlying25 ni0 nz0 nz1 nz2 rfl (by omega) (some ⟨ws.heap.size, 0, none⟩) 0 0 [] rfl HM.out (rowB (some ⟨g, o, none⟩)) true (some ⟨g, o, none⟩) at' cX T rfl HTR.out hTo (by unfold maxLen; omega) (by omega) ?_))
                    intro A1 c1 w1 h1 h2 h3
                    have hk3 : Keeps NoB ws w1 := HK1.out.trans' h2 (fun _ _ => id) (fun j hj ⟨o', e⟩ => by injection e with e; injection e with e; omega)
                    have hB1 : ∀ j, rowB A1 j → ws.heap.size ≤ j := fun j hj => by
                      rcases h3 j hj with ⟨o', e⟩ | e
                      · injection e with e; injection e with e; omega
                      · exact Nat.le_trans HK1.out.size e
                    have HS1 := hide (h1.fresh ((Keeps.refl NoB w1).alloc (.cells #[.int .i64 x1] 3))); have HKB := hide (hk3.alloc (.cells #[.int .i64 x1] 3)); have HB1 := hide hB1
                    clear h1 h2 h3 hk3 hB1 HM
                    go_wp2_with (at_builtin; go_loud (refine wpList_append_any _ rfl (.tmp 59) (.tmp 61) 25 rfl 3 i0 _ 1 8 Tryz.underlying25 ni0 nz0 nz1 nz2 rfl (by omega) A1 at' c1 T rfl HS1.out (fun _ => True) true (some ⟨w1.heap.size, 0, none⟩) 1 1 [.int .i64 x1] rfl (lit_reads (xs := [x1]) (Blk.new w1 3 #[.int .i64 x1])) (intC_ones [x1]) (by unfold maxLen; omega) (by omega) ?_))
                    intro A2 c2 w2 h1 h2 h3
                    have hk3 : Keeps NoB ws w2 := HKB.out.trans' h2 (fun _ _ => id) (fun j hj hr => by have := HB1.out j hr; omega)
                    have hB2 : ∀ j, rowB A2 j → ws.heap.size ≤ j := fun j hj => (h3 j hj).elim (HB1.out j) (fun e => Nat.le_trans HKB.out.size e)
                    have HSC := hide h1; have HK3 := hide hk3; have HB2 := hide hB2
                    clear h1 h2 h3 hk3 hB2 HS1 HB1
                    go_wp2_with (at_builtin; go_loud (refine wpList_append_any _ rfl (.tmp 63) (.tmp 66) 25 rfl 3 i0 _ 1 8 Tryz.underlying25 ni0 nz0 nz1 nz2 rfl (by omega) A2 (at' + 1) c2 (T ++ [.int .i64 x1]) rfl HSC.out (rowB (some ⟨g, o, none⟩)) true (some ⟨g, o + at', none⟩) (q - at') (cX - at') U rfl (by have := HUR.out.keep HK3.out (fun _ _ => id); rwa [Nat.mul_one] at this) hUo (by unfold maxLen; omega) (by omega) ?_))
                    intro A3 c3 w3 h1 h2 h3
                    have hk4 : Keeps NoB ws w3 := HK3.out.trans' h2 (fun _ _ => id) (fun j hj hr => by have := HB2.out j hr; omega)
                    have hB3 : ∀ j, rowB A3 j → ws.heap.size ≤ j := fun j hj => (h3 j hj).elim (HB2.out j) (fun e => Nat.le_trans HK3.out.size e)
                    have hen : at' + 1 + (q - at') = q + 1 := by omega
                    try rw [hen]
                    have h1' : Slab w3 3 1 A3 (q + 1) c3 ((T ++ [.int .i64 x1]) ++ U) := by
                      first
                      | (rw [List.append_nil]; exact h1)
                      | exact h1
                      | (rw [List.append_assoc]; exact h1)
                      | (rw [hen] at h1; exact h1)
                      | (rw [hen] at h1; rw [List.append_assoc]; exact h1)
                    have HFI := hide (HEND.out _ _ _ h1')
                    have HKF := hide (HK2.out.trans' hk4 (fun _ _ => id) (fun _ _ => id))
                    have HFF := hide (show ∀ k, rowB A3 k → w.heap.size ≤ k from fun k hr => Nat.le_trans HK2.out.size (hB3 k hr))
                    clear h1 h1' h2 h3 hk4 hB3 hen HK3 HB2 HSC
                    go_wp2_with fail
                    go_roundg (n - (i + 1))
                    case measure => omega
                    case rel => exact ⟨i + 1, A3, c3, by omega, rfl, by go_num, HFI.out.1, HFI.out.2, HKF.out, HFF.out⟩
              · have hposz : ¬ (0 : Int) < at' := by omega
                have hcut : insI x1 L0 = L0.take at' ++ x1 :: L0.drop at' := insI_at HRI.out (by have := HQ.out; omega) (fun t z ht hle => HI.out t z ht hle) (fun z h0 _ => by omega)
                clear HI
                by_cases hca : cX = at'
                · have hqa : q = at' := by have := HS2.out.2.1; omega
                  subst hqa
                  obtain rfl : q = cX := hca.symm
                  have hnc : q ≤ q := HS2.out.2.1
                  have hat0 : (0 : Int) ≤ q := by omega
                  have hatn : (q : Int) ≤ q := by omega
                  have hatc : q ≤ q := by omega
                  have hatcz : (q : Int) ≤ q := by omega
                  have HK1 := hide (((Keeps.refl NoB ws).alloc (.cells #[] 3)) : Keeps NoB ws (ws.alloc (.cells #[] 3)))
                  have HM := hide (Slab.made ws 3 1)
                  have HCUT := hide hcut
                  clear hcut
                  obtain ⟨T, hT⟩ : ∃ T, (intC L0).take (q * 1) = T := ⟨_, rfl⟩
                  obtain ⟨U, hU⟩ : ∃ U, (intC L0).drop (q * 1) = U := ⟨_, rfl⟩
                  have hTo : ∀ u ∈ T, u.oneCell' = true := fun u hu => intC_ones _ u (List.mem_of_mem_take (hT ▸ hu))
                  have hUo : ∀ u ∈ U, u.oneCell' = true := fun u hu => intC_ones _ u (List.mem_of_mem_drop (hU ▸ hu))
                  have HTR := hide (show Reads (ws.alloc (.cells #[] 3)) (rowB (some ⟨g, o, none⟩)) true 1 (some ⟨g, o, none⟩) q T from by rw [← hT]; exact (Slab.part HS2.out hle).keep HK1.out (fun _ _ => id))
                  have HEND := hide (show ∀ (A3 : Option Addr) (c3 : Nat) (w3 : World), Slab w3 3 1 A3 (q + 1) c3 ((T ++ [.int .i64 x1]) ++ U) → Value.slice A3 (q + 1) c3 = Value.slice A3 (ofR a (P.take (i + 1))).length c3 ∧ Slab w3 3 1 A3 (ofR a (P.take (i + 1))).length c3 (intC (ofR a (P.take (i + 1)))) from by
                    intro A3 c3 w3 h1
                    rw [HT.out, HO.out, insI_len, HQ.out]
                    rw [← hT, ← hU] at h1
                    exact ⟨rfl, by rw [HCUT.out, intC_ins]; exact h1⟩)
                  have HU0 := hide (show q = q → U = [] from by
                    intro e; rw [← hU, List.drop_eq_nil_of_le (by rw [List.length_map, HQ.out]; omega)])
                  have HUR := hide (show Reads ws (rowB (some ⟨g, o, none⟩)) true 1 (some ⟨g, o + q * 1, none⟩) (q - q) U from by rw [← hU]; exact Reads.part HS2.out.reads hle)
                  clear hT hU
                  go_wp2_with (at_builtin; go_loud (refine wpList_append_any _ rfl (.tmp 54) (.tmp 57) 25 rfl 3 i0 _ 1 8 Tryz.underlying25 ni0 nz0 nz1 nz2 rfl (by omega) (some ⟨ws.heap.size, 0, none⟩) 0 0 [] rfl HM.out (rowB (some ⟨g, o, none⟩)) true (some ⟨g, o, none⟩) q q T rfl HTR.out hTo (by unfold maxLen; omega) (by omega) ?_))
                  intro A1 c1 w1 h1 h2 h3
                  have hk3 : Keeps NoB ws w1 := HK1.out.trans' h2 (fun _ _ => id) (fun j hj ⟨o', e⟩ => by injection e with e; injection e with e; omega)
                  have hB1 : ∀ j, rowB A1 j → ws.heap.size ≤ j := fun j hj => by
                    rcases h3 j hj with ⟨o', e⟩ | e
                    · injection e with e; injection e with e; omega
                    · exact Nat.le_trans HK1.out.size e
                  have HS1 := hide (h1.fresh ((Keeps.refl NoB w1).alloc (.cells #[.int .i64 x1] 3))); have HKB := hide (hk3.alloc (.cells #[.int .i64 x1] 3)); have HB1 := hide hB1
                  clear h1 h2 h3 hk3 hB1 HM
                  go_wp2_with (at_builtin; go_loud (refine wpList_append_any _ rfl (.tmp 59) (.tmp 61) 25 rfl 3 i0 _ 1 8 Tryz.underlying25 ni0 nz0 nz1 nz2 rfl (by omega) A1 q c1 T rfl HS1.out (fun _ => True) true (some ⟨w1.heap.size, 0, none⟩) 1 1 [.int .i64 x1] rfl (lit_reads (xs := [x1]) (Blk.new w1 3 #[.int .i64 x1])) (intC_ones [x1]) (by unfold maxLen; omega) (by omega) ?_))
                  intro A2 c2 w2 h1 h2 h3
                  have hk3 : Keeps NoB ws w2 := HKB.out.trans' h2 (fun _ _ => id) (fun j hj hr => by have := HB1.out j hr; omega)
                  have hB2 : ∀ j, rowB A2 j → ws.heap.size ≤ j := fun j hj => (h3 j hj).elim (HB1.out j) (fun e => Nat.le_trans HKB.out.size e)
                  have HSC := hide h1; have HK3 := hide hk3; have HB2 := hide hB2
                  clear h1 h2 h3 hk3 hB2 HS1 HB1
                  obtain rfl : U = [] := by first | exact HU0.out rfl | exact HU0.out trivial
                  go_wp2_with (at_builtin; go_loud (refine wpList_append_any _ rfl (.tmp 63) (.tmp 66) 25 rfl 3 i0 _ 1 8 Tryz.underlying25 ni0 nz0 nz1 nz2 rfl (by omega) A2 (q + 1) c2 (T ++ [.int .i64 x1]) rfl HSC.out (rowB none) true (some ⟨g, o, none⟩) 0 0 [] rfl (Reads.zero _ _ _ _ _) hUo (by unfold maxLen; omega) (by omega) ?_))
                  intro A3 c3 w3 h1 h2 h3
                  have hk4 : Keeps NoB ws w3 := HK3.out.trans' h2 (fun _ _ => id) (fun j hj hr => by have := HB2.out j hr; omega)
                  have hB3 : ∀ j, rowB A3 j → ws.heap.size ≤ j := fun j hj => (h3 j hj).elim (HB2.out j) (fun e => Nat.le_trans HK3.out.size e)
                  have hen : q + 1 + (q - q) = q + 1 := by omega
                  try rw [hen]
                  have h1' : Slab w3 3 1 A3 (q + 1) c3 ((T ++ [.int .i64 x1]) ++ []) := by
                    first
                    | (rw [List.append_nil]; exact h1)
                    | exact h1
                    | (rw [List.append_assoc]; exact h1)
                    | (rw [hen] at h1; exact h1)
                    | (rw [hen] at h1; rw [List.append_assoc]; exact h1)
                  have HFI := hide (HEND.out _ _ _ h1')
                  have HKF := hide (HK2.out.trans' hk4 (fun _ _ => id) (fun _ _ => id))
                  have HFF := hide (show ∀ k, rowB A3 k → w.heap.size ≤ k from fun k hr => Nat.le_trans HK2.out.size (hB3 k hr))
                  clear h1 h1' h2 h3 hk4 hB3 hen HK3 HB2 HSC
                  go_wp2_with fail
                  go_roundg (n - (i + 1))
                  case measure => omega
                  case rel => exact ⟨i + 1, A3, c3, by omega, rfl, by go_num, HFI.out.1, HFI.out.2, HKF.out, HFF.out⟩
                · skip
                  have hnc : q ≤ cX := HS2.out.2.1
                  have hat0 : (0 : Int) ≤ at' := by omega
                  have hatn : (at' : Int) ≤ q := by omega
                  have hatc : at' ≤ cX := by omega
                  have hatcz : (at' : Int) ≤ cX := by omega
                  have HK1 := hide (((Keeps.refl NoB ws).alloc (.cells #[] 3)) : Keeps NoB ws (ws.alloc (.cells #[] 3)))
                  have HM := hide (Slab.made ws 3 1)
                  have HCUT := hide hcut
                  clear hcut
                  obtain ⟨T, hT⟩ : ∃ T, (intC L0).take (at' * 1) = T := ⟨_, rfl⟩
                  obtain ⟨U, hU⟩ : ∃ U, (intC L0).drop (at' * 1) = U := ⟨_, rfl⟩
                  have hTo : ∀ u ∈ T, u.oneCell' = true := fun u hu => intC_ones _ u (List.mem_of_mem_take (hT ▸ hu))
                  have hUo : ∀ u ∈ U, u.oneCell' = true := fun u hu => intC_ones _ u (List.mem_of_mem_drop (hU ▸ hu))
                  have HTR := hide (show Reads (ws.alloc (.cells #[] 3)) (rowB (some ⟨g, o, none⟩)) true 1 (some ⟨g, o, none⟩) at' T from by rw [← hT]; exact (Slab.part HS2.out hle).keep HK1.out (fun _ _ => id))
                  have HEND := hide (show ∀ (A3 : Option Addr) (c3 : Nat) (w3 : World), Slab w3 3 1 A3 (q + 1) c3 ((T ++ [.int .i64 x1]) ++ U) → Value.slice A3 (q + 1) c3 = Value.slice A3 (ofR a (P.take (i + 1))).length c3 ∧ Slab w3 3 1 A3 (ofR a (P.take (i + 1))).length c3 (intC (ofR a (P.take (i + 1)))) from by
                    intro A3 c3 w3 h1
                    rw [HT.out, HO.out, insI_len, HQ.out]
                    rw [← hT, ← hU] at h1
                    exact ⟨rfl, by rw [HCUT.out, intC_ins]; exact h1⟩)
                  have HU0 := hide (show at' = q → U = [] from by
                    intro e; rw [← hU, List.drop_eq_nil_of_le (by rw [List.length_map, HQ.out]; omega)])
                  have HUR := hide (show Reads ws (rowB (some ⟨g, o, none⟩)) true 1 (some ⟨g, o + at' * 1, none⟩) (q - at') U from by rw [← hU]; exact Reads.part HS2.out.reads hle)
                  clear hT hU
                  go_wp2_with (at_builtin; go_loud (refine wpList_append_any _ rfl (.tmp 54) (.tmp 57) 25 rfl 3 i0 _ 1 8 Tryz.underlying25 ni0 nz0 nz1 nz2 rfl (by omega) (some ⟨ws.heap.size, 0, none⟩) 0 0 [] rfl HM.out (rowB (some ⟨g, o, none⟩)) true (some ⟨g, o, none⟩) at' cX T rfl HTR.out hTo (by unfold maxLen; omega) (by omega) ?_))
                  intro A1 c1 w1 h1 h2 h3
                  have hk3 : Keeps NoB ws w1 := HK1.out.trans' h2 (fun _ _ => id) (fun j hj ⟨o', e⟩ => by injection e with e; injection e with e; omega)
                  have hB1 : ∀ j, rowB A1 j → ws.heap.size ≤ j := fun j hj => by
                    rcases h3 j hj with ⟨o', e⟩ | e
                    · injection e with e; injection e with e; omega
                    · exact Nat.le_trans HK1.out.size e
                  have HS1 := hide (h1.fresh ((Keeps.refl NoB w1).alloc (.cells #[.int .i64 x1] 3))); have HKB := hide (hk3.alloc (.cells #[.int .i64 x1] 3)); have HB1 := hide hB1
                  clear h1 h2 h3 hk3 hB1 HM
                  go_wp2_with (at_builtin; go_loud (refine wpList_append_any _ rfl (.tmp 59) (.tmp 61) 25 rfl 3 i0 _ 1 8 Tryz.underlying25 ni0 nz0 nz1 nz2 rfl (by omega) A1 at' c1 T rfl HS1.out (fun _ => True) true (some ⟨w1.heap.size, 0, none⟩) 1 1 [.int .i64 x1] rfl (lit_reads (xs := [x1]) (Blk.new w1 3 #[.int .i64 x1])) (intC_ones [x1]) (by unfold maxLen; omega) (by omega) ?_))
                  intro A2 c2 w2 h1 h2 h3
                  have hk3 : Keeps NoB ws w2 := HKB.out.trans' h2 (fun _ _ => id) (fun j hj hr => by have := HB1.out j hr; omega)
                  have hB2 : ∀ j, rowB A2 j → ws.heap.size ≤ j := fun j hj => (h3 j hj).elim (HB1.out j) (fun e => Nat.le_trans HKB.out.size e)
                  have HSC := hide h1; have HK3 := hide hk3; have HB2 := hide hB2
                  clear h1 h2 h3 hk3 hB2 HS1 HB1
                  go_wp2_with (at_builtin; go_loud (refine wpList_append_any _ rfl (.tmp 63) (.tmp 66) 25 rfl 3 i0 _ 1 8 Tryz.underlying25 ni0 nz0 nz1 nz2 rfl (by omega) A2 (at' + 1) c2 (T ++ [.int .i64 x1]) rfl HSC.out (rowB (some ⟨g, o, none⟩)) true (some ⟨g, o + at', none⟩) (q - at') (cX - at') U rfl (by have := HUR.out.keep HK3.out (fun _ _ => id); rwa [Nat.mul_one] at this) hUo (by unfold maxLen; omega) (by omega) ?_))
                  intro A3 c3 w3 h1 h2 h3
                  have hk4 : Keeps NoB ws w3 := HK3.out.trans' h2 (fun _ _ => id) (fun j hj hr => by have := HB2.out j hr; omega)
                  have hB3 : ∀ j, rowB A3 j → ws.heap.size ≤ j := fun j hj => (h3 j hj).elim (HB2.out j) (fun e => Nat.le_trans HK3.out.size e)
                  have hen : at' + 1 + (q - at') = q + 1 := by omega
                  try rw [hen]
                  have h1' : Slab w3 3 1 A3 (q + 1) c3 ((T ++ [.int .i64 x1]) ++ U) := by
                    first
                    | (rw [List.append_nil]; exact h1)
                    | exact h1
                    | (rw [List.append_assoc]; exact h1)
                    | (rw [hen] at h1; exact h1)
                    | (rw [hen] at h1; rw [List.append_assoc]; exact h1)
                  have HFI := hide (HEND.out _ _ _ h1')
                  have HKF := hide (HK2.out.trans' hk4 (fun _ _ => id) (fun _ _ => id))
                  have HFF := hide (show ∀ k, rowB A3 k → w.heap.size ≤ k from fun k hr => Nat.le_trans HK2.out.size (hB3 k hr))
                  clear h1 h1' h2 h3 hk4 hB3 hen HK3 HB2 HSC
                  go_wp2_with fail
                  go_roundg (n - (i + 1))
                  case measure => omega
                  case rel => exact ⟨i + 1, A3, c3, by omega, rfl, by go_num, HFI.out.1, HFI.out.2, HKF.out, HFF.out⟩
        · have hq2 : (x2 == a) = false := by simpa using hx2
          have HO := hide (show inO a L0 (x1, x2) = L0 from by unfold inO other; simp [hx1, hx2])
          clear hx1 hx2
          go_wp2_with fail
          go_roundg (n - (i + 1))
          case measure => omega
          case rel => exact ⟨i + 1, X, cX, by omega, rfl, by go_num, by rw [HT.out, HO.out, HQ.out], by rw [HT.out, HO.out, HQ.out]; exact HS2.out, HK2.out, HF.out⟩
    · obtain rfl : i = n := by omega
      have hiz : ¬ (i : Int) < i := by omega
      have e1 : P.take i = P := List.take_of_length_le (by have := HN.out; omega)
      rw [e1] at HS ⊢
      go_wp2_with fail
      go_ret
      exact ⟨X, cX, rfl, HS.out, HK.out, HF.out⟩
end Go.Proofs.YtjmljjmnamfljaaGreat
