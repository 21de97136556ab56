/- The document's links in memory: Unlink, Unwatch. -/
import Derived.Test.YtjmljjmnamfljaaGreatRef
namespace Go.Proofs.YtjmljjmnamfljaaGreat
set_option maxRecDepth 100000
open Go.RowKit Go.Maps

theorem prs_erase (P : List Pr) (k : Nat) : prs (P.eraseIdx k) = (prs P).take (k * 2) ++ (prs P).drop ((k + 1) * 2) := by
  rw [List.eraseIdx_eq_take_drop_succ, prs_append, prs_take, prs_drop]
theorem mons_erase (P : List Mon) (k : Nat) : mons (P.eraseIdx k) = (mons P).take (k * 3) ++ (mons P).drop ((k + 1) * 3) := by
  rw [List.eraseIdx_eq_take_drop_succ, mons_append, mons_take, mons_drop]
def UnPost (w : World) (r : Nat) (A B : Option Addr) (d : Nat) (P : List Pr) (M : List Mon) (p : Pr) (e : Ending) (w' : World) : Prop := ∃ i A' c', e = .returned (.bool true) ∧ P[i]? = some p ∧ RefAt w' r A' c' B d (P.eraseIdx i) M ∧ Keeps (refFp r A B) w w' ∧ Moved w A A'

theorem runlink_no (w : World) (r c d : Nat) (A B : Option Addr) (P : List Pr) (M : List Mon) (a b : Int) (h : RefAt w r A c B d P M) (hP : P.length ≤ 1000000) (hm : pairOf a b ∉ P) : Calls Tryz.prog 25 #[.pointer (some ⟨r, 0, none⟩), .int .i64 a, .int .i64 b] w (RPost w r A B P M false) := by
  have H := hide h
  have HM := hide (show (min a b, max a b) ∉ P from hm)
  clear h hm
  go_enter Tryz.func25, Tryz.ntmps25
  go_wp2_with
    first
    | (go_at_call 56
       refine (pair_any a b _).mono ?_
       rintro e w1 ⟨rfl, hk⟩
       have HR1 := hide (H.out.fresh hk); have HK1 := hide hk
       clear hk)
    | (go_at_call 55
       refine (find_no w1 r c d A B P M (min a b) (max a b) HR1.out hP HM.out).mono ?_
       rintro e w2 ⟨rfl, hk⟩
       have HK2 := hide (HK1.out.trans' hk (fun _ _ => id) (fun _ _ => id))
       clear hk HR1 HK1)
    | fail
  go_ret
  exact rpost_same H.out HK2.out
set_option maxRecDepth 100000 in
set_option maxHeartbeats 4000000 in
theorem runlink_yes (w : World) (r c d : Nat) (A B : Option Addr) (P : List Pr) (M : List Mon) (a b : Int) (h : RefAt w r A c B d P M) (hP : P.length ≤ 1000000) (hm : pairOf a b ∈ P) : Calls Tryz.prog 25 #[.pointer (some ⟨r, 0, none⟩), .int .i64 a, .int .i64 b] w (UnPost w r A B d P M (pairOf a b)) := by
  obtain ⟨i0, ni0, nz0, nz1, nz2⟩ := info_parts Tryz.info106
  have HW := hide h
  obtain ⟨n, hn⟩ : ∃ n, P.length = n := ⟨_, rfl⟩
  have HN := hide hn
  rw [hn] at hP
  have HM := hide (show (min a b, max a b) ∈ P from hm)
  clear h hm hn
  go_enter Tryz.func25, Tryz.ntmps25
  go_wp2_with
    first
    | (go_at_call 56
       refine (pair_any a b _).mono ?_
       rintro e w1 ⟨rfl, hk⟩
       have HR1 := hide (HW.out.fresh hk); have HK1 := hide hk
       clear hk)
    | (go_at_call 55
       refine (find_yes w1 r c d A B P M (min a b) (max a b) HR1.out (by rw [HN.out]; exact hP) HM.out).mono ?_
       rintro e wq ⟨k, rfl, hk, hi⟩
       have H := hide (HR1.out.fresh hk)
       have HKW := hide (HK1.out.trans' hk (fun _ _ => id) (fun _ _ => id))
       have HI := hide hi
       have hk0 : (0 : Int) ≤ (k : Int) := by omega
       have hkn0 : k < P.length := (List.getElem?_eq_some_iff.1 hi).1
       rw [HN.out] at hkn0
       clear hk HR1 HK1 hi)
    | fail
  obtain ⟨g, o, hA, _⟩ := pr_reads H.out.one.reads HI.out
  subst hA
  have k0 : wq.cell? ⟨r, 0, none⟩ = some (.slice (some ⟨g, o, none⟩) n c) := by rw [← HN.out]; exact H.out.blk.cell 0
  have HROW := hide (show Slab wq 106 2 (some ⟨g, o, none⟩) n c (prs P) from HN.out ▸ H.out.one)
  have hnc : n ≤ c := HROW.out.2.1
  have hsp : Hid (∃ sp, sp = (if c = k + 1 then some (⟨g, o, none⟩ : Addr) else some ⟨g, o + (k + 1) * 2, none⟩) ∧ Reads wq (rowB (some ⟨g, o, none⟩)) true 2 sp (n - (k + 1)) ((prs P).drop ((k + 1) * 2))) := hide (by
    refine ⟨_, rfl, ?_⟩
    split
    · have e : n - (k + 1) = 0 := by omega
      rw [e, List.drop_eq_nil_of_le (by rw [prs_len, HN.out]; omega)]
      exact Reads.zero _ _ _ _ _
    · exact Reads.part HROW.out.reads (by omega))
  obtain ⟨sp, hsp1, hsp2⟩ := hsp.out
  have HSP := hide hsp1; have HSR := hide hsp2
  clear hsp hsp1 hsp2
  refine order_begin (fun W => Keeps NoB wq W) (fun j => !(j == 19)) (by kernel_rfl) 20 rfl ?_
  have HS : Keeps NoB wq wq.drew := (Keeps.refl _ _).drew
  have HK1 := hide k0
  clear k0
  have hwr : IntKind.i64.wrap ((k : Int) + 1) = (k : Int) + 1 := IntWalk.i64_in _ (by omega)
  have hw0 : (0 : Int) ≤ (k : Int) + 1 := by omega
  have hw1 : ((k : Int) + 1).toNat = k + 1 := by omega
  have hkn : k ≤ n := by omega
  have hkn1 : k + 1 ≤ n := by omega
  refine order_pure (i := 0) rfl (by kernel_rfl) (fun _ _ _ h => h) (.inl ⟨rfl, fun _ => by go_simp; rfl⟩) ?_
  try simp only [Act.put, List.setIfInBounds_toArray, List.set_cons_succ, List.set_cons_zero]
  refine order_pure (i := 2) rfl (by kernel_rfl) (fun _ _ _ h => h) (.inl ⟨rfl, fun _ => by go_simp; rfl⟩) ?_
  try simp only [Act.put, List.setIfInBounds_toArray, List.set_cons_succ, List.set_cons_zero]
  refine order_pure (i := 3) rfl (by kernel_rfl) (fun _ _ _ h => h) (.inl ⟨rfl, fun _ => by go_simp; rfl⟩) ?_
  try simp only [Act.put, List.setIfInBounds_toArray, List.set_cons_succ, List.set_cons_zero]
  refine order_pure (i := 4) rfl (by kernel_rfl) (fun _ _ _ h => h) (.inl ⟨rfl, fun _ => by go_simp; rfl⟩) ?_
  try simp only [Act.put, List.setIfInBounds_toArray, List.set_cons_succ, List.set_cons_zero]
  refine order_held (i := 5) rfl (by kernel_rfl) (fun _ _ _ h => h) (.inl ⟨rfl, fun W hW => by
    have q0 : W.cell? ⟨r, 0, none⟩ = some (.slice (some ⟨g, o, none⟩) n c) := hW.cell id HK1.out
    go_simp; rfl⟩) HS ?_
  try simp only [Act.put, List.setIfInBounds_toArray, List.set_cons_succ, List.set_cons_zero]
  refine order_pure (i := 6) rfl (by kernel_rfl) (fun _ _ _ h => h) (.inl ⟨rfl, fun _ => by go_simp; rfl⟩) ?_
  try simp only [Act.put, List.setIfInBounds_toArray, List.set_cons_succ, List.set_cons_zero]
  refine order_pure (i := 7) (v := .slice (some ⟨g, o, none⟩) k c) rfl (by kernel_rfl) (fun _ _ _ h => h) (.inl ⟨rfl, fun W => by go_simp <;> (intro hlt; omega)⟩) ?_
  try simp only [Act.put, List.setIfInBounds_toArray, List.set_cons_succ, List.set_cons_zero]
  refine order_pure (i := 9) rfl (by kernel_rfl) (fun _ _ _ h => h) (.inl ⟨rfl, fun _ => by go_simp; rfl⟩) ?_
  try simp only [Act.put, List.setIfInBounds_toArray, List.set_cons_succ, List.set_cons_zero]
  refine order_pure (i := 10) rfl (by kernel_rfl) (fun _ _ _ h => h) (.inl ⟨rfl, fun _ => by go_simp; rfl⟩) ?_
  try simp only [Act.put, List.setIfInBounds_toArray, List.set_cons_succ, List.set_cons_zero]
  refine order_pure (i := 11) rfl (by kernel_rfl) (fun _ _ _ h => h) (.inl ⟨rfl, fun _ => by go_simp; rfl⟩) ?_
  try simp only [Act.put, List.setIfInBounds_toArray, List.set_cons_succ, List.set_cons_zero]
  refine order_held (i := 12) rfl (by kernel_rfl) (fun _ _ _ h => h) (.inl ⟨rfl, fun W hW => by
    have q0 : W.cell? ⟨r, 0, none⟩ = some (.slice (some ⟨g, o, none⟩) n c) := hW.cell id HK1.out
    go_simp; rfl⟩) HS ?_
  try simp only [Act.put, List.setIfInBounds_toArray, List.set_cons_succ, List.set_cons_zero]
  refine order_pure (i := 13) rfl (by kernel_rfl) (fun _ _ _ h => h) (.inl ⟨rfl, fun _ => by go_simp; rfl⟩) ?_
  try simp only [Act.put, List.setIfInBounds_toArray, List.set_cons_succ, List.set_cons_zero]
  refine order_pure (i := 14) rfl (by kernel_rfl) (fun _ _ _ h => h) (.inl ⟨rfl, fun _ => by go_simp; rfl⟩) ?_
  try simp only [Act.put, List.setIfInBounds_toArray, List.set_cons_succ, List.set_cons_zero]
  refine order_pure (i := 15) (v := .slice sp (n - (k + 1)) (c - (k + 1))) rfl (by kernel_rfl) (fun _ _ _ h => h) (.inl ⟨rfl, fun W => by rw [HSP.out]; go_simp <;> (intro hlt; omega)⟩) ?_
  try simp only [Act.put, List.setIfInBounds_toArray, List.set_cons_succ, List.set_cons_zero]
  clear hwr hw0 hw1
  refine order_one (i := 1) rfl (by kernel_rfl) (fun K hK => ?_)
  go_simp
  have hk1 : Keeps NoB wq (wq.alloc (.cells #[] 106)).drew := ((Keeps.refl NoB wq).alloc _).drew
  refine hK _ _ (fun _ _ => hk1) ?_
  clear hK HS
  have HM := hide (Slab.made wq 106 2).drew
  have HK2 := hide hk1
  clear hk1
  try simp only [Act.put, List.setIfInBounds_toArray, List.set_cons_succ, List.set_cons_zero]
  refine order_one (i := 8) rfl (by kernel_rfl) (fun K hK => ?_)
  refine step_append_any _ rfl (.tmp 16) (.tmp 22) 38 rfl 106 i0 _ 2 16 Tryz.underlying38 ni0 nz0 nz1 nz2 rfl (by omega) (some ⟨wq.heap.size, 0, none⟩) 0 0 [] rfl HM.out (rowB (some ⟨g, o, none⟩)) true (some ⟨g, o, none⟩) k c ((prs P).take (k * 2)) rfl ((Slab.part HROW.out (by omega)).keep HK2.out (fun _ _ => id)) (fun u hu => prs_ones _ u (List.mem_of_mem_take hu)) (by unfold maxLen; omega) (by omega) (fun B1 c1 w2 h1 h2 h3 => ?_)
  rw [Nat.zero_add, List.nil_append] at h1
  have hk3 : Keeps NoB wq w2 := HK2.out.trans' h2 (fun _ _ => id) (fun j hj ⟨o', e⟩ => by injection e with e; injection e with e; omega)
  have hB1 : ∀ j, rowB B1 j → wq.heap.size ≤ j := fun j hj => by
    rcases h3 j hj with ⟨o', e⟩ | e
    · injection e with e; injection e with e; omega
    · exact Nat.le_trans HK2.out.size e
  refine hK _ _ (fun _ _ => hk3) ?_
  have HS2 := hide h1; have HK3 := hide hk3; have HB1 := hide hB1
  clear hK h1 h2 h3 hk3 hB1 HM
  rw [Nat.zero_add]
  try simp only [Act.put, List.setIfInBounds_toArray, List.set_cons_succ, List.set_cons_zero]
  refine order_one (i := 16) rfl (by kernel_rfl) (fun K hK => ?_)
  refine step_append_any _ rfl (.tmp 23) (.tmp 30) 38 rfl 106 i0 _ 2 16 Tryz.underlying38 ni0 nz0 nz1 nz2 rfl (by omega) B1 k c1 ((prs P).take (k * 2)) rfl HS2.out (rowB (some ⟨g, o, none⟩)) true sp (n - (k + 1)) (c - (k + 1)) ((prs P).drop ((k + 1) * 2)) rfl (HSR.out.keep HK3.out (fun _ _ => id)) (fun u hu => prs_ones _ u (List.mem_of_mem_drop hu)) (by unfold maxLen; omega) (by omega) (fun B2 c2 w3 h1 h2 h3 => ?_)
  have hk4 : Keeps NoB wq w3 := HK3.out.trans' h2 (fun _ _ => id) (fun j hj hr => by have := HB1.out j hr; omega)
  have hB2 : ∀ j, rowB B2 j → wq.heap.size ≤ j := fun j hj => (h3 j hj).elim (HB1.out j) (fun e => Nat.le_trans HK3.out.size e)
  rw [show k + (n - (k + 1)) = n - 1 from by omega] at h1 ⊢
  refine hK _ _ (fun _ _ => hk4) ?_
  have hb := H.out.blk.keep hk4 id
  have g0 : w3.cell? ⟨r, 0, none⟩ = some (.slice (some ⟨g, o, none⟩) (P).length c) := hb.cell 0
  have f0 : w3.frozen? ⟨r, 0, none⟩ = false := hb.free 0
  have HF := hide (ref_set0 (A' := B2) (n' := n - 1) (c' := c2) (P' := (P).eraseIdx k) H.out hk4 (fun _ h => h.elim) (Moved.new hB2) (by rw [prs_erase]; exact h1) (by rw [List.length_eraseIdx_of_lt (by have := HN.out; omega), HN.out]))
  have HMV := hide (show Moved wq (some ⟨g, o, none⟩) B2 from Moved.new hB2)
  clear hK h1 h2 h3 hk4 hB2 hb
  try simp only [Act.put, List.setIfInBounds_toArray, List.set_cons_succ, List.set_cons_zero]
  refine order_pure (i := 17) rfl (by kernel_rfl) (fun _ _ _ h => h) (.inl ⟨rfl, fun _ => by go_simp; rfl⟩) ?_
  try simp only [Act.put, List.setIfInBounds_toArray, List.set_cons_succ, List.set_cons_zero]
  refine order_pure (i := 18) rfl (by kernel_rfl) (fun _ _ _ h => h) (.inl ⟨rfl, fun _ => by go_simp; rfl⟩) ?_
  try simp only [Act.put, List.setIfInBounds_toArray, List.set_cons_succ, List.set_cons_zero]
  refine order_one (i := 19) rfl (by kernel_rfl) (fun K hK => ?_)
  go_simp
  refine hK _ _ (fun h => absurd h (by decide)) ?_
  clear hK
  try simp only [Act.put, List.setIfInBounds_toArray, List.set_cons_succ, List.set_cons_zero]
  refine order_done (by kernel_rfl) ?_
  go_wp2_with fail
  go_ret
  exact ⟨k, B2, c2, rfl, HI.out, HF.out.1, HKW.out.trans' HF.out.2 (fun _ _ h => h.elim) (fun _ _ h => h), (Moved.same _ _).trans HKW.out.size HMV.out⟩

def UwPost (w : World) (r : Nat) (A B : Option Addr) (P : List Pr) (M : List Mon) (q p : Int) (e : Ending) (w' : World) : Prop := RPost w r A B P (goX q p M) (canX q p M) e w'
theorem erase_dropRef {M : List Mon} (hu : UpM M) {k : Nat} {x : Mon} (h : M[k]? = some x) : M.eraseIdx k = dropRef x.ref M := by
  induction M generalizing k with
  | nil => simp at h
  | cons y M ih =>
    unfold UpM refs at hu
    rw [List.map_cons] at hu
    obtain ⟨h1, h2⟩ := List.pairwise_cons.1 hu
    cases k with
    | zero =>
      obtain rfl : y = x := by simpa using h
      rw [List.eraseIdx_cons_zero]
      unfold dropRef
      rw [List.filter_cons_of_neg (by simp)]
      refine (List.filter_eq_self.2 fun z hz => ?_).symm
      have := h1 z.ref (List.mem_map_of_mem hz)
      simp; omega
    | succ k =>
      have hk : M[k]? = some x := by simpa using h
      have hlt := h1 x.ref (List.mem_map_of_mem (List.mem_of_getElem? hk))
      rw [List.eraseIdx_cons_succ, ih h2 hk]
      unfold dropRef
      rw [List.filter_cons_of_pos (by simp; omega)]
set_option maxRecDepth 100000 in
set_option maxHeartbeats 4000000 in
theorem runwatch_any (wq : World) (r c0 c : Nat) (A B : Option Addr) (P : List Pr) (M : List Mon) (q p : Int) (h : RefAt wq r A c0 B c P M) (hM : M.length ≤ 1000000) (hu : UpM M) : Calls Tryz.prog 27 #[.pointer (some ⟨r, 0, none⟩), .int .i64 q, .int .i64 p] wq (UwPost wq r A B P M q p) := by
  obtain ⟨i0, ni0, nz0, nz1, nz2⟩ := info_parts Tryz.info108
  have H := hide h; have HU := hide hu
  obtain ⟨n, hn⟩ : ∃ n, M.length = n := ⟨_, rfl⟩
  have HN := hide hn
  rw [hn] at hM
  have k0 : wq.cell? ⟨r, 1, none⟩ = some (.slice B n c) := by rw [← hn]; exact h.blk.cell 1
  clear h hn hu
  go_enter Tryz.func27, Tryz.ntmps27
  go_wp2_with fail
  go_loopg [7] n (fun g s7 wx => ∃ k : Nat, k ≤ n ∧ g = n - k ∧ s7 = .int .i64 k ∧ wq = wx ∧ Hid (∀ j x, j < k → M[j]? = some x → ¬ (x.ref = q ∧ x.who = p)))
  case atStart => exact ⟨0, Nat.zero_le _, rfl, rfl, rfl, hide (fun j z h => by omega)⟩
  case round =>
    obtain ⟨k, hk, rfl, rfl, rfl, HI⟩ := hrel
    have hk0 : (0 : Int) ≤ k := by omega
    by_cases hlt : k < n
    · have hkz : (k : Int) < n := by omega
      obtain ⟨x, hx⟩ : ∃ x, M[k]? = some x := ⟨_, List.getElem?_eq_getElem (by have := HN.out; omega)⟩
      obtain ⟨g, o, hA, p0, p1, p2⟩ := mon_reads H.out.two.reads hx
      subst hA
      obtain ⟨xr, xw, xm⟩ := x
      simp only at p0 p1 p2
      have HX := hide hx
      clear hx
      cases hq1 : (xr == q) with
      | false =>
        have HI2 := hide (show ∀ j x, j < k + 1 → M[j]? = some x → ¬ (x.ref = q ∧ x.who = p) from fun j z hj hz => by
          rcases Nat.lt_succ_iff_lt_or_eq.1 hj with h | rfl
          · exact HI.out j z h hz
          · rw [HX.out] at hz; cases hz; rintro ⟨e1, e2⟩; simp only at e1 e2; simp [e1] at hq1)
        go_wp2_with fail
        go_roundg (n - (k + 1))
        case measure => omega
        case rel => exact ⟨k + 1, by omega, rfl, by go_num, rfl, HI2.out⟩
      | true =>
        cases hq2 : (xw == p) with
        | false =>
          have HI2 := hide (show ∀ j x, j < k + 1 → M[j]? = some x → ¬ (x.ref = q ∧ x.who = p) from fun j z hj hz => by
            rcases Nat.lt_succ_iff_lt_or_eq.1 hj with h | rfl
            · exact HI.out j z h hz
            · rw [HX.out] at hz; cases hz; rintro ⟨e1, e2⟩; simp only at e1 e2; simp [e2] at hq2)
          go_wp2_with fail
          go_roundg (n - (k + 1))
          case measure => omega
          case rel => exact ⟨k + 1, by omega, rfl, by go_num, rfl, HI2.out⟩
        | true =>
          have e1 : xr = q := by simpa using hq1
          have e2 : xw = p := by simpa using hq2
          have HE := hide (show canX q p M = true ∧ goX q p M = M.eraseIdx k from by
            have : canX q p M = true := canX_iff.2 ⟨_, List.mem_of_getElem? HX.out, e1, e2⟩
            exact ⟨this, by unfold goX; rw [if_pos this, erase_dropRef HU.out HX.out, e1]⟩)
          have HROW := hide (show Slab wq 108 3 (some ⟨g, o, none⟩) n c (mons M) from HN.out ▸ H.out.two)
          clear HI e1 e2
          go_wp2_with fail
          clear p0 p1 p2
          have hnc : n ≤ c := HROW.out.2.1
          have hsp : Hid (∃ sp, sp = (if c = k + 1 then some (⟨g, o, none⟩ : Addr) else some ⟨g, o + (k + 1) * 3, none⟩) ∧ Reads wq (rowB (some ⟨g, o, none⟩)) true 3 sp (n - (k + 1)) ((mons M).drop ((k + 1) * 3))) := hide (by
            refine ⟨_, rfl, ?_⟩
            split
            · have e : n - (k + 1) = 0 := by omega
              rw [e, List.drop_eq_nil_of_le (by rw [mons_len, HN.out]; omega)]
              exact Reads.zero _ _ _ _ _
            · exact Reads.part HROW.out.reads (by omega))
          obtain ⟨sp, hsp1, hsp2⟩ := hsp.out
          have HSP := hide hsp1; have HSR := hide hsp2
          clear hsp hsp1 hsp2
          refine order_begin (fun W => Keeps NoB wq W) (fun j => !(j == 19)) (by kernel_rfl) 20 rfl ?_
          have HS : Keeps NoB wq wq.drew := (Keeps.refl _ _).drew
          have HK1 := hide k0
          clear k0
          have hwr : IntKind.i64.wrap ((k : Int) + 1) = (k : Int) + 1 := IntWalk.i64_in _ (by omega)
          have hw0 : (0 : Int) ≤ (k : Int) + 1 := by omega
          have hw1 : ((k : Int) + 1).toNat = k + 1 := by omega
          have hkn : k ≤ n := by omega
          have hkn1 : k + 1 ≤ n := by omega
          refine order_pure (i := 0) rfl (by kernel_rfl) (fun _ _ _ h => h) (.inl ⟨rfl, fun _ => by go_simp; rfl⟩) ?_
          try simp only [Act.put, List.setIfInBounds_toArray, List.set_cons_succ, List.set_cons_zero]
          refine order_pure (i := 2) rfl (by kernel_rfl) (fun _ _ _ h => h) (.inl ⟨rfl, fun _ => by go_simp; rfl⟩) ?_
          try simp only [Act.put, List.setIfInBounds_toArray, List.set_cons_succ, List.set_cons_zero]
          refine order_pure (i := 3) rfl (by kernel_rfl) (fun _ _ _ h => h) (.inl ⟨rfl, fun _ => by go_simp; rfl⟩) ?_
          try simp only [Act.put, List.setIfInBounds_toArray, List.set_cons_succ, List.set_cons_zero]
          refine order_pure (i := 4) rfl (by kernel_rfl) (fun _ _ _ h => h) (.inl ⟨rfl, fun _ => by go_simp; rfl⟩) ?_
          try simp only [Act.put, List.setIfInBounds_toArray, List.set_cons_succ, List.set_cons_zero]
          refine order_held (i := 5) rfl (by kernel_rfl) (fun _ _ _ h => h) (.inl ⟨rfl, fun W hW => by
            have q0 : W.cell? ⟨r, 1, none⟩ = some (.slice (some ⟨g, o, none⟩) n c) := hW.cell id HK1.out
            go_simp; rfl⟩) HS ?_
          try simp only [Act.put, List.setIfInBounds_toArray, List.set_cons_succ, List.set_cons_zero]
          refine order_pure (i := 6) rfl (by kernel_rfl) (fun _ _ _ h => h) (.inl ⟨rfl, fun _ => by go_simp; rfl⟩) ?_
          try simp only [Act.put, List.setIfInBounds_toArray, List.set_cons_succ, List.set_cons_zero]
          refine order_pure (i := 7) (v := .slice (some ⟨g, o, none⟩) k c) rfl (by kernel_rfl) (fun _ _ _ h => h) (.inl ⟨rfl, fun W => by go_simp <;> (intro hlt; omega)⟩) ?_
          try simp only [Act.put, List.setIfInBounds_toArray, List.set_cons_succ, List.set_cons_zero]
          refine order_pure (i := 9) rfl (by kernel_rfl) (fun _ _ _ h => h) (.inl ⟨rfl, fun _ => by go_simp; rfl⟩) ?_
          try simp only [Act.put, List.setIfInBounds_toArray, List.set_cons_succ, List.set_cons_zero]
          refine order_pure (i := 10) rfl (by kernel_rfl) (fun _ _ _ h => h) (.inl ⟨rfl, fun _ => by go_simp; rfl⟩) ?_
          try simp only [Act.put, List.setIfInBounds_toArray, List.set_cons_succ, List.set_cons_zero]
          refine order_pure (i := 11) rfl (by kernel_rfl) (fun _ _ _ h => h) (.inl ⟨rfl, fun _ => by go_simp; rfl⟩) ?_
          try simp only [Act.put, List.setIfInBounds_toArray, List.set_cons_succ, List.set_cons_zero]
          refine order_held (i := 12) rfl (by kernel_rfl) (fun _ _ _ h => h) (.inl ⟨rfl, fun W hW => by
            have q0 : W.cell? ⟨r, 1, none⟩ = some (.slice (some ⟨g, o, none⟩) n c) := hW.cell id HK1.out
            go_simp; rfl⟩) HS ?_
          try simp only [Act.put, List.setIfInBounds_toArray, List.set_cons_succ, List.set_cons_zero]
          refine order_pure (i := 13) rfl (by kernel_rfl) (fun _ _ _ h => h) (.inl ⟨rfl, fun _ => by go_simp; rfl⟩) ?_
          try simp only [Act.put, List.setIfInBounds_toArray, List.set_cons_succ, List.set_cons_zero]
          refine order_pure (i := 14) rfl (by kernel_rfl) (fun _ _ _ h => h) (.inl ⟨rfl, fun _ => by go_simp; rfl⟩) ?_
          try simp only [Act.put, List.setIfInBounds_toArray, List.set_cons_succ, List.set_cons_zero]
          refine order_pure (i := 15) (v := .slice sp (n - (k + 1)) (c - (k + 1))) rfl (by kernel_rfl) (fun _ _ _ h => h) (.inl ⟨rfl, fun W => by rw [HSP.out]; go_simp <;> (intro hlt; omega)⟩) ?_
          try simp only [Act.put, List.setIfInBounds_toArray, List.set_cons_succ, List.set_cons_zero]
          clear hwr hw0 hw1
          refine order_one (i := 1) rfl (by kernel_rfl) (fun K hK => ?_)
          go_simp
          have hk1 : Keeps NoB wq (wq.alloc (.cells #[] 108)).drew := ((Keeps.refl NoB wq).alloc _).drew
          refine hK _ _ (fun _ _ => hk1) ?_
          clear hK HS
          have HM := hide (Slab.made wq 108 3).drew
          have HK2 := hide hk1
          clear hk1
          try simp only [Act.put, List.setIfInBounds_toArray, List.set_cons_succ, List.set_cons_zero]
          refine order_one (i := 8) rfl (by kernel_rfl) (fun K hK => ?_)
          refine step_append_any _ rfl (.tmp 40) (.tmp 46) 39 rfl 108 i0 _ 3 24 Tryz.underlying39 ni0 nz0 nz1 nz2 rfl (by omega) (some ⟨wq.heap.size, 0, none⟩) 0 0 [] rfl HM.out (rowB (some ⟨g, o, none⟩)) true (some ⟨g, o, none⟩) k c ((mons M).take (k * 3)) rfl ((Slab.part HROW.out (by omega)).keep HK2.out (fun _ _ => id)) (fun u hu => mons_ones _ u (List.mem_of_mem_take hu)) (by unfold maxLen; omega) (by omega) (fun B1 c1 w2 h1 h2 h3 => ?_)
          rw [Nat.zero_add, List.nil_append] at h1
          have hk3 : Keeps NoB wq w2 := HK2.out.trans' h2 (fun _ _ => id) (fun j hj ⟨o', e⟩ => by injection e with e; injection e with e; omega)
          have hB1 : ∀ j, rowB B1 j → wq.heap.size ≤ j := fun j hj => by
            rcases h3 j hj with ⟨o', e⟩ | e
            · injection e with e; injection e with e; omega
            · exact Nat.le_trans HK2.out.size e
          refine hK _ _ (fun _ _ => hk3) ?_
          have HS2 := hide h1; have HK3 := hide hk3; have HB1 := hide hB1
          clear hK h1 h2 h3 hk3 hB1 HM
          rw [Nat.zero_add]
          try simp only [Act.put, List.setIfInBounds_toArray, List.set_cons_succ, List.set_cons_zero]
          refine order_one (i := 16) rfl (by kernel_rfl) (fun K hK => ?_)
          refine step_append_any _ rfl (.tmp 47) (.tmp 54) 39 rfl 108 i0 _ 3 24 Tryz.underlying39 ni0 nz0 nz1 nz2 rfl (by omega) B1 k c1 ((mons M).take (k * 3)) rfl HS2.out (rowB (some ⟨g, o, none⟩)) true sp (n - (k + 1)) (c - (k + 1)) ((mons M).drop ((k + 1) * 3)) rfl (HSR.out.keep HK3.out (fun _ _ => id)) (fun u hu => mons_ones _ u (List.mem_of_mem_drop hu)) (by unfold maxLen; omega) (by omega) (fun B2 c2 w3 h1 h2 h3 => ?_)
          have hk4 : Keeps NoB wq w3 := HK3.out.trans' h2 (fun _ _ => id) (fun j hj hr => by have := HB1.out j hr; omega)
          have hB2 : ∀ j, rowB B2 j → wq.heap.size ≤ j := fun j hj => (h3 j hj).elim (HB1.out j) (fun e => Nat.le_trans HK3.out.size e)
          rw [show k + (n - (k + 1)) = n - 1 from by omega] at h1 ⊢
          refine hK _ _ (fun _ _ => hk4) ?_
          have hb := H.out.blk.keep hk4 id
          have g0 : w3.cell? ⟨r, 1, none⟩ = some (.slice (some ⟨g, o, none⟩) (M).length c) := hb.cell 1
          have f0 : w3.frozen? ⟨r, 1, none⟩ = false := hb.free 1
          have HF := hide (ref_set1 (A' := B2) (n' := n - 1) (c' := c2) (M' := (M).eraseIdx k) H.out hk4 (fun _ h => h.elim) (Moved.new hB2) (by rw [mons_erase]; exact h1) (by rw [List.length_eraseIdx_of_lt (by have := HN.out; omega), HN.out]))
          have HMV := hide (show Moved wq (some ⟨g, o, none⟩) B2 from Moved.new hB2)
          clear hK h1 h2 h3 hk4 hB2 hb
          try simp only [Act.put, List.setIfInBounds_toArray, List.set_cons_succ, List.set_cons_zero]
          refine order_pure (i := 17) rfl (by kernel_rfl) (fun _ _ _ h => h) (.inl ⟨rfl, fun _ => by go_simp; rfl⟩) ?_
          try simp only [Act.put, List.setIfInBounds_toArray, List.set_cons_succ, List.set_cons_zero]
          refine order_pure (i := 18) rfl (by kernel_rfl) (fun _ _ _ h => h) (.inl ⟨rfl, fun _ => by go_simp; rfl⟩) ?_
          try simp only [Act.put, List.setIfInBounds_toArray, List.set_cons_succ, List.set_cons_zero]
          refine order_one (i := 19) rfl (by kernel_rfl) (fun K hK => ?_)
          go_simp
          refine hK _ _ (fun h => absurd h (by decide)) ?_
          clear hK
          try simp only [Act.put, List.setIfInBounds_toArray, List.set_cons_succ, List.set_cons_zero]
          refine order_done (by kernel_rfl) ?_
          go_wp2_with fail
          go_ret
          unfold UwPost
          rw [HE.out.1, HE.out.2]
          exact ⟨A, c0, B2, c2, rfl, HF.out.1, HF.out.2, Moved.same _ _, HMV.out⟩
    · obtain rfl : n = k := by omega
      have hkz : ¬ (n : Int) < n := by omega
      have HE := hide (show canX q p M = false ∧ goX q p M = M from by
        have : canX q p M = false := by
          cases e : canX q p M with
          | false => rfl
          | true =>
            obtain ⟨x, hx, e2⟩ := canX_iff.1 e
            obtain ⟨j, hj, e3⟩ := List.mem_iff_getElem.1 hx
            exact absurd e2 (HI.out j x (by have := HN.out; omega) (List.getElem?_eq_some_iff.2 ⟨hj, e3⟩))
        exact ⟨this, by unfold goX; rw [this]; rfl⟩)
      clear HI
      go_wp2_with fail
      go_ret
      unfold UwPost
      rw [HE.out.1, HE.out.2]
      exact rpost_same H.out (Keeps.refl _ _)
end Go.Proofs.YtjmljjmnamfljaaGreat
