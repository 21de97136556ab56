/- The document's names in memory: Find, Take. -/
import Derived.Test.YthoaaihghgabcaaGreatRefLaw
import Derived.Test.YthoaaihghgabcaaGreatMore
namespace Go.Proofs.YthoaaihghgabcaaGreat
open Go.RowKit Go.Maps

theorem strs_ne {s t : ByteArray} (h : s ≠ t) : (s.toList == t.toList) = false := by
  have h2 : ¬ s.toList = t.toList := fun e => h (key_inj (by rw [Lib.toList_data, Lib.toList_data] at e; exact e))
  simp [h2]
theorem less9 {s t : ByteArray} (h : key s < key t) : Op.bytesLess s.toList t.toList = true := by rw [Proofs.bytesLess_eq, Lib.toList_data, Lib.toList_data]; exact decide_eq_true h
theorem nless9 {s t : ByteArray} (h : ¬ key s < key t) : Op.bytesLess s.toList t.toList = false := by rw [Proofs.bytesLess_eq, Lib.toList_data, Lib.toList_data]; exact decide_eq_false h
theorem int_ne {a b : Int} (h : a ≠ b) : (a == b) = false := by simp [h]

def refFp (r : Nat) (B : Option Addr) (k : Nat) : Prop := k = r ∨ rowB B k
/-- The document's names: block r, and its row. -/
structure RefAt (w : World) (r : Nat) (B : Option Addr) (c : Nat) (R : List Nm) : Prop where
  blk : Blk w r 30 #[.slice B R.length c]
  row : Slab w 42 2 B R.length c (nms R)
theorem RefAt.sep {w : World} {r c : Nat} {B : Option Addr} {R : List Nm} (h : RefAt w r B c R) : ¬ rowB B r := h.row.ne h.blk (by decide)
theorem RefAt.keep {w w' : World} {r c : Nat} {B : Option Addr} {R : List Nm} {fp : Nat → Prop} (h : RefAt w r B c R) (hk : Keeps fp w w') (hf : ∀ k, refFp r B k → ¬ fp k) : RefAt w' r B c R :=
  ⟨h.blk.keep hk (hf r (.inl rfl)), h.row.keep hk (fun k hk => hf k (.inr hk))⟩
theorem RefAt.fresh {w w' : World} {r c : Nat} {B : Option Addr} {R : List Nm} (h : RefAt w r B c R) (hk : Keeps NoB w w') : RefAt w' r B c R := h.keep hk (fun _ _ => id)
def RPost (w : World) (r : Nat) (B : Option Addr) (R' : List Nm) (ok : Bool) (e : Ending) (w' : World) : Prop :=
  ∃ B' c', e = .returned (.bool ok) ∧ RefAt w' r B' c' R' ∧ Keeps (refFp r B) w w' ∧ Moved w B B'
theorem rpost_same {w : World} {r c : Nat} {B : Option Addr} {R : List Nm} {ok : Bool} (h : RefAt w r B c R) (hok : ok = false) : RPost w r B R ok (.returned (.bool false)) w := by
  subst hok
  exact ⟨B, c, rfl, h, Keeps.refl _ _, Moved.same _ _⟩

set_option maxRecDepth 100000 in
set_option maxHeartbeats 2000000 in
theorem rfind_any (r c : Nat) (B : Option Addr) (s : ByteArray) (R : List Nm) (w : World) (p : Int) (ok : Bool) (h : RefAt w r B c R) (hu : Up R) (hl : R.length ≤ 1000000) (hf : FindAt R s p ok) :
    Calls Tryz.prog 20 #[.pointer (some ⟨r, 0, none⟩), .string s] w fun e w' => e = .returned (.tuple #[.int .i64 p, .bool ok]) ∧ w = w' := by
  obtain ⟨n, hn⟩ : ∃ n, R.length = n := ⟨_, rfl⟩
  have k0 : w.cell? ⟨r, 0, none⟩ = some (.slice B n c) := by rw [← hn]; exact h.blk.cell 0
  have HROW := hide (show Slab w 42 2 B n c (nms R) from hn ▸ h.row)
  have HN := hide hn; have HF := hide hf; have HU := hide hu
  rw [hn] at hl
  clear h hn hf hu
  go_enter Tryz.func20, Tryz.ntmps20
  go_wp2_with fail
  go_loopg [6] n (fun g s6 wx => ∃ k : Nat, k ≤ n ∧ g = n - k ∧ s6 = .int .i64 k ∧ w = wx ∧ Hid (∀ j x, j < k → R[j]? = some x → x.1 ≠ s))
  case atStart => exact ⟨0, Nat.zero_le _, rfl, rfl, rfl, hide (fun j x h => by omega)⟩
  case round =>
    obtain ⟨k, hk, rfl, rfl, rfl, HI⟩ := hrel
    by_cases hlt : k < n
    · obtain ⟨⟨g, o, sp⟩, hA, hs, _, _, hc⟩ := HROW.out.reads.2 (by omega)
      simp only at hs
      subst hs hA
      obtain ⟨x, hx⟩ : ∃ x, R[k]? = some x := ⟨_, List.getElem?_eq_getElem (by have := HN.out; omega)⟩
      obtain ⟨e0, e1⟩ := nms_at hx
      obtain ⟨t, q⟩ := x
      have c0 : w.cell? ⟨g, o + k * 2, none⟩ = some (.string t) := (hc _ _ e0).1
      have c1 : w.cell? ⟨g, o + k * 2 + 1, none⟩ = some (.int .i64 q) := (hc _ _ e1).1
      have HX := hide hx
      have hkz : (k : Int) < n := by omega
      have hk0 : (0 : Int) ≤ k := by omega
      clear hc e0 e1 hx
      by_cases ht : t = s
      · subst ht
        have HE := hide (show ok = true ∧ p = q from by
          rcases HF.out with ⟨h1, h2⟩ | ⟨_, h2, _⟩
          · exact ⟨h1, congrArg (·.2) (HU.out.name_one h2 (List.mem_of_getElem? HX.out) rfl)⟩
          · exact absurd (List.mem_map.2 ⟨(t, q), List.mem_of_getElem? HX.out, rfl⟩) h2)
        clear HI
        go_wp2_with fail
        go_ret2
        obtain ⟨rfl, rfl⟩ := HE.out
        exact ⟨rfl, rfl⟩
      · have hb := strs_ne ht
        have HT := hide ht
        clear ht
        go_wp2_with fail
        go_roundg (n - (k + 1))
        case measure => omega
        case rel => exact ⟨k + 1, by omega, rfl, by go_num, rfl, hide (fun j x hj hx => by
          rcases Nat.lt_succ_iff_lt_or_eq.1 hj with h | rfl
          · exact HI.out j x h hx
          · rw [HX.out] at hx; cases hx; exact HT.out)⟩
    · obtain rfl : n = k := by omega
      have hkz : ¬ (n : Int) < n := by omega
      have HE := hide (show ok = false ∧ p = 0 from by
        rcases HF.out with ⟨_, h2⟩ | ⟨h1, _, h3⟩
        · obtain ⟨j, hj, e⟩ := List.mem_iff_getElem.1 h2
          exact absurd rfl (HI.out j (s, p) (by rw [← HN.out]; exact hj) (by rw [List.getElem?_eq_getElem hj, e]))
        · exact ⟨h1, h3⟩)
      clear HI
      go_wp2_with fail
      go_ret2
      obtain ⟨rfl, rfl⟩ := HE.out
      exact ⟨rfl, rfl⟩

theorem Slab.part {w : World} {e : TypeId} {size n c i : Nat} {B : Option Addr} {xs : List Value} (h : Slab w e size B n c xs) (hi : i ≤ n) : Reads w (rowB B) true size B i (xs.take (i * size)) := (h.upto hi).reads
theorem Reads.part {w : World} {B : Nat → Prop} {F : Bool} {size g o n i : Nat} {xs : List Value} (h : Reads w B F size (some ⟨g, o, none⟩) n xs) (hi : i ≤ n) : Reads w B F size (some ⟨g, o + i * size, none⟩) (n - i) (xs.drop (i * size)) := by
  refine ⟨by rw [List.length_drop, h.1, Nat.sub_mul], fun hn => ?_⟩
  obtain ⟨ad, e, hs, hb, hl, hc⟩ := h.2 (by omega)
  injection e with e; subst e
  refine ⟨_, rfl, rfl, hb, hl, fun j u hu => ?_⟩
  rw [List.getElem?_drop] at hu
  have := hc _ u hu
  rw [Nat.add_assoc]
  exact this

set_option maxRecDepth 100000 in
set_option maxHeartbeats 2000000 in
theorem rtake_any (r c : Nat) (B : Option Addr) (s : ByteArray) (R : List Nm) (w : World) (h : RefAt w r B c R) (hu : Up R) (hl : R.length ≤ 1000000) :
    Calls Tryz.prog 19 #[.pointer (some ⟨r, 0, none⟩), .string s] w (RPost w r B (dropName s R) (hasN s R)) := by
  obtain ⟨i0, hi0, hz0, hz1, hz2⟩ := info_parts Tryz.info42
  obtain ⟨n, hn⟩ : ∃ n, R.length = n := ⟨_, rfl⟩
  have k0 : w.cell? ⟨r, 0, none⟩ = some (.slice B n c) := by rw [← hn]; exact h.blk.cell 0
  have HROW := hide (show Slab w 42 2 B n c (nms R) from hn ▸ h.row)
  have H := hide h
  have HN := hide hn; have HU := hide hu
  obtain ⟨ok, hok⟩ : ∃ ok, hasN s R = ok := ⟨_, rfl⟩
  have HOK := hide hok
  rw [hok]
  rw [hn] at hl
  clear h hn hu hok
  go_enter Tryz.func19, Tryz.ntmps19
  go_wp2_with fail
  go_loopg [5] n (fun g s5 wx => ∃ k : Nat, k ≤ n ∧ g = n - k ∧ s5 = .int .i64 k ∧ w = wx ∧ Hid (∀ j x, j < k → R[j]? = some x → x.1 ≠ s))
  case atStart => exact ⟨0, Nat.zero_le _, rfl, rfl, rfl, hide (fun j x h => by omega)⟩
  case round =>
    obtain ⟨k, hk, rfl, rfl, rfl, HI⟩ := hrel
    by_cases hlt : k < n
    · obtain ⟨⟨g, o, sp⟩, hA, hs, _, _, hc⟩ := HROW.out.reads.2 (by omega)
      simp only at hs
      subst hs hA
      obtain ⟨x, hx⟩ : ∃ x, R[k]? = some x := ⟨_, List.getElem?_eq_getElem (by have := HN.out; omega)⟩
      obtain ⟨e0, e1⟩ := nms_at hx
      obtain ⟨t, q⟩ := x
      have c0 : w.cell? ⟨g, o + k * 2, none⟩ = some (.string t) := (hc _ _ e0).1
      have HX := hide hx
      have hkz : (k : Int) < n := by omega
      have hk0 : (0 : Int) ≤ k := by omega
      clear hc e0 e1 hx
      by_cases ht : t = s
      · subst ht
        have HE := hide (show ok = true from by rw [← HOK.out]; exact hasN_at HX.out rfl)
        have HF := hide (drop_at HU.out HX.out rfl)
        have hnc : n ≤ c := HROW.out.2.1
        clear HI HOK
        go_wp2_with fail
        have hsp : Hid (∃ sp, sp = (if c = k + 1 then some (⟨g, o, none⟩ : Addr) else some ⟨g, o + (k + 1) * 2, none⟩) ∧ Reads w (rowB (some ⟨g, o, none⟩)) true 2 sp (n - (k + 1)) ((nms R).drop ((k + 1) * 2))) := hide (by
          refine ⟨_, rfl, ?_⟩
          split
          · have e : n - (k + 1) = 0 := by omega
            rw [e, List.drop_eq_nil_of_le (by rw [nms_len, HN.out]; omega)]
            exact Reads.zero _ _ _ _ _
          · exact Reads.part HROW.out.reads (by omega))
        obtain ⟨sp, hsp1, hsp2⟩ := hsp.out
        have HSP := hide hsp1; have HSR := hide hsp2
        clear hsp hsp1 hsp2
        refine order_begin (fun W => Keeps NoB w W) (fun j => !(j == 19)) (by kernel_rfl) 20 rfl ?_
        have HS : Keeps NoB w w.drew := (Keeps.refl _ _).drew
        have HK1 := hide k0
        clear k0 c0
        have hwr : IntKind.i64.wrap ((k : Int) + 1) = (k : Int) + 1 := IntWalk.i64_in _ (by omega)
        have hw0 : (0 : Int) ≤ (k : Int) + 1 := by omega
        have hw1 : ((k : Int) + 1).toNat = k + 1 := by omega
        have hkn : k ≤ n := by omega
        have hkn1 : k + 1 ≤ n := by omega
        refine order_pure (i := 0) rfl (by kernel_rfl) (fun _ _ _ h => h) (.inl ⟨rfl, fun _ => by go_simp; rfl⟩) ?_
        try simp only [Act.put, List.setIfInBounds_toArray, List.set_cons_succ, List.set_cons_zero]
        refine order_pure (i := 2) rfl (by kernel_rfl) (fun _ _ _ h => h) (.inl ⟨rfl, fun _ => by go_simp; rfl⟩) ?_
        try simp only [Act.put, List.setIfInBounds_toArray, List.set_cons_succ, List.set_cons_zero]
        refine order_pure (i := 3) rfl (by kernel_rfl) (fun _ _ _ h => h) (.inl ⟨rfl, fun _ => by go_simp; rfl⟩) ?_
        try simp only [Act.put, List.setIfInBounds_toArray, List.set_cons_succ, List.set_cons_zero]
        refine order_pure (i := 4) rfl (by kernel_rfl) (fun _ _ _ h => h) (.inl ⟨rfl, fun _ => by go_simp; rfl⟩) ?_
        try simp only [Act.put, List.setIfInBounds_toArray, List.set_cons_succ, List.set_cons_zero]
        refine order_held (i := 5) rfl (by kernel_rfl) (fun _ _ _ h => h) (.inl ⟨rfl, fun W hW => by
          have q0 : W.cell? ⟨r, 0, none⟩ = some (.slice (some ⟨g, o, none⟩) n c) := hW.cell id HK1.out
          go_simp; rfl⟩) HS ?_
        try simp only [Act.put, List.setIfInBounds_toArray, List.set_cons_succ, List.set_cons_zero]
        refine order_pure (i := 6) rfl (by kernel_rfl) (fun _ _ _ h => h) (.inl ⟨rfl, fun _ => by go_simp; rfl⟩) ?_
        try simp only [Act.put, List.setIfInBounds_toArray, List.set_cons_succ, List.set_cons_zero]
        refine order_pure (i := 7) (v := .slice (some ⟨g, o, none⟩) k c) rfl (by kernel_rfl) (fun _ _ _ h => h) (.inl ⟨rfl, fun W => by go_simp <;> (intro hlt; omega)⟩) ?_
        try simp only [Act.put, List.setIfInBounds_toArray, List.set_cons_succ, List.set_cons_zero]
        refine order_pure (i := 9) rfl (by kernel_rfl) (fun _ _ _ h => h) (.inl ⟨rfl, fun _ => by go_simp; rfl⟩) ?_
        try simp only [Act.put, List.setIfInBounds_toArray, List.set_cons_succ, List.set_cons_zero]
        refine order_pure (i := 10) rfl (by kernel_rfl) (fun _ _ _ h => h) (.inl ⟨rfl, fun _ => by go_simp; rfl⟩) ?_
        try simp only [Act.put, List.setIfInBounds_toArray, List.set_cons_succ, List.set_cons_zero]
        refine order_pure (i := 11) rfl (by kernel_rfl) (fun _ _ _ h => h) (.inl ⟨rfl, fun _ => by go_simp; rfl⟩) ?_
        try simp only [Act.put, List.setIfInBounds_toArray, List.set_cons_succ, List.set_cons_zero]
        refine order_held (i := 12) rfl (by kernel_rfl) (fun _ _ _ h => h) (.inl ⟨rfl, fun W hW => by
          have q0 : W.cell? ⟨r, 0, none⟩ = some (.slice (some ⟨g, o, none⟩) n c) := hW.cell id HK1.out
          go_simp; rfl⟩) HS ?_
        try simp only [Act.put, List.setIfInBounds_toArray, List.set_cons_succ, List.set_cons_zero]
        refine order_pure (i := 13) rfl (by kernel_rfl) (fun _ _ _ h => h) (.inl ⟨rfl, fun _ => by go_simp; rfl⟩) ?_
        try simp only [Act.put, List.setIfInBounds_toArray, List.set_cons_succ, List.set_cons_zero]
        refine order_pure (i := 14) rfl (by kernel_rfl) (fun _ _ _ h => h) (.inl ⟨rfl, fun _ => by go_simp; rfl⟩) ?_
        try simp only [Act.put, List.setIfInBounds_toArray, List.set_cons_succ, List.set_cons_zero]
        refine order_pure (i := 15) (v := .slice sp (n - (k + 1)) (c - (k + 1))) rfl (by kernel_rfl) (fun _ _ _ h => h) (.inl ⟨rfl, fun W => by rw [HSP.out]; go_simp <;> (intro hlt; omega)⟩) ?_
        try simp only [Act.put, List.setIfInBounds_toArray, List.set_cons_succ, List.set_cons_zero]
        clear hwr hw0 hw1
        refine order_one (i := 1) rfl (by kernel_rfl) (fun K hK => ?_)
        go_simp
        have hk1 : Keeps NoB w (w.alloc (.cells #[] 42)).drew := ((Keeps.refl NoB w).alloc _).drew
        refine hK _ _ (fun _ _ => hk1) ?_
        clear hK HS
        have HM := hide (Slab.made w 42 2).drew
        have HK2 := hide hk1
        clear hk1
        try simp only [Act.put, List.setIfInBounds_toArray, List.set_cons_succ, List.set_cons_zero]
        refine order_one (i := 8) rfl (by kernel_rfl) (fun K hK => ?_)
        refine step_append_any _ rfl (.tmp 26) (.tmp 32) 28 rfl 42 i0 _ 2 24 Tryz.underlying28 hi0 hz0 hz1 hz2 rfl (by omega) (some ⟨w.heap.size, 0, none⟩) 0 0 [] rfl HM.out (rowB (some ⟨g, o, none⟩)) true (some ⟨g, o, none⟩) k c ((nms R).take (k * 2)) rfl ((Slab.part HROW.out (by omega)).keep HK2.out (fun _ _ => id)) (fun u hu => nms_ones _ u (List.mem_of_mem_take hu)) (by unfold maxLen; omega) (by omega) (fun B1 c1 w2 h1 h2 h3 => ?_)
        rw [Nat.zero_add, List.nil_append] at h1
        have hk3 : Keeps NoB w w2 := HK2.out.trans' h2 (fun _ _ => id) (fun j hj ⟨o', e⟩ => by injection e with e; injection e with e; omega)
        have hB1 : ∀ j, rowB B1 j → w.heap.size ≤ j := fun j hj => by
          rcases h3 j hj with ⟨o', e⟩ | e
          · injection e with e; injection e with e; omega
          · exact Nat.le_trans HK2.out.size e
        refine hK _ _ (fun _ _ => hk3) ?_
        have HS2 := hide h1; have HK3 := hide hk3; have HB1 := hide hB1
        clear hK h1 h2 h3 hk3 hB1 HM
        rw [Nat.zero_add]
        try simp only [Act.put, List.setIfInBounds_toArray, List.set_cons_succ, List.set_cons_zero]
        refine order_one (i := 16) rfl (by kernel_rfl) (fun K hK => ?_)
        refine step_append_any _ rfl (.tmp 33) (.tmp 40) 28 rfl 42 i0 _ 2 24 Tryz.underlying28 hi0 hz0 hz1 hz2 rfl (by omega) B1 k c1 ((nms R).take (k * 2)) rfl HS2.out (rowB (some ⟨g, o, none⟩)) true sp (n - (k + 1)) (c - (k + 1)) ((nms R).drop ((k + 1) * 2)) rfl (HSR.out.keep HK3.out (fun _ _ => id)) (fun u hu => nms_ones _ u (List.mem_of_mem_drop hu)) (by unfold maxLen; omega) (by omega) (fun B2 c2 w3 h1 h2 h3 => ?_)
        have hk4 : Keeps NoB w w3 := HK3.out.trans' h2 (fun _ _ => id) (fun j hj hr => by have := HB1.out j hr; omega)
        have hB2 : ∀ j, rowB B2 j → w.heap.size ≤ j := fun j hj => (h3 j hj).elim (HB1.out j) (fun e => Nat.le_trans HK3.out.size e)
        rw [show k + (n - (k + 1)) = n - 1 from by omega] at h1 ⊢
        refine hK _ _ (fun _ _ => hk4) ?_
        have hb := H.out.blk.keep hk4 id
        have g0 : w3.cell? ⟨r, 0, none⟩ = some (.slice (some ⟨g, o, none⟩) R.length c) := hb.cell 0
        have f0 : w3.frozen? ⟨r, 0, none⟩ = false := hb.free 0
        have HF := hide (show RPost w r (some ⟨g, o, none⟩) (dropName t R) true (.returned (.bool true)) (w3.setCell ⟨r, 0, none⟩ (.slice B2 (n - 1) c2)) from by
          have hl2 : (R.eraseIdx k).length = n - 1 := by
            rw [List.length_eraseIdx_of_lt (by have := HN.out; omega), HN.out]
          have hkr : Keeps (fun j => j = r) w3 (w3.setCell ⟨r, 0, none⟩ (.slice B2 (n - 1) c2)) := (Keeps.refl (fun j => j = r) w3).setCell (p := ⟨r, 0, none⟩) (.inl rfl) _
          rw [HF.out]
          refine ⟨B2, c2, rfl, ⟨?_, ?_⟩, hk4.trans' hkr (fun _ _ h => h.elim) (fun _ _ h => .inl h), Moved.new hB2⟩
          · rw [hl2]; exact hb.put 0 _
          · rw [hl2, erase_nms]
            exact h1.keep hkr (fun j hj e => by have := hB2 j hj; have := H.out.blk.lt; omega))
        clear hK h1 h2 h3 hk4 hB2 hb
        try simp only [Act.put, List.setIfInBounds_toArray, List.set_cons_succ, List.set_cons_zero]
        refine order_pure (i := 17) rfl (by kernel_rfl) (fun _ _ _ h => h) (.inl ⟨rfl, fun _ => by go_simp; rfl⟩) ?_
        try simp only [Act.put, List.setIfInBounds_toArray, List.set_cons_succ, List.set_cons_zero]
        refine order_pure (i := 18) rfl (by kernel_rfl) (fun _ _ _ h => h) (.inl ⟨rfl, fun _ => by go_simp; rfl⟩) ?_
        try simp only [Act.put, List.setIfInBounds_toArray, List.set_cons_succ, List.set_cons_zero]
        refine order_one (i := 19) rfl (by kernel_rfl) (fun K hK => ?_)
        go_simp
        refine hK _ _ (fun h => absurd h (by decide)) ?_
        clear hK
        try simp only [Act.put, List.setIfInBounds_toArray, List.set_cons_succ, List.set_cons_zero]
        refine order_done (by kernel_rfl) ?_
        go_wp2_with fail
        go_ret
        rw [HE.out]
        exact HF.out
      · have hb := strs_ne ht
        have HT := hide ht
        clear ht
        go_wp2_with fail
        go_roundg (n - (k + 1))
        case measure => omega
        case rel => exact ⟨k + 1, by omega, rfl, by go_num, rfl, hide (fun j x hj hx => by
          rcases Nat.lt_succ_iff_lt_or_eq.1 hj with h | rfl
          · exact HI.out j x h hx
          · rw [HX.out] at hx; cases hx; exact HT.out)⟩
    · obtain rfl : n = k := by omega
      have hkz : ¬ (n : Int) < n := by omega
      have hno := hasN_all (fun j x hj hx => HI.out j x (by rw [← HN.out]; exact hj) hx)
      have HE := hide (show ok = false from by rw [← HOK.out]; exact hno)
      have HD := hide (drop_no (s := s) (R := R) (fun hm => by rw [hasN_iff.2 hm] at hno; cases hno))
      clear HI HOK hno
      go_wp2_with fail
      go_ret
      rw [HD.out]
      exact rpost_same H.out HE.out
end Go.Proofs.YthoaaihghgabcaaGreat
