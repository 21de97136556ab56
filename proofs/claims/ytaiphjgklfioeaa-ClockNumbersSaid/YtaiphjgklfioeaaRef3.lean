/- The document's clock: Drop. -/
import Derived.Test.YtaiphjgklfioeaaRef2
namespace Go.Proofs.Ytaiphjgklfioeaa
open Go.RowKit

theorem Slab.part {w : World} {e : TypeId} {size n c i : Nat} {B : Option Addr} {xs : List Value} (h : Slab w e size B n c xs) (hi : i ≤ n) : Reads w (rowB B) true size B i (xs.take (i * size)) := (h.upto hi).reads

set_option maxRecDepth 100000 in
set_option maxHeartbeats 2000000 in
theorem rdrop_any (r c : Nat) (B : Option Addr) (now pid : Int) (R : List Wt) (w : World) (h : RefAt w r B c now R) (hl : R.length ≤ 1000000) :
    Calls Try.prog 29 #[.pointer (some ⟨r, 0, none⟩), .int .i64 pid] w (RPost w r B now (dropPid pid R) (decide (pid ∈ pidsOf R))) := by
  obtain ⟨i0, hi0, hz0, hz1, hz2⟩ := info_parts Try.info61
  have H := hide h
  clear h
  obtain ⟨n, hn⟩ : ∃ n, R.length = n := ⟨_, rfl⟩
  have HN := hide hn
  have k1 : w.cell? ⟨r, 1, none⟩ = some (.slice B n c) := by rw [← hn]; exact H.out.blk.cell 1
  have HROW := hide H.out.row
  have HROW := hide (show Slab w 61 2 B n c (prs R) from hn ▸ HROW.out)
  rw [hn] at hl
  obtain ⟨ok, hok⟩ : ∃ ok, decide (pid ∈ pidsOf R) = ok := ⟨_, rfl⟩
  have HOK := hide (show pid ∈ pidsOf R → ok = true from fun hp => by rw [← hok]; exact decide_eq_true hp)
  have HNO := hide (show pid ∉ pidsOf R → ok = false from fun hp => by rw [← hok]; exact decide_eq_false hp)
  rw [hok]
  clear hn hok
  go_enter Try.func29, Try.ntmps29
  go_wp2_with fail
  go_loop [5] (fun s7 => ∃ k : Nat, k ≤ n ∧ s7 = .int .i64 k ∧ Hid (∀ j (h : j < R.length), j < k → (R[j]).2 ≠ pid)) (fun s7 => n - (intOf s7).toNat)
  case atStart => exact ⟨0, Nat.zero_le _, rfl, hide (fun j _ h => by omega)⟩
  case round =>
    obtain ⟨k, hk, rfl, HI⟩ := hrel
    by_cases hlt : k < n
    · obtain ⟨⟨g, o, sp⟩, hA, hs, _, _, hc⟩ := HROW.out.reads.2 (by omega)
      simp only at hs
      subst hs hA
      obtain ⟨x, hx⟩ : ∃ x, R[k]? = some x := ⟨_, List.getElem?_eq_getElem (by have := HN.out; omega)⟩
      obtain ⟨e0, e1⟩ := prs_at hx
      obtain ⟨t, p⟩ := x
      have c1 : w.cell? ⟨g, o + k * 2 + 1, none⟩ = some (.int .i64 p) := (hc _ _ e1).1
      have HX := hide hx
      have hkz : (k : Int) < n := by omega
      have hk0 : (0 : Int) ≤ k := by omega
      clear hc e0 e1 hx
      by_cases hp : p = pid
      · have hb : (p == pid) = true := by simp [hp]
        have hkl : k < R.length := by have := HN.out; omega
        have HF := hide (show findPid pid R = k from findPid_eq hkl (by obtain ⟨_, h⟩ := List.getElem?_eq_some_iff.1 HX.out; rw [h]; exact hp) HI.out)
        have HE := hide (show ok = true from HOK.out (by
          obtain ⟨_, h⟩ := List.getElem?_eq_some_iff.1 HX.out
          exact List.mem_map.2 ⟨(t, p), by rw [← h]; exact List.getElem_mem _, hp⟩))
        have hnc : n ≤ c := HROW.out.2.1
        clear hp HI HOK HNO hkl
        go_wp2_with fail
        have hsp : Hid (∃ sp, sp = (if c = k + 1 then some (⟨g, o, none⟩ : Addr) else some ⟨g, o + (k + 1) * 2, none⟩) ∧ Reads w (rowB (some ⟨g, o, none⟩)) true 2 sp (n - (k + 1)) ((prs R).drop ((k + 1) * 2))) := hide (by
          refine ⟨_, rfl, ?_⟩
          split
          · have e : n - (k + 1) = 0 := by omega
            rw [e, List.drop_eq_nil_of_le (by rw [prs_len, HN.out]; omega)]
            exact Reads.zero _ _ _ _ _
          · exact Reads.part HROW.out.reads (by omega))
        obtain ⟨sp, hsp1, hsp2⟩ := hsp.out
        have HSP := hide hsp1; have HSR := hide hsp2
        clear hsp hsp1 hsp2
        refine order_begin (fun W => Keeps NoB w W) (fun j => !(j == 19)) (by kernel_rfl) 20 rfl ?_
        have HS : Keeps NoB w w.drew := (Keeps.refl _ _).drew
        have HK1 := hide k1
        clear k1 c1
        have hwr : IntKind.i64.wrap ((k : Int) + 1) = (k : Int) + 1 := IntWalk.i64_in _ (by omega)
        have hw0 : (0 : Int) ≤ (k : Int) + 1 := by omega
        have hw1 : ((k : Int) + 1).toNat = k + 1 := by omega
        have hkn : k ≤ n := by omega
        have hkn1 : k + 1 ≤ n := by omega
        refine order_pure (i := 0) rfl (by kernel_rfl) (fun _ _ _ h => h) (.inl ⟨rfl, fun _ => by go_simp; rfl⟩) ?_
        try simp only [Act.put, List.setIfInBounds_toArray, List.set_cons_succ, List.set_cons_zero]
        refine order_pure (i := 2) rfl (by kernel_rfl) (fun _ _ _ h => h) (.inl ⟨rfl, fun _ => by go_simp; rfl⟩) ?_
        try simp only [Act.put, List.setIfInBounds_toArray, List.set_cons_succ, List.set_cons_zero]
        refine order_pure (i := 3) rfl (by kernel_rfl) (fun _ _ _ h => h) (.inl ⟨rfl, fun _ => by go_simp; rfl⟩) ?_
        try simp only [Act.put, List.setIfInBounds_toArray, List.set_cons_succ, List.set_cons_zero]
        refine order_pure (i := 4) rfl (by kernel_rfl) (fun _ _ _ h => h) (.inl ⟨rfl, fun _ => by go_simp; rfl⟩) ?_
        try simp only [Act.put, List.setIfInBounds_toArray, List.set_cons_succ, List.set_cons_zero]
        refine order_held (i := 5) rfl (by kernel_rfl) (fun _ _ _ h => h) (.inl ⟨rfl, fun W hW => by
          have q0 : W.cell? ⟨r, 1, none⟩ = some (.slice (some ⟨g, o, none⟩) n c) := hW.cell id HK1.out
          go_simp; rfl⟩) HS ?_
        try simp only [Act.put, List.setIfInBounds_toArray, List.set_cons_succ, List.set_cons_zero]
        refine order_pure (i := 6) rfl (by kernel_rfl) (fun _ _ _ h => h) (.inl ⟨rfl, fun _ => by go_simp; rfl⟩) ?_
        try simp only [Act.put, List.setIfInBounds_toArray, List.set_cons_succ, List.set_cons_zero]
        refine order_pure (i := 7) (v := .slice (some ⟨g, o, none⟩) k c) rfl (by kernel_rfl) (fun _ _ _ h => h) (.inl ⟨rfl, fun W => by go_simp <;> (intro hlt; omega)⟩) ?_
        try simp only [Act.put, List.setIfInBounds_toArray, List.set_cons_succ, List.set_cons_zero]
        refine order_pure (i := 9) rfl (by kernel_rfl) (fun _ _ _ h => h) (.inl ⟨rfl, fun _ => by go_simp; rfl⟩) ?_
        try simp only [Act.put, List.setIfInBounds_toArray, List.set_cons_succ, List.set_cons_zero]
        refine order_pure (i := 10) rfl (by kernel_rfl) (fun _ _ _ h => h) (.inl ⟨rfl, fun _ => by go_simp; rfl⟩) ?_
        try simp only [Act.put, List.setIfInBounds_toArray, List.set_cons_succ, List.set_cons_zero]
        refine order_pure (i := 11) rfl (by kernel_rfl) (fun _ _ _ h => h) (.inl ⟨rfl, fun _ => by go_simp; rfl⟩) ?_
        try simp only [Act.put, List.setIfInBounds_toArray, List.set_cons_succ, List.set_cons_zero]
        refine order_held (i := 12) rfl (by kernel_rfl) (fun _ _ _ h => h) (.inl ⟨rfl, fun W hW => by
          have q0 : W.cell? ⟨r, 1, none⟩ = some (.slice (some ⟨g, o, none⟩) n c) := hW.cell id HK1.out
          go_simp; rfl⟩) HS ?_
        try simp only [Act.put, List.setIfInBounds_toArray, List.set_cons_succ, List.set_cons_zero]
        refine order_pure (i := 13) rfl (by kernel_rfl) (fun _ _ _ h => h) (.inl ⟨rfl, fun _ => by go_simp; rfl⟩) ?_
        try simp only [Act.put, List.setIfInBounds_toArray, List.set_cons_succ, List.set_cons_zero]
        refine order_pure (i := 14) rfl (by kernel_rfl) (fun _ _ _ h => h) (.inl ⟨rfl, fun _ => by go_simp; rfl⟩) ?_
        try simp only [Act.put, List.setIfInBounds_toArray, List.set_cons_succ, List.set_cons_zero]
        refine order_pure (i := 15) (v := .slice sp (n - (k + 1)) (c - (k + 1))) rfl (by kernel_rfl) (fun _ _ _ h => h) (.inl ⟨rfl, fun W => by rw [HSP.out]; go_simp <;> (intro hlt; omega)⟩) ?_
        try simp only [Act.put, List.setIfInBounds_toArray, List.set_cons_succ, List.set_cons_zero]
        clear hwr hw0 hw1
        refine order_one (i := 1) rfl (by kernel_rfl) (fun K hK => ?_)
        go_simp
        have hk1 : Keeps NoB w (w.alloc (.cells #[] 61)).drew := ((Keeps.refl NoB w).alloc _).drew
        refine hK _ _ (fun _ _ => hk1) ?_
        clear hK HS
        have HM := hide (Slab.made w 61 2).drew
        have HK2 := hide hk1
        clear hk1
        try simp only [Act.put, List.setIfInBounds_toArray, List.set_cons_succ, List.set_cons_zero]
        refine order_one (i := 8) rfl (by kernel_rfl) (fun K hK => ?_)
        refine step_append_any _ rfl (.tmp 26) (.tmp 32) 37 rfl 61 i0 _ 2 16 Try.underlying37 hi0 hz0 hz1 hz2 rfl (by omega) (some ⟨w.heap.size, 0, none⟩) 0 0 [] rfl HM.out (rowB (some ⟨g, o, none⟩)) true (some ⟨g, o, none⟩) k c ((prs R).take (k * 2)) rfl ((Slab.part HROW.out (by omega)).keep HK2.out (fun _ _ => id)) (fun u hu => prs_ones _ (List.mem_of_mem_take hu)) (by unfold maxLen; omega) (by omega) (fun B1 c1 w2 h1 h2 h3 => ?_)
        rw [Nat.zero_add, List.nil_append] at h1
        have hk3 : Keeps NoB w w2 := HK2.out.trans' h2 (fun _ _ => id) (fun j hj ⟨o', e⟩ => by injection e with e; injection e with e; omega)
        have hB1 : ∀ j, rowB B1 j → w.heap.size ≤ j := fun j hj => by
          rcases h3 j hj with ⟨o', e⟩ | e
          · injection e with e; injection e with e; omega
          · exact Nat.le_trans HK2.out.size e
        refine hK _ _ (fun _ _ => hk3) ?_
        have HS2 := hide h1; have HK3 := hide hk3; have HB1 := hide hB1
        clear hK h1 h2 h3 hk3 hB1 HM
        rw [Nat.zero_add]
        try simp only [Act.put, List.setIfInBounds_toArray, List.set_cons_succ, List.set_cons_zero]
        refine order_one (i := 16) rfl (by kernel_rfl) (fun K hK => ?_)
        refine step_append_any _ rfl (.tmp 33) (.tmp 40) 37 rfl 61 i0 _ 2 16 Try.underlying37 hi0 hz0 hz1 hz2 rfl (by omega) B1 k c1 ((prs R).take (k * 2)) rfl HS2.out (rowB (some ⟨g, o, none⟩)) true sp (n - (k + 1)) (c - (k + 1)) ((prs R).drop ((k + 1) * 2)) rfl (HSR.out.keep HK3.out (fun _ _ => id)) (fun u hu => prs_ones _ (List.mem_of_mem_drop hu)) (by unfold maxLen; omega) (by omega) (fun B2 c2 w3 h1 h2 h3 => ?_)
        have hk4 : Keeps NoB w w3 := HK3.out.trans' h2 (fun _ _ => id) (fun j hj hr => by have := HB1.out j hr; omega)
        have hB2 : ∀ j, rowB B2 j → w.heap.size ≤ j := fun j hj => (h3 j hj).elim (HB1.out j) (fun e => Nat.le_trans HK3.out.size e)
        rw [show k + (n - (k + 1)) = n - 1 from by omega] at h1 ⊢
        refine hK _ _ (fun _ _ => hk4) ?_
        have hb := H.out.blk.keep hk4 id
        have g0 : w3.cell? ⟨r, 1, none⟩ = some (.slice (some ⟨g, o, none⟩) R.length c) := hb.cell 1
        have f0 : w3.frozen? ⟨r, 1, none⟩ = false := hb.free 1
        have HF := hide (show RPost w r (some ⟨g, o, none⟩) now (dropPid pid R) true (.returned (.bool true)) (w3.setCell ⟨r, 1, none⟩ (.slice B2 (n - 1) c2)) from by
          have hl2 : (dropPid pid R).length = n - 1 := by
            unfold dropPid; rw [List.length_eraseIdx_of_lt (by rw [HF.out]; have := HN.out; omega), HN.out]
          have hd : prs (dropPid pid R) = (prs R).take (k * 2) ++ (prs R).drop ((k + 1) * 2) := by unfold dropPid; rw [HF.out, erase_prs]
          have hkr : Keeps (fun j => j = r) w3 (w3.setCell ⟨r, 1, none⟩ (.slice B2 (n - 1) c2)) := (Keeps.refl (fun j => j = r) w3).setCell (p := ⟨r, 1, none⟩) (.inl rfl) _
          refine ⟨B2, c2, rfl, ⟨?_, ?_⟩, hk4.trans' hkr (fun _ _ h => h.elim) (fun _ _ h => .inl h), Moved.new hB2⟩
          · rw [hl2]; exact hb.put 1 _
          · rw [hl2, hd]
            exact h1.keep hkr (fun j hj e => by have := hB2 j hj; have := H.out.blk.lt; omega))
        clear hK h1 h2 h3 hk4 hB2 hb
        try simp only [Act.put, List.setIfInBounds_toArray, List.set_cons_succ, List.set_cons_zero]
        refine order_pure (i := 17) rfl (by kernel_rfl) (fun _ _ _ h => h) (.inl ⟨rfl, fun _ => by go_simp; rfl⟩) ?_
        try simp only [Act.put, List.setIfInBounds_toArray, List.set_cons_succ, List.set_cons_zero]
        refine order_pure (i := 18) rfl (by kernel_rfl) (fun _ _ _ h => h) (.inl ⟨rfl, fun _ => by go_simp; rfl⟩) ?_
        try simp only [Act.put, List.setIfInBounds_toArray, List.set_cons_succ, List.set_cons_zero]
        refine order_one (i := 19) rfl (by kernel_rfl) (fun K hK => ?_)
        go_simp
        refine hK _ _ (fun h => absurd h (by decide)) ?_
        clear hK
        try simp only [Act.put, List.setIfInBounds_toArray, List.set_cons_succ, List.set_cons_zero]
        refine order_done (by kernel_rfl) ?_
        go_wp2_with fail
        go_ret
        rw [HE.out]
        exact HF.out
      · have hb : (p == pid) = false := by simp [hp]
        have HP := hide hp
        clear hp
        go_wp2_with fail
        go_round
        case rel => exact ⟨k + 1, by omega, by go_num, hide (fun j hj hjk => by
          by_cases e : j = k
          · subst e; obtain ⟨_, h⟩ := List.getElem?_eq_some_iff.1 HX.out; rw [h]; exact HP.out
          · exact HI.out j hj (by omega))⟩
        case measure => simp [intOf]; omega
    · obtain rfl : n = k := by omega
      have hkz : ¬ (n : Int) < n := by omega
      have hno : pid ∉ pidsOf R := findPid_none (fun j hj => HI.out j hj (by rw [HN.out] at hj; exact hj))
      have HE := hide (show ok = false from HNO.out hno)
      have HD := hide (dropPid_none hno)
      clear HI HOK HNO hno
      go_wp2_with fail
      go_ret
      rw [HD.out]
      exact rpost_same H.out HE.out
end Go.Proofs.Ytaiphjgklfioeaa
