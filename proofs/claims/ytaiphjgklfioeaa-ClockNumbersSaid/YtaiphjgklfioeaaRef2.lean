/- The document's clock: Set, Drop. -/
import Derived.Test.YtaiphjgklfioeaaRef
namespace Go.Proofs.Ytaiphjgklfioeaa
open Go.RowKit

def RPost (w : World) (r : Nat) (B : Option Addr) (now : Int) (R' : List Wt) (ok : Bool) (e : Ending) (w' : World) : Prop :=
  ∃ B' c', e = .returned (.bool ok) ∧ RefAt w' r B' c' now R' ∧ Keeps (clkFp r B) w w' ∧ Moved w B B'
theorem rpost_same {w : World} {r c : Nat} {B : Option Addr} {now : Int} {R : List Wt} {ok : Bool} (h : RefAt w r B c now R) (hok : ok = false) : RPost w r B now R ok (.returned (.bool false)) w := by
  subst hok
  exact ⟨B, c, rfl, h, Keeps.refl _ _, Moved.same _ _⟩

theorem rset_end {w w2 w3 w4 : World} {r c c' : Nat} {B B' : Option Addr} {now pid after : Int} {R : List Wt} (h : RefAt w r B c now R) (hk2 : Keeps NoB w w2) (hs : Slab w3 61 2 B' (R.length + 1) c' (prs R ++ [.int .i64 (now + after), .int .i64 pid])) (hk3 : Keeps (rowB B) w2 w3) (hm : Moved w2 B B') (hw : w3.setCell ⟨r, 1, none⟩ (.slice B' (R.length + 1) c') = w4) :
    RPost w r B now (R ++ [(now + after, pid)]) true (.returned (.bool true)) w4 := by
  subst hw
  have hb3 := (h.blk.keep hk2 id).keep hk3 h.sep
  have hb4 := hb3.put 1 (.slice B' (R.length + 1) c')
  have hk4 : Keeps (fun k => k = r) w3 (w3.setCell ⟨r, 1, none⟩ (.slice B' (R.length + 1) c')) := (Keeps.refl (fun k => k = r) w3).setCell (p := ⟨r, 1, none⟩) (.inl rfl) _
  have hsep : ¬ rowB B' r := hs.ne hb3 (by decide)
  refine ⟨B', c', rfl, ⟨?_, ?_⟩, ?_, ?_⟩
  · rw [List.length_append]; exact hb4
  · rw [List.length_append, prs_append]
    exact hs.keep hk4 (fun k hk e => hsep (e ▸ hk))
  · exact ((hk2.trans' hk3 (fun _ _ h => h.elim) (fun _ _ h => h) : Keeps (rowB B) w w3).trans' hk4 (fun _ _ h => .inr h) (fun _ _ h => .inl h))
  · exact fun k hk => (hm k hk).imp id (fun e => Nat.le_trans hk2.size e)

theorem one_reads61 {w : World} {vb : Nat} {t p : Int} (hv : Blk w vb 61 #[.int .i64 t, .int .i64 p]) : Reads w (fun _ => True) true 2 (some ⟨vb, 0, none⟩) 1 [.int .i64 t, .int .i64 p] := by
  refine ⟨rfl, fun _ => ⟨_, rfl, rfl, trivial, hv.lt, fun j u hu => ⟨?_, fun _ => hv.free _⟩⟩⟩
  rw [hv.cell, ← hu]; simp

set_option maxRecDepth 100000 in
set_option maxHeartbeats 2000000 in
theorem rset_any (r c : Nat) (B : Option Addr) (now pid after : Int) (R : List Wt) (w : World) (h : RefAt w r B c now R) (hl : R.length ≤ 1000000) (hlo : 0 ≤ now) (hhi : now ≤ lastT) :
    Calls Try.prog 30 #[.pointer (some ⟨r, 0, none⟩), .int .i64 pid, .int .i64 after] w (RPost w r B now (if St.setOk ⟨now, R⟩ pid after then R ++ [(now + after, pid)] else R) (St.setOk ⟨now, R⟩ pid after)) := by
  obtain ⟨i0, hi0, hz0, hz1, hz2⟩ := info_parts Try.info61
  have hhi' : now ≤ (1099511627776 : Int) := hhi
  have H := hide h
  clear h hhi
  by_cases ha : after < 0
  · have e : St.setOk ⟨now, R⟩ pid after = false := by unfold St.setOk; simp; intro h; omega
    rw [e]
    have HN := hide (rpost_same H.out (ok := false) rfl)
    go_enter Try.func30, Try.ntmps30
    go_wp2
    go_ret
    exact HN.out
  have ha0 : 0 ≤ after := by omega
  clear ha
  by_cases hb : lastT < after
  · have hb' : (1099511627776 : Int) < after := hb
    have e : St.setOk ⟨now, R⟩ pid after = false := by unfold St.setOk; simp; intro h h2; unfold lastT at h2; omega
    rw [e]
    have HN := hide (rpost_same H.out (ok := false) rfl)
    clear hb
    go_enter Try.func30, Try.ntmps30
    go_wp2
    go_ret
    exact HN.out
  have hb' : after ≤ (1099511627776 : Int) := by unfold lastT at hb; omega
  clear hb
  obtain ⟨n, hn⟩ : ∃ n, R.length = n := ⟨_, rfl⟩
  have HN := hide hn
  have k1 : w.cell? ⟨r, 1, none⟩ = some (.slice B n c) := by rw [← hn]; exact H.out.blk.cell 1
  have HRD := hide H.out.row.reads
  have HRD := hide (show Reads w (rowB B) true 2 B n (prs R) from hn ▸ HRD.out)
  rw [hn] at hl
  have HOK := hide (show pid ∉ pidsOf R → St.setOk ⟨now, R⟩ pid after = true from fun hp => decide_eq_true ⟨ha0, hb', hp⟩)
  have HNO := hide (show pid ∈ pidsOf R → St.setOk ⟨now, R⟩ pid after = false from fun hp => decide_eq_false (fun h => h.2.2 hp))
  clear hn
  obtain ⟨ok, hok⟩ : ∃ ok, St.setOk ⟨now, R⟩ pid after = ok := ⟨_, rfl⟩
  rw [hok] at HOK HNO ⊢
  clear hok
  obtain ⟨R', hR'⟩ : ∃ R', (if ok = true then R ++ [(now + after, pid)] else R) = R' := ⟨_, rfl⟩
  rw [hR']
  have HR' := hide hR'
  clear hR'
  go_enter Try.func30, Try.ntmps30
  go_wp2_with fail
  go_loop [7] (fun s7 => ∃ k : Nat, k ≤ n ∧ s7 = .int .i64 k ∧ Hid (∀ j (h : j < R.length), j < k → (R[j]).2 ≠ pid)) (fun s7 => n - (intOf s7).toNat)
  case atStart => exact ⟨0, Nat.zero_le _, rfl, hide (fun j _ h => by omega)⟩
  case round =>
    obtain ⟨k, hk, rfl, HI⟩ := hrel
    by_cases hlt : k < n
    · obtain ⟨⟨g, o, sp⟩, hA, hs, _, _, hc⟩ := HRD.out.2 (by omega)
      simp only at hs
      subst hs hA
      obtain ⟨x, hx⟩ : ∃ x, R[k]? = some x := ⟨_, List.getElem?_eq_getElem (by have := HN.out; omega)⟩
      obtain ⟨e0, e1⟩ := prs_at hx
      obtain ⟨t, p⟩ := x
      have c1 : w.cell? ⟨g, o + k * 2 + 1, none⟩ = some (.int .i64 p) := (hc _ _ e1).1
      have HX := hide hx
      have hkz : (k : Int) < n := by omega
      have hk0 : (0 : Int) ≤ k := by omega
      clear hc e0 e1 hx
      by_cases hp : p = pid
      · have hb : (p == pid) = true := by simp [hp]
        have HE := hide (show ok = false from HNO.out (by
          obtain ⟨_, h⟩ := List.getElem?_eq_some_iff.1 HX.out
          exact List.mem_map.2 ⟨(t, p), by rw [← h]; exact List.getElem_mem _, hp⟩))
        clear hp
        go_wp2_with fail
        go_ret
        have hr := HR'.out
        rw [HE.out] at hr ⊢
        rw [← hr]
        exact rpost_same H.out rfl
      · have hb : (p == pid) = false := by simp [hp]
        have HP := hide hp
        clear hp
        go_wp2_with fail
        go_round
        case rel => exact ⟨k + 1, by omega, by go_num, hide (fun j hj hjk => by
          by_cases e : j = k
          · subst e; obtain ⟨_, h⟩ := List.getElem?_eq_some_iff.1 HX.out; rw [h]; exact HP.out
          · exact HI.out j hj (by omega))⟩
        case measure => simp [intOf]; omega
    · obtain rfl : n = k := by omega
      have hkz : ¬ (n : Int) < n := by omega
      have HE := hide (show ok = true from HOK.out (findPid_none (fun j hj => HI.out j hj (by rw [HN.out] at hj; exact hj))))
      clear HI HOK HNO
      go_wp2_with fail
      refine order_begin (fun W => Keeps NoB w W) (fun j => !(j == 14 || j == 17)) (by kernel_rfl) 18 rfl ?_
      have HS : Keeps NoB w w.drew := (Keeps.refl _ _).drew
      have HC0 := hide (H.out.blk.cell 0)
      have HC0 := hide (show w.cell? ⟨r, 0, none⟩ = some (.int .i64 now) from HC0.out)
      have HK1 := hide k1
      clear k1
      refine order_pure (i := 0) rfl (by kernel_rfl) (fun _ _ _ h => h) (.inl ⟨rfl, fun _ => by go_simp; rfl⟩) ?_
      try simp only [Act.put, List.setIfInBounds_toArray, List.set_cons_succ, List.set_cons_zero]
      refine order_pure (i := 1) rfl (by kernel_rfl) (fun _ _ _ h => h) (.inl ⟨rfl, fun _ => by go_simp; rfl⟩) ?_
      try simp only [Act.put, List.setIfInBounds_toArray, List.set_cons_succ, List.set_cons_zero]
      refine order_pure (i := 2) rfl (by kernel_rfl) (fun _ _ _ h => h) (.inl ⟨rfl, fun _ => by go_simp; rfl⟩) ?_
      try simp only [Act.put, List.setIfInBounds_toArray, List.set_cons_succ, List.set_cons_zero]
      refine order_pure (i := 3) rfl (by kernel_rfl) (fun _ _ _ h => h) (.inl ⟨rfl, fun _ => by go_simp; rfl⟩) ?_
      try simp only [Act.put, List.setIfInBounds_toArray, List.set_cons_succ, List.set_cons_zero]
      refine order_held (i := 4) rfl (by kernel_rfl) (fun _ _ _ h => h) (.inl ⟨rfl, fun W hW => by
        have q0 : W.cell? ⟨r, 1, none⟩ = some (.slice B n c) := hW.cell id HK1.out
        go_simp; rfl⟩) HS ?_
      try simp only [Act.put, List.setIfInBounds_toArray, List.set_cons_succ, List.set_cons_zero]
      refine order_pure (i := 5) rfl (by kernel_rfl) (fun _ _ _ h => h) (.inl ⟨rfl, fun _ => by go_simp; rfl⟩) ?_
      try simp only [Act.put, List.setIfInBounds_toArray, List.set_cons_succ, List.set_cons_zero]
      refine order_pure (i := 6) rfl (by kernel_rfl) (fun _ _ _ h => h) (.inl ⟨rfl, fun _ => by go_simp; rfl⟩) ?_
      try simp only [Act.put, List.setIfInBounds_toArray, List.set_cons_succ, List.set_cons_zero]
      refine order_pure (i := 7) rfl (by kernel_rfl) (fun _ _ _ h => h) (.inl ⟨rfl, fun _ => by go_simp; rfl⟩) ?_
      try simp only [Act.put, List.setIfInBounds_toArray, List.set_cons_succ, List.set_cons_zero]
      refine order_held (i := 8) rfl (by kernel_rfl) (fun _ _ _ h => h) (.inl ⟨rfl, fun W hW => by
        have q0 : W.cell? ⟨r, 0, none⟩ = some (.int .i64 now) := hW.cell id HC0.out
        go_simp; rfl⟩) HS ?_
      try simp only [Act.put, List.setIfInBounds_toArray, List.set_cons_succ, List.set_cons_zero]
      have hwr : IntKind.i64.wrap (now + after) = now + after := IntWalk.i64_in _ (by omega)
      refine order_pure (i := 9) rfl (by kernel_rfl) (fun _ _ _ h => h) (.inl ⟨rfl, fun _ => by go_simp; rfl⟩) ?_
      try simp only [Act.put, List.setIfInBounds_toArray, List.set_cons_succ, List.set_cons_zero]
      refine order_pure (i := 10) rfl (by kernel_rfl) (fun _ _ _ h => h) (.inl ⟨rfl, fun _ => by go_simp; rfl⟩) ?_
      try simp only [Act.put, List.setIfInBounds_toArray, List.set_cons_succ, List.set_cons_zero]
      refine order_pure (i := 11) rfl (by kernel_rfl) (fun _ _ _ h => h) (.inl ⟨rfl, fun _ => by go_simp; rfl⟩) ?_
      try simp only [Act.put, List.setIfInBounds_toArray, List.set_cons_succ, List.set_cons_zero]
      refine order_pure (i := 12) rfl (by kernel_rfl) (fun _ _ _ h => h) (.inl ⟨rfl, fun _ => by go_simp; rfl⟩) ?_
      try simp only [Act.put, List.setIfInBounds_toArray, List.set_cons_succ, List.set_cons_zero]
      clear hwr
      refine order_one (i := 13) rfl (by kernel_rfl) (fun K hK => ?_)
      go_simp
      have hk2 : Keeps NoB w (w.alloc (.cells #[.int .i64 (now + after), .int .i64 pid] 61)).drew := ((Keeps.refl NoB w).alloc _).drew
      refine hK _ _ (fun _ _ => hk2) ?_
      clear hK
      have hv := (Blk.new w 61 #[.int .i64 (now + after), .int .i64 pid]).drew
      have HSL := hide (show Slab _ 61 2 B n c (prs R) from by have := H.out.row.fresh hk2; rw [HN.out] at this; exact this)
      try simp only [Act.put, List.setIfInBounds_toArray, List.set_cons_succ, List.set_cons_zero]
      refine order_one (i := 14) rfl (by kernel_rfl) (fun K hK => ?_)
      refine step_append_any _ rfl (.tmp 37) (.tmp 46) 37 rfl 61 i0 _ 2 16 Try.underlying37 hi0 hz0 hz1 hz2 rfl (by omega) B n c (prs R) rfl HSL.out (fun _ => True) true (some ⟨w.heap.size, 0, none⟩) 1 1 [.int .i64 (now + after), .int .i64 pid] rfl (one_reads61 hv) (prs_ones (L := [(now + after, pid)])) (by unfold maxLen; omega) (by omega) (fun B' c' w3 h1 h2 h3 => ?_)
      have hb3 := (H.out.blk.keep hk2 id).keep h2 H.out.sep
      have g0 : w3.cell? ⟨r, 1, none⟩ = some (.slice B R.length c) := hb3.cell 1
      have f0 : w3.frozen? ⟨r, 1, none⟩ = false := hb3.free 1
      have HF := hide (fun w4 hw => rset_end (w4 := w4) H.out hk2 (by rw [HN.out]; exact h1) h2 h3 hw)
      have HF := hide (fun w4 (hw : w3.setCell ⟨r, 1, none⟩ (.slice B' (n + 1) c') = w4) => HF.out w4 (by rw [HN.out]; exact hw))
      refine hK _ _ (fun h => absurd h (by decide)) ?_
      clear hK HS hk2 hv h1 h2 h3 hb3
      try simp only [Act.put, List.setIfInBounds_toArray, List.set_cons_succ, List.set_cons_zero]
      refine order_pure (i := 15) rfl (by kernel_rfl) (fun _ _ _ h => h) (.inl ⟨rfl, fun _ => by go_simp; rfl⟩) ?_
      try simp only [Act.put, List.setIfInBounds_toArray, List.set_cons_succ, List.set_cons_zero]
      refine order_pure (i := 16) rfl (by kernel_rfl) (fun _ _ _ h => h) (.inl ⟨rfl, fun _ => by go_simp; rfl⟩) ?_
      try simp only [Act.put, List.setIfInBounds_toArray, List.set_cons_succ, List.set_cons_zero]
      refine order_one (i := 17) rfl (by kernel_rfl) (fun K hK => ?_)
      go_simp
      refine hK _ _ (fun h => absurd h (by decide)) ?_
      clear hK
      try simp only [Act.put, List.setIfInBounds_toArray, List.set_cons_succ, List.set_cons_zero]
      refine order_done (by kernel_rfl) ?_
      go_wp2_with fail
      go_ret
      have hr := HR'.out
      have := HF.out _ rfl
      rw [HE.out] at hr ⊢
      rw [← hr]
      exact this
end Go.Proofs.Ytaiphjgklfioeaa
