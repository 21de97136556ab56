/- node.function, node.Right. -/
import Derived.Test.YtincajfanhanjaaDoorNdDeep
namespace Go.Proofs.YtincajfanhanjaaDoor
open Go.RowKit

theorem functionN_mk (k : Int) (tx : ByteArray) (num pl : Int) (kids : List Nd) : functionN (.mk k tx num pl kids) = (decide (k = 21) && decide (0 ≤ pl) && decide (tx.size ≤ 40) && !kids.isEmpty && kids.all (okM 2) && decide (num = ((kids.getD 0 (.mk k tx num pl kids)).kids.getD 0 (.mk k tx num pl kids)).kids.length)) := by
  unfold functionN; rw [show (Nd.mk k tx num pl kids).kids = kids from rfl, okAs_nil]; rfl
theorem clause_three_kids {p : Nd} (h : okM 2 p = true) : ∃ a b c, p.kids = [a, b, c] := by
  cases p; exact clause_kids h
set_option maxRecDepth 100000 in
set_option maxHeartbeats 4000000 in
theorem function_any (t : Nd) (ho : okN t) : Says 31 functionN t := by
  intro w B F kd tx nm pl ka kn kc hL _ ht
  have hn : ∀ x ∈ t.kids, Not1 42 (okM 2) x := fun x hx => not1_42 _ x (ok_kids ho hx) (said_any x (ok_kids ho hx)).clause
  obtain ⟨kids, css, rfl, hroom, hr, hc, hkl⟩ := ht.kidsIn
  have hk1 : Keeps NoB w (w.alloc (.cells #[.int .u8 kd, .string tx, .int .i64 nm, .int .i64 pl, .slice ka kn kc] 29)) := (Keeps.refl NoB w).alloc _
  have P1 := hide (fun (W : World) (hk : Keeps NoB w W) => nd_all 42 (okM 2) kids hn css ka kn kc W B F (hL.keep hk) (hr.keep hk (fun _ _ => id)) (NodesIn.keep hk (fun _ _ => id) _ _ hc) hroom.1)
  have HK := hide hk1
  have HBX := hide (Blk.new w 29 #[.int .u8 kd, .string tx, .int .i64 nm, .int .i64 pl, .slice ka kn kc])
  have hs := functionN_mk kd tx nm pl kids
  by_cases h1 : kd = 21
  case neg =>
    have b1 : (kd == 21) = false := by simpa using h1
    have HE : Hid (functionN (.mk kd tx nm pl kids) = false) := hide (by rw [hs, decide_eq_false h1]; rfl)
    clear hn hr hc ht hroom hL ho hk1 hkl hs h1
    go_enter Tryd.func31, Tryd.ntmps31
    go_wp2_with fail
    refine order_begin (fun W => Keeps NoB (w.alloc (.cells #[.int .u8 kd, .string tx, .int .i64 nm, .int .i64 pl, .slice ka kn kc] 29)) W) (fun _ => true) (by kernel_rfl) 40 rfl ?_
    have HS : Keeps NoB (w.alloc (.cells #[.int .u8 kd, .string tx, .int .i64 nm, .int .i64 pl, .slice ka kn kc] 29)) ((w.alloc (.cells #[.int .u8 kd, .string tx, .int .i64 nm, .int .i64 pl, .slice ka kn kc] 29))).drew := (Keeps.refl NoB _).drew
    refine order_pure (i := 0) rfl (by kernel_rfl) (fun _ _ _ h => h) (.inl ⟨rfl, fun _ => by go_simp; rfl⟩) ?_
    try simp only [Act.put, List.setIfInBounds_toArray, List.set_cons_succ, List.set_cons_zero]
    refine order_held (i := 1) rfl (by kernel_rfl) (fun _ _ _ h => h) (.inl ⟨rfl, fun W hW => by
      have q0 : W.cell? ⟨w.heap.size, 0, none⟩ = some (.int .u8 kd) := hW.cell id (HBX.out.cell 0)
      go_simp; rfl⟩) HS ?_
    try simp only [Act.put, List.setIfInBounds_toArray, List.set_cons_succ, List.set_cons_zero]
    refine order_pure (i := 2) rfl (by kernel_rfl) (fun _ _ _ h => h) (.inl ⟨rfl, fun _ => by go_simp; rfl⟩) ?_
    try simp only [Act.put, List.setIfInBounds_toArray, List.set_cons_succ, List.set_cons_zero]
    refine order_pure (i := 3) rfl (by kernel_rfl) (fun _ _ _ h => h) (.inl ⟨rfl, fun _ => by go_simp; rfl⟩) ?_
    try simp only [Act.put, List.setIfInBounds_toArray, List.set_cons_succ, List.set_cons_zero]
    refine order_skip (i := 4) rfl (by kernel_rfl) (fun _ _ _ h => h) (by kernel_rfl) ?_
    try simp only [Act.put, List.setIfInBounds_toArray, List.set_cons_succ, List.set_cons_zero]
    refine order_skip (i := 5) rfl (by kernel_rfl) (fun _ _ _ h => h) (by kernel_rfl) ?_
    try simp only [Act.put, List.setIfInBounds_toArray, List.set_cons_succ, List.set_cons_zero]
    refine order_skip (i := 6) rfl (by kernel_rfl) (fun _ _ _ h => h) (by kernel_rfl) ?_
    try simp only [Act.put, List.setIfInBounds_toArray, List.set_cons_succ, List.set_cons_zero]
    refine order_pure (i := 7) rfl (by kernel_rfl) (fun _ _ _ h => h) (.inl ⟨rfl, fun _ => by go_simp; rfl⟩) ?_
    try simp only [Act.put, List.setIfInBounds_toArray, List.set_cons_succ, List.set_cons_zero]
    refine order_pure (i := 8) rfl (by kernel_rfl) (fun _ _ _ h => h) (.inl ⟨rfl, fun _ => by go_simp; rfl⟩) ?_
    try simp only [Act.put, List.setIfInBounds_toArray, List.set_cons_succ, List.set_cons_zero]
    refine order_skip (i := 9) rfl (by kernel_rfl) (fun _ _ _ h => h) (by kernel_rfl) ?_
    try simp only [Act.put, List.setIfInBounds_toArray, List.set_cons_succ, List.set_cons_zero]
    refine order_skip (i := 10) rfl (by kernel_rfl) (fun _ _ _ h => h) (by kernel_rfl) ?_
    try simp only [Act.put, List.setIfInBounds_toArray, List.set_cons_succ, List.set_cons_zero]
    refine order_skip (i := 11) rfl (by kernel_rfl) (fun _ _ _ h => h) (by kernel_rfl) ?_
    try simp only [Act.put, List.setIfInBounds_toArray, List.set_cons_succ, List.set_cons_zero]
    refine order_skip (i := 12) rfl (by kernel_rfl) (fun _ _ _ h => h) (by kernel_rfl) ?_
    try simp only [Act.put, List.setIfInBounds_toArray, List.set_cons_succ, List.set_cons_zero]
    refine order_pure (i := 13) rfl (by kernel_rfl) (fun _ _ _ h => h) (.inl ⟨rfl, fun _ => by go_simp; rfl⟩) ?_
    try simp only [Act.put, List.setIfInBounds_toArray, List.set_cons_succ, List.set_cons_zero]
    refine order_pure (i := 14) rfl (by kernel_rfl) (fun _ _ _ h => h) (.inl ⟨rfl, fun _ => by go_simp; rfl⟩) ?_
    try simp only [Act.put, List.setIfInBounds_toArray, List.set_cons_succ, List.set_cons_zero]
    refine order_skip (i := 15) rfl (by kernel_rfl) (fun _ _ _ h => h) (by kernel_rfl) ?_
    try simp only [Act.put, List.setIfInBounds_toArray, List.set_cons_succ, List.set_cons_zero]
    refine order_skip (i := 16) rfl (by kernel_rfl) (fun _ _ _ h => h) (by kernel_rfl) ?_
    try simp only [Act.put, List.setIfInBounds_toArray, List.set_cons_succ, List.set_cons_zero]
    refine order_skip (i := 17) rfl (by kernel_rfl) (fun _ _ _ h => h) (by kernel_rfl) ?_
    try simp only [Act.put, List.setIfInBounds_toArray, List.set_cons_succ, List.set_cons_zero]
    refine order_skip (i := 18) rfl (by kernel_rfl) (fun _ _ _ h => h) (by kernel_rfl) ?_
    try simp only [Act.put, List.setIfInBounds_toArray, List.set_cons_succ, List.set_cons_zero]
    refine order_pure (i := 19) rfl (by kernel_rfl) (fun _ _ _ h => h) (.inl ⟨rfl, fun _ => by go_simp; rfl⟩) ?_
    try simp only [Act.put, List.setIfInBounds_toArray, List.set_cons_succ, List.set_cons_zero]
    refine order_pure (i := 20) rfl (by kernel_rfl) (fun _ _ _ h => h) (.inl ⟨rfl, fun _ => by go_simp; rfl⟩) ?_
    try simp only [Act.put, List.setIfInBounds_toArray, List.set_cons_succ, List.set_cons_zero]
    refine order_skip (i := 21) rfl (by kernel_rfl) (fun _ _ _ h => h) (by kernel_rfl) ?_
    try simp only [Act.put, List.setIfInBounds_toArray, List.set_cons_succ, List.set_cons_zero]
    refine order_skip (i := 22) rfl (by kernel_rfl) (fun _ _ _ h => h) (by kernel_rfl) ?_
    try simp only [Act.put, List.setIfInBounds_toArray, List.set_cons_succ, List.set_cons_zero]
    refine order_skip (i := 23) rfl (by kernel_rfl) (fun _ _ _ h => h) (by kernel_rfl) ?_
    try simp only [Act.put, List.setIfInBounds_toArray, List.set_cons_succ, List.set_cons_zero]
    refine order_pure (i := 24) rfl (by kernel_rfl) (fun _ _ _ h => h) (.inl ⟨rfl, fun _ => by go_simp; rfl⟩) ?_
    try simp only [Act.put, List.setIfInBounds_toArray, List.set_cons_succ, List.set_cons_zero]
    refine order_pure (i := 25) rfl (by kernel_rfl) (fun _ _ _ h => h) (.inl ⟨rfl, fun _ => by go_simp; rfl⟩) ?_
    try simp only [Act.put, List.setIfInBounds_toArray, List.set_cons_succ, List.set_cons_zero]
    refine order_skip (i := 26) rfl (by kernel_rfl) (fun _ _ _ h => h) (by kernel_rfl) ?_
    try simp only [Act.put, List.setIfInBounds_toArray, List.set_cons_succ, List.set_cons_zero]
    refine order_skip (i := 27) rfl (by kernel_rfl) (fun _ _ _ h => h) (by kernel_rfl) ?_
    try simp only [Act.put, List.setIfInBounds_toArray, List.set_cons_succ, List.set_cons_zero]
    refine order_skip (i := 28) rfl (by kernel_rfl) (fun _ _ _ h => h) (by kernel_rfl) ?_
    try simp only [Act.put, List.setIfInBounds_toArray, List.set_cons_succ, List.set_cons_zero]
    refine order_skip (i := 29) rfl (by kernel_rfl) (fun _ _ _ h => h) (by kernel_rfl) ?_
    try simp only [Act.put, List.setIfInBounds_toArray, List.set_cons_succ, List.set_cons_zero]
    refine order_skip (i := 30) rfl (by kernel_rfl) (fun _ _ _ h => h) (by kernel_rfl) ?_
    try simp only [Act.put, List.setIfInBounds_toArray, List.set_cons_succ, List.set_cons_zero]
    refine order_skip (i := 31) rfl (by kernel_rfl) (fun _ _ _ h => h) (by kernel_rfl) ?_
    try simp only [Act.put, List.setIfInBounds_toArray, List.set_cons_succ, List.set_cons_zero]
    refine order_skip (i := 32) rfl (by kernel_rfl) (fun _ _ _ h => h) (by kernel_rfl) ?_
    try simp only [Act.put, List.setIfInBounds_toArray, List.set_cons_succ, List.set_cons_zero]
    refine order_skip (i := 33) rfl (by kernel_rfl) (fun _ _ _ h => h) (by kernel_rfl) ?_
    try simp only [Act.put, List.setIfInBounds_toArray, List.set_cons_succ, List.set_cons_zero]
    refine order_skip (i := 34) rfl (by kernel_rfl) (fun _ _ _ h => h) (by kernel_rfl) ?_
    try simp only [Act.put, List.setIfInBounds_toArray, List.set_cons_succ, List.set_cons_zero]
    refine order_skip (i := 35) rfl (by kernel_rfl) (fun _ _ _ h => h) (by kernel_rfl) ?_
    try simp only [Act.put, List.setIfInBounds_toArray, List.set_cons_succ, List.set_cons_zero]
    refine order_skip (i := 36) rfl (by kernel_rfl) (fun _ _ _ h => h) (by kernel_rfl) ?_
    try simp only [Act.put, List.setIfInBounds_toArray, List.set_cons_succ, List.set_cons_zero]
    refine order_skip (i := 37) rfl (by kernel_rfl) (fun _ _ _ h => h) (by kernel_rfl) ?_
    try simp only [Act.put, List.setIfInBounds_toArray, List.set_cons_succ, List.set_cons_zero]
    refine order_pure (i := 38) rfl (by kernel_rfl) (fun _ _ _ h => h) (.inl ⟨rfl, fun _ => by go_simp; rfl⟩) ?_
    try simp only [Act.put, List.setIfInBounds_toArray, List.set_cons_succ, List.set_cons_zero]
    refine order_pure (i := 39) rfl (by kernel_rfl) (fun _ _ _ h => h) (.inl ⟨rfl, fun _ => by go_simp; rfl⟩) ?_
    try simp only [Act.put, List.setIfInBounds_toArray, List.set_cons_succ, List.set_cons_zero]
    refine order_done (by kernel_rfl) ?_
    go_wp2_with fail
    go_ret
    exact ⟨by rw [HE.out]; rfl, HK.out.trans' HS (fun _ _ => id) (fun _ _ => id)⟩
  have b1 : (kd == 21) = true := by simpa using h1
  rw [decide_eq_true h1] at hs
  by_cases h2 : 0 ≤ pl
  case neg =>
    have b2 : decide (0 ≤ pl) = false := by simpa using h2
    have HE : Hid (functionN (.mk kd tx nm pl kids) = false) := hide (by rw [hs, decide_eq_false h2]; rfl)
    clear hn hr hc ht hroom hL ho hk1 hkl hs h1 h2
    go_enter Tryd.func31, Tryd.ntmps31
    go_wp2_with fail
    refine order_begin (fun W => Keeps NoB (w.alloc (.cells #[.int .u8 kd, .string tx, .int .i64 nm, .int .i64 pl, .slice ka kn kc] 29)) W) (fun _ => true) (by kernel_rfl) 40 rfl ?_
    have HS : Keeps NoB (w.alloc (.cells #[.int .u8 kd, .string tx, .int .i64 nm, .int .i64 pl, .slice ka kn kc] 29)) ((w.alloc (.cells #[.int .u8 kd, .string tx, .int .i64 nm, .int .i64 pl, .slice ka kn kc] 29))).drew := (Keeps.refl NoB _).drew
    refine order_pure (i := 0) rfl (by kernel_rfl) (fun _ _ _ h => h) (.inl ⟨rfl, fun _ => by go_simp; rfl⟩) ?_
    try simp only [Act.put, List.setIfInBounds_toArray, List.set_cons_succ, List.set_cons_zero]
    refine order_held (i := 1) rfl (by kernel_rfl) (fun _ _ _ h => h) (.inl ⟨rfl, fun W hW => by
      have q0 : W.cell? ⟨w.heap.size, 0, none⟩ = some (.int .u8 kd) := hW.cell id (HBX.out.cell 0)
      go_simp; rfl⟩) HS ?_
    try simp only [Act.put, List.setIfInBounds_toArray, List.set_cons_succ, List.set_cons_zero]
    refine order_pure (i := 2) rfl (by kernel_rfl) (fun _ _ _ h => h) (.inl ⟨rfl, fun _ => by go_simp; rfl⟩) ?_
    try simp only [Act.put, List.setIfInBounds_toArray, List.set_cons_succ, List.set_cons_zero]
    refine order_pure (i := 3) rfl (by kernel_rfl) (fun _ _ _ h => h) (.inl ⟨rfl, fun _ => by go_simp; rfl⟩) ?_
    try simp only [Act.put, List.setIfInBounds_toArray, List.set_cons_succ, List.set_cons_zero]
    refine order_pure (i := 4) rfl (by kernel_rfl) (fun _ _ _ h => h) (.inl ⟨rfl, fun _ => by go_simp; rfl⟩) ?_
    try simp only [Act.put, List.setIfInBounds_toArray, List.set_cons_succ, List.set_cons_zero]
    refine order_held (i := 5) rfl (by kernel_rfl) (fun _ _ _ h => h) (.inl ⟨rfl, fun W hW => by
      have q0 : W.cell? ⟨w.heap.size, 3, none⟩ = some (.int .i64 pl) := hW.cell id (HBX.out.cell 3)
      go_simp; rfl⟩) HS ?_
    try simp only [Act.put, List.setIfInBounds_toArray, List.set_cons_succ, List.set_cons_zero]
    refine order_pure (i := 6) rfl (by kernel_rfl) (fun _ _ _ h => h) (.inl ⟨rfl, fun _ => by go_simp; rfl⟩) ?_
    try simp only [Act.put, List.setIfInBounds_toArray, List.set_cons_succ, List.set_cons_zero]
    refine order_pure (i := 7) rfl (by kernel_rfl) (fun _ _ _ h => h) (.inl ⟨rfl, fun _ => by go_simp; rfl⟩) ?_
    try simp only [Act.put, List.setIfInBounds_toArray, List.set_cons_succ, List.set_cons_zero]
    refine order_pure (i := 8) rfl (by kernel_rfl) (fun _ _ _ h => h) (.inl ⟨rfl, fun _ => by go_simp; rfl⟩) ?_
    try simp only [Act.put, List.setIfInBounds_toArray, List.set_cons_succ, List.set_cons_zero]
    refine order_skip (i := 9) rfl (by kernel_rfl) (fun _ _ _ h => h) (by kernel_rfl) ?_
    try simp only [Act.put, List.setIfInBounds_toArray, List.set_cons_succ, List.set_cons_zero]
    refine order_skip (i := 10) rfl (by kernel_rfl) (fun _ _ _ h => h) (by kernel_rfl) ?_
    try simp only [Act.put, List.setIfInBounds_toArray, List.set_cons_succ, List.set_cons_zero]
    refine order_skip (i := 11) rfl (by kernel_rfl) (fun _ _ _ h => h) (by kernel_rfl) ?_
    try simp only [Act.put, List.setIfInBounds_toArray, List.set_cons_succ, List.set_cons_zero]
    refine order_skip (i := 12) rfl (by kernel_rfl) (fun _ _ _ h => h) (by kernel_rfl) ?_
    try simp only [Act.put, List.setIfInBounds_toArray, List.set_cons_succ, List.set_cons_zero]
    refine order_pure (i := 13) rfl (by kernel_rfl) (fun _ _ _ h => h) (.inl ⟨rfl, fun _ => by go_simp; rfl⟩) ?_
    try simp only [Act.put, List.setIfInBounds_toArray, List.set_cons_succ, List.set_cons_zero]
    refine order_pure (i := 14) rfl (by kernel_rfl) (fun _ _ _ h => h) (.inl ⟨rfl, fun _ => by go_simp; rfl⟩) ?_
    try simp only [Act.put, List.setIfInBounds_toArray, List.set_cons_succ, List.set_cons_zero]
    refine order_skip (i := 15) rfl (by kernel_rfl) (fun _ _ _ h => h) (by kernel_rfl) ?_
    try simp only [Act.put, List.setIfInBounds_toArray, List.set_cons_succ, List.set_cons_zero]
    refine order_skip (i := 16) rfl (by kernel_rfl) (fun _ _ _ h => h) (by kernel_rfl) ?_
    try simp only [Act.put, List.setIfInBounds_toArray, List.set_cons_succ, List.set_cons_zero]
    refine order_skip (i := 17) rfl (by kernel_rfl) (fun _ _ _ h => h) (by kernel_rfl) ?_
    try simp only [Act.put, List.setIfInBounds_toArray, List.set_cons_succ, List.set_cons_zero]
    refine order_skip (i := 18) rfl (by kernel_rfl) (fun _ _ _ h => h) (by kernel_rfl) ?_
    try simp only [Act.put, List.setIfInBounds_toArray, List.set_cons_succ, List.set_cons_zero]
    refine order_pure (i := 19) rfl (by kernel_rfl) (fun _ _ _ h => h) (.inl ⟨rfl, fun _ => by go_simp; rfl⟩) ?_
    try simp only [Act.put, List.setIfInBounds_toArray, List.set_cons_succ, List.set_cons_zero]
    refine order_pure (i := 20) rfl (by kernel_rfl) (fun _ _ _ h => h) (.inl ⟨rfl, fun _ => by go_simp; rfl⟩) ?_
    try simp only [Act.put, List.setIfInBounds_toArray, List.set_cons_succ, List.set_cons_zero]
    refine order_skip (i := 21) rfl (by kernel_rfl) (fun _ _ _ h => h) (by kernel_rfl) ?_
    try simp only [Act.put, List.setIfInBounds_toArray, List.set_cons_succ, List.set_cons_zero]
    refine order_skip (i := 22) rfl (by kernel_rfl) (fun _ _ _ h => h) (by kernel_rfl) ?_
    try simp only [Act.put, List.setIfInBounds_toArray, List.set_cons_succ, List.set_cons_zero]
    refine order_skip (i := 23) rfl (by kernel_rfl) (fun _ _ _ h => h) (by kernel_rfl) ?_
    try simp only [Act.put, List.setIfInBounds_toArray, List.set_cons_succ, List.set_cons_zero]
    refine order_pure (i := 24) rfl (by kernel_rfl) (fun _ _ _ h => h) (.inl ⟨rfl, fun _ => by go_simp; rfl⟩) ?_
    try simp only [Act.put, List.setIfInBounds_toArray, List.set_cons_succ, List.set_cons_zero]
    refine order_pure (i := 25) rfl (by kernel_rfl) (fun _ _ _ h => h) (.inl ⟨rfl, fun _ => by go_simp; rfl⟩) ?_
    try simp only [Act.put, List.setIfInBounds_toArray, List.set_cons_succ, List.set_cons_zero]
    refine order_skip (i := 26) rfl (by kernel_rfl) (fun _ _ _ h => h) (by kernel_rfl) ?_
    try simp only [Act.put, List.setIfInBounds_toArray, List.set_cons_succ, List.set_cons_zero]
    refine order_skip (i := 27) rfl (by kernel_rfl) (fun _ _ _ h => h) (by kernel_rfl) ?_
    try simp only [Act.put, List.setIfInBounds_toArray, List.set_cons_succ, List.set_cons_zero]
    refine order_skip (i := 28) rfl (by kernel_rfl) (fun _ _ _ h => h) (by kernel_rfl) ?_
    try simp only [Act.put, List.setIfInBounds_toArray, List.set_cons_succ, List.set_cons_zero]
    refine order_skip (i := 29) rfl (by kernel_rfl) (fun _ _ _ h => h) (by kernel_rfl) ?_
    try simp only [Act.put, List.setIfInBounds_toArray, List.set_cons_succ, List.set_cons_zero]
    refine order_skip (i := 30) rfl (by kernel_rfl) (fun _ _ _ h => h) (by kernel_rfl) ?_
    try simp only [Act.put, List.setIfInBounds_toArray, List.set_cons_succ, List.set_cons_zero]
    refine order_skip (i := 31) rfl (by kernel_rfl) (fun _ _ _ h => h) (by kernel_rfl) ?_
    try simp only [Act.put, List.setIfInBounds_toArray, List.set_cons_succ, List.set_cons_zero]
    refine order_skip (i := 32) rfl (by kernel_rfl) (fun _ _ _ h => h) (by kernel_rfl) ?_
    try simp only [Act.put, List.setIfInBounds_toArray, List.set_cons_succ, List.set_cons_zero]
    refine order_skip (i := 33) rfl (by kernel_rfl) (fun _ _ _ h => h) (by kernel_rfl) ?_
    try simp only [Act.put, List.setIfInBounds_toArray, List.set_cons_succ, List.set_cons_zero]
    refine order_skip (i := 34) rfl (by kernel_rfl) (fun _ _ _ h => h) (by kernel_rfl) ?_
    try simp only [Act.put, List.setIfInBounds_toArray, List.set_cons_succ, List.set_cons_zero]
    refine order_skip (i := 35) rfl (by kernel_rfl) (fun _ _ _ h => h) (by kernel_rfl) ?_
    try simp only [Act.put, List.setIfInBounds_toArray, List.set_cons_succ, List.set_cons_zero]
    refine order_skip (i := 36) rfl (by kernel_rfl) (fun _ _ _ h => h) (by kernel_rfl) ?_
    try simp only [Act.put, List.setIfInBounds_toArray, List.set_cons_succ, List.set_cons_zero]
    refine order_skip (i := 37) rfl (by kernel_rfl) (fun _ _ _ h => h) (by kernel_rfl) ?_
    try simp only [Act.put, List.setIfInBounds_toArray, List.set_cons_succ, List.set_cons_zero]
    refine order_pure (i := 38) rfl (by kernel_rfl) (fun _ _ _ h => h) (.inl ⟨rfl, fun _ => by go_simp; rfl⟩) ?_
    try simp only [Act.put, List.setIfInBounds_toArray, List.set_cons_succ, List.set_cons_zero]
    refine order_pure (i := 39) rfl (by kernel_rfl) (fun _ _ _ h => h) (.inl ⟨rfl, fun _ => by go_simp; rfl⟩) ?_
    try simp only [Act.put, List.setIfInBounds_toArray, List.set_cons_succ, List.set_cons_zero]
    refine order_done (by kernel_rfl) ?_
    go_wp2_with fail
    go_ret
    exact ⟨by rw [HE.out]; rfl, HK.out.trans' HS (fun _ _ => id) (fun _ _ => id)⟩
  have b2 : decide (0 ≤ pl) = true := by simpa using h2
  rw [decide_eq_true h2] at hs
  by_cases h3 : tx.size ≤ 40
  case neg =>
    have b3 : decide ((tx.size : Int) ≤ 40) = false := by simp; omega
    have HE : Hid (functionN (.mk kd tx nm pl kids) = false) := hide (by rw [hs, decide_eq_false h3]; rfl)
    clear hn hr hc ht hroom hL ho hk1 hkl hs h1 h2 h3
    go_enter Tryd.func31, Tryd.ntmps31
    go_wp2_with fail
    refine order_begin (fun W => Keeps NoB (w.alloc (.cells #[.int .u8 kd, .string tx, .int .i64 nm, .int .i64 pl, .slice ka kn kc] 29)) W) (fun _ => true) (by kernel_rfl) 40 rfl ?_
    have HS : Keeps NoB (w.alloc (.cells #[.int .u8 kd, .string tx, .int .i64 nm, .int .i64 pl, .slice ka kn kc] 29)) ((w.alloc (.cells #[.int .u8 kd, .string tx, .int .i64 nm, .int .i64 pl, .slice ka kn kc] 29))).drew := (Keeps.refl NoB _).drew
    refine order_pure (i := 0) rfl (by kernel_rfl) (fun _ _ _ h => h) (.inl ⟨rfl, fun _ => by go_simp; rfl⟩) ?_
    try simp only [Act.put, List.setIfInBounds_toArray, List.set_cons_succ, List.set_cons_zero]
    refine order_held (i := 1) rfl (by kernel_rfl) (fun _ _ _ h => h) (.inl ⟨rfl, fun W hW => by
      have q0 : W.cell? ⟨w.heap.size, 0, none⟩ = some (.int .u8 kd) := hW.cell id (HBX.out.cell 0)
      go_simp; rfl⟩) HS ?_
    try simp only [Act.put, List.setIfInBounds_toArray, List.set_cons_succ, List.set_cons_zero]
    refine order_pure (i := 2) rfl (by kernel_rfl) (fun _ _ _ h => h) (.inl ⟨rfl, fun _ => by go_simp; rfl⟩) ?_
    try simp only [Act.put, List.setIfInBounds_toArray, List.set_cons_succ, List.set_cons_zero]
    refine order_pure (i := 3) rfl (by kernel_rfl) (fun _ _ _ h => h) (.inl ⟨rfl, fun _ => by go_simp; rfl⟩) ?_
    try simp only [Act.put, List.setIfInBounds_toArray, List.set_cons_succ, List.set_cons_zero]
    refine order_pure (i := 4) rfl (by kernel_rfl) (fun _ _ _ h => h) (.inl ⟨rfl, fun _ => by go_simp; rfl⟩) ?_
    try simp only [Act.put, List.setIfInBounds_toArray, List.set_cons_succ, List.set_cons_zero]
    refine order_held (i := 5) rfl (by kernel_rfl) (fun _ _ _ h => h) (.inl ⟨rfl, fun W hW => by
      have q0 : W.cell? ⟨w.heap.size, 3, none⟩ = some (.int .i64 pl) := hW.cell id (HBX.out.cell 3)
      go_simp; rfl⟩) HS ?_
    try simp only [Act.put, List.setIfInBounds_toArray, List.set_cons_succ, List.set_cons_zero]
    refine order_pure (i := 6) rfl (by kernel_rfl) (fun _ _ _ h => h) (.inl ⟨rfl, fun _ => by go_simp; rfl⟩) ?_
    try simp only [Act.put, List.setIfInBounds_toArray, List.set_cons_succ, List.set_cons_zero]
    refine order_pure (i := 7) rfl (by kernel_rfl) (fun _ _ _ h => h) (.inl ⟨rfl, fun _ => by go_simp; rfl⟩) ?_
    try simp only [Act.put, List.setIfInBounds_toArray, List.set_cons_succ, List.set_cons_zero]
    refine order_pure (i := 8) rfl (by kernel_rfl) (fun _ _ _ h => h) (.inl ⟨rfl, fun _ => by go_simp; rfl⟩) ?_
    try simp only [Act.put, List.setIfInBounds_toArray, List.set_cons_succ, List.set_cons_zero]
    refine order_pure (i := 9) rfl (by kernel_rfl) (fun _ _ _ h => h) (.inl ⟨rfl, fun _ => by go_simp; rfl⟩) ?_
    try simp only [Act.put, List.setIfInBounds_toArray, List.set_cons_succ, List.set_cons_zero]
    refine order_held (i := 10) rfl (by kernel_rfl) (fun _ _ _ h => h) (.inl ⟨rfl, fun W hW => by
      have q0 : W.cell? ⟨w.heap.size, 1, none⟩ = some (.string tx) := hW.cell id (HBX.out.cell 1)
      go_simp; rfl⟩) HS ?_
    try simp only [Act.put, List.setIfInBounds_toArray, List.set_cons_succ, List.set_cons_zero]
    refine order_pure (i := 11) rfl (by kernel_rfl) (fun _ _ _ h => h) (.inl ⟨rfl, fun _ => by go_simp; rfl⟩) ?_
    try simp only [Act.put, List.setIfInBounds_toArray, List.set_cons_succ, List.set_cons_zero]
    refine order_pure (i := 12) rfl (by kernel_rfl) (fun _ _ _ h => h) (.inl ⟨rfl, fun _ => by go_simp; rfl⟩) ?_
    try simp only [Act.put, List.setIfInBounds_toArray, List.set_cons_succ, List.set_cons_zero]
    refine order_pure (i := 13) rfl (by kernel_rfl) (fun _ _ _ h => h) (.inl ⟨rfl, fun _ => by go_simp; rfl⟩) ?_
    try simp only [Act.put, List.setIfInBounds_toArray, List.set_cons_succ, List.set_cons_zero]
    refine order_pure (i := 14) rfl (by kernel_rfl) (fun _ _ _ h => h) (.inl ⟨rfl, fun _ => by go_simp; rfl⟩) ?_
    try simp only [Act.put, List.setIfInBounds_toArray, List.set_cons_succ, List.set_cons_zero]
    refine order_skip (i := 15) rfl (by kernel_rfl) (fun _ _ _ h => h) (by kernel_rfl) ?_
    try simp only [Act.put, List.setIfInBounds_toArray, List.set_cons_succ, List.set_cons_zero]
    refine order_skip (i := 16) rfl (by kernel_rfl) (fun _ _ _ h => h) (by kernel_rfl) ?_
    try simp only [Act.put, List.setIfInBounds_toArray, List.set_cons_succ, List.set_cons_zero]
    refine order_skip (i := 17) rfl (by kernel_rfl) (fun _ _ _ h => h) (by kernel_rfl) ?_
    try simp only [Act.put, List.setIfInBounds_toArray, List.set_cons_succ, List.set_cons_zero]
    refine order_skip (i := 18) rfl (by kernel_rfl) (fun _ _ _ h => h) (by kernel_rfl) ?_
    try simp only [Act.put, List.setIfInBounds_toArray, List.set_cons_succ, List.set_cons_zero]
    refine order_pure (i := 19) rfl (by kernel_rfl) (fun _ _ _ h => h) (.inl ⟨rfl, fun _ => by go_simp; rfl⟩) ?_
    try simp only [Act.put, List.setIfInBounds_toArray, List.set_cons_succ, List.set_cons_zero]
    refine order_pure (i := 20) rfl (by kernel_rfl) (fun _ _ _ h => h) (.inl ⟨rfl, fun _ => by go_simp; rfl⟩) ?_
    try simp only [Act.put, List.setIfInBounds_toArray, List.set_cons_succ, List.set_cons_zero]
    refine order_skip (i := 21) rfl (by kernel_rfl) (fun _ _ _ h => h) (by kernel_rfl) ?_
    try simp only [Act.put, List.setIfInBounds_toArray, List.set_cons_succ, List.set_cons_zero]
    refine order_skip (i := 22) rfl (by kernel_rfl) (fun _ _ _ h => h) (by kernel_rfl) ?_
    try simp only [Act.put, List.setIfInBounds_toArray, List.set_cons_succ, List.set_cons_zero]
    refine order_skip (i := 23) rfl (by kernel_rfl) (fun _ _ _ h => h) (by kernel_rfl) ?_
    try simp only [Act.put, List.setIfInBounds_toArray, List.set_cons_succ, List.set_cons_zero]
    refine order_pure (i := 24) rfl (by kernel_rfl) (fun _ _ _ h => h) (.inl ⟨rfl, fun _ => by go_simp; rfl⟩) ?_
    try simp only [Act.put, List.setIfInBounds_toArray, List.set_cons_succ, List.set_cons_zero]
    refine order_pure (i := 25) rfl (by kernel_rfl) (fun _ _ _ h => h) (.inl ⟨rfl, fun _ => by go_simp; rfl⟩) ?_
    try simp only [Act.put, List.setIfInBounds_toArray, List.set_cons_succ, List.set_cons_zero]
    refine order_skip (i := 26) rfl (by kernel_rfl) (fun _ _ _ h => h) (by kernel_rfl) ?_
    try simp only [Act.put, List.setIfInBounds_toArray, List.set_cons_succ, List.set_cons_zero]
    refine order_skip (i := 27) rfl (by kernel_rfl) (fun _ _ _ h => h) (by kernel_rfl) ?_
    try simp only [Act.put, List.setIfInBounds_toArray, List.set_cons_succ, List.set_cons_zero]
    refine order_skip (i := 28) rfl (by kernel_rfl) (fun _ _ _ h => h) (by kernel_rfl) ?_
    try simp only [Act.put, List.setIfInBounds_toArray, List.set_cons_succ, List.set_cons_zero]
    refine order_skip (i := 29) rfl (by kernel_rfl) (fun _ _ _ h => h) (by kernel_rfl) ?_
    try simp only [Act.put, List.setIfInBounds_toArray, List.set_cons_succ, List.set_cons_zero]
    refine order_skip (i := 30) rfl (by kernel_rfl) (fun _ _ _ h => h) (by kernel_rfl) ?_
    try simp only [Act.put, List.setIfInBounds_toArray, List.set_cons_succ, List.set_cons_zero]
    refine order_skip (i := 31) rfl (by kernel_rfl) (fun _ _ _ h => h) (by kernel_rfl) ?_
    try simp only [Act.put, List.setIfInBounds_toArray, List.set_cons_succ, List.set_cons_zero]
    refine order_skip (i := 32) rfl (by kernel_rfl) (fun _ _ _ h => h) (by kernel_rfl) ?_
    try simp only [Act.put, List.setIfInBounds_toArray, List.set_cons_succ, List.set_cons_zero]
    refine order_skip (i := 33) rfl (by kernel_rfl) (fun _ _ _ h => h) (by kernel_rfl) ?_
    try simp only [Act.put, List.setIfInBounds_toArray, List.set_cons_succ, List.set_cons_zero]
    refine order_skip (i := 34) rfl (by kernel_rfl) (fun _ _ _ h => h) (by kernel_rfl) ?_
    try simp only [Act.put, List.setIfInBounds_toArray, List.set_cons_succ, List.set_cons_zero]
    refine order_skip (i := 35) rfl (by kernel_rfl) (fun _ _ _ h => h) (by kernel_rfl) ?_
    try simp only [Act.put, List.setIfInBounds_toArray, List.set_cons_succ, List.set_cons_zero]
    refine order_skip (i := 36) rfl (by kernel_rfl) (fun _ _ _ h => h) (by kernel_rfl) ?_
    try simp only [Act.put, List.setIfInBounds_toArray, List.set_cons_succ, List.set_cons_zero]
    refine order_skip (i := 37) rfl (by kernel_rfl) (fun _ _ _ h => h) (by kernel_rfl) ?_
    try simp only [Act.put, List.setIfInBounds_toArray, List.set_cons_succ, List.set_cons_zero]
    refine order_pure (i := 38) rfl (by kernel_rfl) (fun _ _ _ h => h) (.inl ⟨rfl, fun _ => by go_simp; rfl⟩) ?_
    try simp only [Act.put, List.setIfInBounds_toArray, List.set_cons_succ, List.set_cons_zero]
    refine order_pure (i := 39) rfl (by kernel_rfl) (fun _ _ _ h => h) (.inl ⟨rfl, fun _ => by go_simp; rfl⟩) ?_
    try simp only [Act.put, List.setIfInBounds_toArray, List.set_cons_succ, List.set_cons_zero]
    refine order_done (by kernel_rfl) ?_
    go_wp2_with fail
    go_ret
    exact ⟨by rw [HE.out]; rfl, HK.out.trans' HS (fun _ _ => id) (fun _ _ => id)⟩
  have b3 : decide ((tx.size : Int) ≤ 40) = true := by simp; omega
  rw [decide_eq_true h3] at hs
  by_cases h4 : 0 < kn
  case neg =>
    have hne : kids.isEmpty = true := by
      cases kids with
      | nil => rfl
      | cons => simp at hkl; omega
    have b4 : decide ((0 : Int) < (kn : Int)) = false := by simp; omega
    have HE : Hid (functionN (.mk kd tx nm pl kids) = false) := hide (by rw [hs, hne]; rfl)
    clear hn hr hc ht hroom hL ho hk1 hkl hs h1 h2 h3 hne
    go_enter Tryd.func31, Tryd.ntmps31
    go_wp2_with fail
    refine order_begin (fun W => Keeps NoB (w.alloc (.cells #[.int .u8 kd, .string tx, .int .i64 nm, .int .i64 pl, .slice ka kn kc] 29)) W) (fun _ => true) (by kernel_rfl) 40 rfl ?_
    have HS : Keeps NoB (w.alloc (.cells #[.int .u8 kd, .string tx, .int .i64 nm, .int .i64 pl, .slice ka kn kc] 29)) ((w.alloc (.cells #[.int .u8 kd, .string tx, .int .i64 nm, .int .i64 pl, .slice ka kn kc] 29))).drew := (Keeps.refl NoB _).drew
    refine order_pure (i := 0) rfl (by kernel_rfl) (fun _ _ _ h => h) (.inl ⟨rfl, fun _ => by go_simp; rfl⟩) ?_
    try simp only [Act.put, List.setIfInBounds_toArray, List.set_cons_succ, List.set_cons_zero]
    refine order_held (i := 1) rfl (by kernel_rfl) (fun _ _ _ h => h) (.inl ⟨rfl, fun W hW => by
      have q0 : W.cell? ⟨w.heap.size, 0, none⟩ = some (.int .u8 kd) := hW.cell id (HBX.out.cell 0)
      go_simp; rfl⟩) HS ?_
    try simp only [Act.put, List.setIfInBounds_toArray, List.set_cons_succ, List.set_cons_zero]
    refine order_pure (i := 2) rfl (by kernel_rfl) (fun _ _ _ h => h) (.inl ⟨rfl, fun _ => by go_simp; rfl⟩) ?_
    try simp only [Act.put, List.setIfInBounds_toArray, List.set_cons_succ, List.set_cons_zero]
    refine order_pure (i := 3) rfl (by kernel_rfl) (fun _ _ _ h => h) (.inl ⟨rfl, fun _ => by go_simp; rfl⟩) ?_
    try simp only [Act.put, List.setIfInBounds_toArray, List.set_cons_succ, List.set_cons_zero]
    refine order_pure (i := 4) rfl (by kernel_rfl) (fun _ _ _ h => h) (.inl ⟨rfl, fun _ => by go_simp; rfl⟩) ?_
    try simp only [Act.put, List.setIfInBounds_toArray, List.set_cons_succ, List.set_cons_zero]
    refine order_held (i := 5) rfl (by kernel_rfl) (fun _ _ _ h => h) (.inl ⟨rfl, fun W hW => by
      have q0 : W.cell? ⟨w.heap.size, 3, none⟩ = some (.int .i64 pl) := hW.cell id (HBX.out.cell 3)
      go_simp; rfl⟩) HS ?_
    try simp only [Act.put, List.setIfInBounds_toArray, List.set_cons_succ, List.set_cons_zero]
    refine order_pure (i := 6) rfl (by kernel_rfl) (fun _ _ _ h => h) (.inl ⟨rfl, fun _ => by go_simp; rfl⟩) ?_
    try simp only [Act.put, List.setIfInBounds_toArray, List.set_cons_succ, List.set_cons_zero]
    refine order_pure (i := 7) rfl (by kernel_rfl) (fun _ _ _ h => h) (.inl ⟨rfl, fun _ => by go_simp; rfl⟩) ?_
    try simp only [Act.put, List.setIfInBounds_toArray, List.set_cons_succ, List.set_cons_zero]
    refine order_pure (i := 8) rfl (by kernel_rfl) (fun _ _ _ h => h) (.inl ⟨rfl, fun _ => by go_simp; rfl⟩) ?_
    try simp only [Act.put, List.setIfInBounds_toArray, List.set_cons_succ, List.set_cons_zero]
    refine order_pure (i := 9) rfl (by kernel_rfl) (fun _ _ _ h => h) (.inl ⟨rfl, fun _ => by go_simp; rfl⟩) ?_
    try simp only [Act.put, List.setIfInBounds_toArray, List.set_cons_succ, List.set_cons_zero]
    refine order_held (i := 10) rfl (by kernel_rfl) (fun _ _ _ h => h) (.inl ⟨rfl, fun W hW => by
      have q0 : W.cell? ⟨w.heap.size, 1, none⟩ = some (.string tx) := hW.cell id (HBX.out.cell 1)
      go_simp; rfl⟩) HS ?_
    try simp only [Act.put, List.setIfInBounds_toArray, List.set_cons_succ, List.set_cons_zero]
    refine order_pure (i := 11) rfl (by kernel_rfl) (fun _ _ _ h => h) (.inl ⟨rfl, fun _ => by go_simp; rfl⟩) ?_
    try simp only [Act.put, List.setIfInBounds_toArray, List.set_cons_succ, List.set_cons_zero]
    refine order_pure (i := 12) rfl (by kernel_rfl) (fun _ _ _ h => h) (.inl ⟨rfl, fun _ => by go_simp; rfl⟩) ?_
    try simp only [Act.put, List.setIfInBounds_toArray, List.set_cons_succ, List.set_cons_zero]
    refine order_pure (i := 13) rfl (by kernel_rfl) (fun _ _ _ h => h) (.inl ⟨rfl, fun _ => by go_simp; rfl⟩) ?_
    try simp only [Act.put, List.setIfInBounds_toArray, List.set_cons_succ, List.set_cons_zero]
    refine order_pure (i := 14) rfl (by kernel_rfl) (fun _ _ _ h => h) (.inl ⟨rfl, fun _ => by go_simp; rfl⟩) ?_
    try simp only [Act.put, List.setIfInBounds_toArray, List.set_cons_succ, List.set_cons_zero]
    refine order_pure (i := 15) rfl (by kernel_rfl) (fun _ _ _ h => h) (.inl ⟨rfl, fun _ => by go_simp; rfl⟩) ?_
    try simp only [Act.put, List.setIfInBounds_toArray, List.set_cons_succ, List.set_cons_zero]
    refine order_held (i := 16) rfl (by kernel_rfl) (fun _ _ _ h => h) (.inl ⟨rfl, fun W hW => by
      have q0 : W.cell? ⟨w.heap.size, 4, none⟩ = some (.slice ka kn kc) := hW.cell id (HBX.out.cell 4)
      go_simp; rfl⟩) HS ?_
    try simp only [Act.put, List.setIfInBounds_toArray, List.set_cons_succ, List.set_cons_zero]
    refine order_pure (i := 17) rfl (by kernel_rfl) (fun _ _ _ h => h) (.inl ⟨rfl, fun _ => by go_simp; rfl⟩) ?_
    try simp only [Act.put, List.setIfInBounds_toArray, List.set_cons_succ, List.set_cons_zero]
    refine order_pure (i := 18) rfl (by kernel_rfl) (fun _ _ _ h => h) (.inl ⟨rfl, fun _ => by go_simp; rfl⟩) ?_
    try simp only [Act.put, List.setIfInBounds_toArray, List.set_cons_succ, List.set_cons_zero]
    refine order_pure (i := 19) rfl (by kernel_rfl) (fun _ _ _ h => h) (.inl ⟨rfl, fun _ => by go_simp; rfl⟩) ?_
    try simp only [Act.put, List.setIfInBounds_toArray, List.set_cons_succ, List.set_cons_zero]
    refine order_pure (i := 20) rfl (by kernel_rfl) (fun _ _ _ h => h) (.inl ⟨rfl, fun _ => by go_simp; rfl⟩) ?_
    try simp only [Act.put, List.setIfInBounds_toArray, List.set_cons_succ, List.set_cons_zero]
    refine order_skip (i := 21) rfl (by kernel_rfl) (fun _ _ _ h => h) (by kernel_rfl) ?_
    try simp only [Act.put, List.setIfInBounds_toArray, List.set_cons_succ, List.set_cons_zero]
    refine order_skip (i := 22) rfl (by kernel_rfl) (fun _ _ _ h => h) (by kernel_rfl) ?_
    try simp only [Act.put, List.setIfInBounds_toArray, List.set_cons_succ, List.set_cons_zero]
    refine order_skip (i := 23) rfl (by kernel_rfl) (fun _ _ _ h => h) (by kernel_rfl) ?_
    try simp only [Act.put, List.setIfInBounds_toArray, List.set_cons_succ, List.set_cons_zero]
    refine order_pure (i := 24) rfl (by kernel_rfl) (fun _ _ _ h => h) (.inl ⟨rfl, fun _ => by go_simp; rfl⟩) ?_
    try simp only [Act.put, List.setIfInBounds_toArray, List.set_cons_succ, List.set_cons_zero]
    refine order_pure (i := 25) rfl (by kernel_rfl) (fun _ _ _ h => h) (.inl ⟨rfl, fun _ => by go_simp; rfl⟩) ?_
    try simp only [Act.put, List.setIfInBounds_toArray, List.set_cons_succ, List.set_cons_zero]
    refine order_skip (i := 26) rfl (by kernel_rfl) (fun _ _ _ h => h) (by kernel_rfl) ?_
    try simp only [Act.put, List.setIfInBounds_toArray, List.set_cons_succ, List.set_cons_zero]
    refine order_skip (i := 27) rfl (by kernel_rfl) (fun _ _ _ h => h) (by kernel_rfl) ?_
    try simp only [Act.put, List.setIfInBounds_toArray, List.set_cons_succ, List.set_cons_zero]
    refine order_skip (i := 28) rfl (by kernel_rfl) (fun _ _ _ h => h) (by kernel_rfl) ?_
    try simp only [Act.put, List.setIfInBounds_toArray, List.set_cons_succ, List.set_cons_zero]
    refine order_skip (i := 29) rfl (by kernel_rfl) (fun _ _ _ h => h) (by kernel_rfl) ?_
    try simp only [Act.put, List.setIfInBounds_toArray, List.set_cons_succ, List.set_cons_zero]
    refine order_skip (i := 30) rfl (by kernel_rfl) (fun _ _ _ h => h) (by kernel_rfl) ?_
    try simp only [Act.put, List.setIfInBounds_toArray, List.set_cons_succ, List.set_cons_zero]
    refine order_skip (i := 31) rfl (by kernel_rfl) (fun _ _ _ h => h) (by kernel_rfl) ?_
    try simp only [Act.put, List.setIfInBounds_toArray, List.set_cons_succ, List.set_cons_zero]
    refine order_skip (i := 32) rfl (by kernel_rfl) (fun _ _ _ h => h) (by kernel_rfl) ?_
    try simp only [Act.put, List.setIfInBounds_toArray, List.set_cons_succ, List.set_cons_zero]
    refine order_skip (i := 33) rfl (by kernel_rfl) (fun _ _ _ h => h) (by kernel_rfl) ?_
    try simp only [Act.put, List.setIfInBounds_toArray, List.set_cons_succ, List.set_cons_zero]
    refine order_skip (i := 34) rfl (by kernel_rfl) (fun _ _ _ h => h) (by kernel_rfl) ?_
    try simp only [Act.put, List.setIfInBounds_toArray, List.set_cons_succ, List.set_cons_zero]
    refine order_skip (i := 35) rfl (by kernel_rfl) (fun _ _ _ h => h) (by kernel_rfl) ?_
    try simp only [Act.put, List.setIfInBounds_toArray, List.set_cons_succ, List.set_cons_zero]
    refine order_skip (i := 36) rfl (by kernel_rfl) (fun _ _ _ h => h) (by kernel_rfl) ?_
    try simp only [Act.put, List.setIfInBounds_toArray, List.set_cons_succ, List.set_cons_zero]
    refine order_skip (i := 37) rfl (by kernel_rfl) (fun _ _ _ h => h) (by kernel_rfl) ?_
    try simp only [Act.put, List.setIfInBounds_toArray, List.set_cons_succ, List.set_cons_zero]
    refine order_pure (i := 38) rfl (by kernel_rfl) (fun _ _ _ h => h) (.inl ⟨rfl, fun _ => by go_simp; rfl⟩) ?_
    try simp only [Act.put, List.setIfInBounds_toArray, List.set_cons_succ, List.set_cons_zero]
    refine order_pure (i := 39) rfl (by kernel_rfl) (fun _ _ _ h => h) (.inl ⟨rfl, fun _ => by go_simp; rfl⟩) ?_
    try simp only [Act.put, List.setIfInBounds_toArray, List.set_cons_succ, List.set_cons_zero]
    refine order_done (by kernel_rfl) ?_
    go_wp2_with fail
    go_ret
    exact ⟨by rw [HE.out]; rfl, HK.out.trans' HS (fun _ _ => id) (fun _ _ => id)⟩
  have b4 : decide ((0 : Int) < (kn : Int)) = true := by simp; omega
  have hne : kids.isEmpty = false := by
    cases kids with
    | nil => simp at hkl; omega
    | cons => rfl
  rw [hne] at hs
  cases hv : kids.all (okM 2) with
  | false =>
    have HV := hide hv
    have HE : Hid (functionN (.mk kd tx nm pl kids) = false) := hide (by rw [hs, hv]; rfl)
    clear hn hr hc ht hroom hL ho hk1 hkl hs h1 h2 h3 hne hv
    go_enter Tryd.func31, Tryd.ntmps31
    go_wp2_with fail
    refine order_begin (fun W => Keeps NoB (w.alloc (.cells #[.int .u8 kd, .string tx, .int .i64 nm, .int .i64 pl, .slice ka kn kc] 29)) W) (fun _ => true) (by kernel_rfl) 40 rfl ?_
    have HS : Keeps NoB (w.alloc (.cells #[.int .u8 kd, .string tx, .int .i64 nm, .int .i64 pl, .slice ka kn kc] 29)) ((w.alloc (.cells #[.int .u8 kd, .string tx, .int .i64 nm, .int .i64 pl, .slice ka kn kc] 29))).drew := (Keeps.refl NoB _).drew
    refine order_pure (i := 0) rfl (by kernel_rfl) (fun _ _ _ h => h) (.inl ⟨rfl, fun _ => by go_simp; rfl⟩) ?_
    try simp only [Act.put, List.setIfInBounds_toArray, List.set_cons_succ, List.set_cons_zero]
    refine order_held (i := 1) rfl (by kernel_rfl) (fun _ _ _ h => h) (.inl ⟨rfl, fun W hW => by
      have q0 : W.cell? ⟨w.heap.size, 0, none⟩ = some (.int .u8 kd) := hW.cell id (HBX.out.cell 0)
      go_simp; rfl⟩) HS ?_
    try simp only [Act.put, List.setIfInBounds_toArray, List.set_cons_succ, List.set_cons_zero]
    refine order_pure (i := 2) rfl (by kernel_rfl) (fun _ _ _ h => h) (.inl ⟨rfl, fun _ => by go_simp; rfl⟩) ?_
    try simp only [Act.put, List.setIfInBounds_toArray, List.set_cons_succ, List.set_cons_zero]
    refine order_pure (i := 3) rfl (by kernel_rfl) (fun _ _ _ h => h) (.inl ⟨rfl, fun _ => by go_simp; rfl⟩) ?_
    try simp only [Act.put, List.setIfInBounds_toArray, List.set_cons_succ, List.set_cons_zero]
    refine order_pure (i := 4) rfl (by kernel_rfl) (fun _ _ _ h => h) (.inl ⟨rfl, fun _ => by go_simp; rfl⟩) ?_
    try simp only [Act.put, List.setIfInBounds_toArray, List.set_cons_succ, List.set_cons_zero]
    refine order_held (i := 5) rfl (by kernel_rfl) (fun _ _ _ h => h) (.inl ⟨rfl, fun W hW => by
      have q0 : W.cell? ⟨w.heap.size, 3, none⟩ = some (.int .i64 pl) := hW.cell id (HBX.out.cell 3)
      go_simp; rfl⟩) HS ?_
    try simp only [Act.put, List.setIfInBounds_toArray, List.set_cons_succ, List.set_cons_zero]
    refine order_pure (i := 6) rfl (by kernel_rfl) (fun _ _ _ h => h) (.inl ⟨rfl, fun _ => by go_simp; rfl⟩) ?_
    try simp only [Act.put, List.setIfInBounds_toArray, List.set_cons_succ, List.set_cons_zero]
    refine order_pure (i := 7) rfl (by kernel_rfl) (fun _ _ _ h => h) (.inl ⟨rfl, fun _ => by go_simp; rfl⟩) ?_
    try simp only [Act.put, List.setIfInBounds_toArray, List.set_cons_succ, List.set_cons_zero]
    refine order_pure (i := 8) rfl (by kernel_rfl) (fun _ _ _ h => h) (.inl ⟨rfl, fun _ => by go_simp; rfl⟩) ?_
    try simp only [Act.put, List.setIfInBounds_toArray, List.set_cons_succ, List.set_cons_zero]
    refine order_pure (i := 9) rfl (by kernel_rfl) (fun _ _ _ h => h) (.inl ⟨rfl, fun _ => by go_simp; rfl⟩) ?_
    try simp only [Act.put, List.setIfInBounds_toArray, List.set_cons_succ, List.set_cons_zero]
    refine order_held (i := 10) rfl (by kernel_rfl) (fun _ _ _ h => h) (.inl ⟨rfl, fun W hW => by
      have q0 : W.cell? ⟨w.heap.size, 1, none⟩ = some (.string tx) := hW.cell id (HBX.out.cell 1)
      go_simp; rfl⟩) HS ?_
    try simp only [Act.put, List.setIfInBounds_toArray, List.set_cons_succ, List.set_cons_zero]
    refine order_pure (i := 11) rfl (by kernel_rfl) (fun _ _ _ h => h) (.inl ⟨rfl, fun _ => by go_simp; rfl⟩) ?_
    try simp only [Act.put, List.setIfInBounds_toArray, List.set_cons_succ, List.set_cons_zero]
    refine order_pure (i := 12) rfl (by kernel_rfl) (fun _ _ _ h => h) (.inl ⟨rfl, fun _ => by go_simp; rfl⟩) ?_
    try simp only [Act.put, List.setIfInBounds_toArray, List.set_cons_succ, List.set_cons_zero]
    refine order_pure (i := 13) rfl (by kernel_rfl) (fun _ _ _ h => h) (.inl ⟨rfl, fun _ => by go_simp; rfl⟩) ?_
    try simp only [Act.put, List.setIfInBounds_toArray, List.set_cons_succ, List.set_cons_zero]
    refine order_pure (i := 14) rfl (by kernel_rfl) (fun _ _ _ h => h) (.inl ⟨rfl, fun _ => by go_simp; rfl⟩) ?_
    try simp only [Act.put, List.setIfInBounds_toArray, List.set_cons_succ, List.set_cons_zero]
    refine order_pure (i := 15) rfl (by kernel_rfl) (fun _ _ _ h => h) (.inl ⟨rfl, fun _ => by go_simp; rfl⟩) ?_
    try simp only [Act.put, List.setIfInBounds_toArray, List.set_cons_succ, List.set_cons_zero]
    refine order_held (i := 16) rfl (by kernel_rfl) (fun _ _ _ h => h) (.inl ⟨rfl, fun W hW => by
      have q0 : W.cell? ⟨w.heap.size, 4, none⟩ = some (.slice ka kn kc) := hW.cell id (HBX.out.cell 4)
      go_simp; rfl⟩) HS ?_
    try simp only [Act.put, List.setIfInBounds_toArray, List.set_cons_succ, List.set_cons_zero]
    refine order_pure (i := 17) rfl (by kernel_rfl) (fun _ _ _ h => h) (.inl ⟨rfl, fun _ => by go_simp; rfl⟩) ?_
    try simp only [Act.put, List.setIfInBounds_toArray, List.set_cons_succ, List.set_cons_zero]
    refine order_pure (i := 18) rfl (by kernel_rfl) (fun _ _ _ h => h) (.inl ⟨rfl, fun _ => by go_simp; rfl⟩) ?_
    try simp only [Act.put, List.setIfInBounds_toArray, List.set_cons_succ, List.set_cons_zero]
    refine order_pure (i := 19) rfl (by kernel_rfl) (fun _ _ _ h => h) (.inl ⟨rfl, fun _ => by go_simp; rfl⟩) ?_
    try simp only [Act.put, List.setIfInBounds_toArray, List.set_cons_succ, List.set_cons_zero]
    refine order_pure (i := 20) rfl (by kernel_rfl) (fun _ _ _ h => h) (.inl ⟨rfl, fun _ => by go_simp; rfl⟩) ?_
    try simp only [Act.put, List.setIfInBounds_toArray, List.set_cons_succ, List.set_cons_zero]
    refine order_pure (i := 21) rfl (by kernel_rfl) (fun _ _ _ h => h) (.inl ⟨rfl, fun _ => by go_simp; rfl⟩) ?_
    try simp only [Act.put, List.setIfInBounds_toArray, List.set_cons_succ, List.set_cons_zero]
    refine order_held (i := 22) rfl (by kernel_rfl) (fun _ _ _ h => h) (.inl ⟨rfl, fun W hW => by
      have q0 : W.cell? ⟨w.heap.size, 4, none⟩ = some (.slice ka kn kc) := hW.cell id (HBX.out.cell 4)
      go_simp; rfl⟩) HS ?_
    try simp only [Act.put, List.setIfInBounds_toArray, List.set_cons_succ, List.set_cons_zero]
    refine order_one (i := 23) rfl (by kernel_rfl) (fun K hK => ?_)
    go_simp
    refine (P1.out _ (HK.out.trans' HS (fun _ _ => id) (fun _ _ => id))).mono ?_
    rintro e w2 ⟨rfl, hk⟩
    rw [HV.out]
    refine hK _ _ (fun _ hS => hS.trans' hk (fun _ _ => id) (fun _ _ => id)) ?_
    clear hK
    have HS2 : Keeps NoB (w.alloc (.cells #[.int .u8 kd, .string tx, .int .i64 nm, .int .i64 pl, .slice ka kn kc] 29)) w2 := HS.trans' hk (fun _ _ => id) (fun _ _ => id)
    clear HS hk
    have HS := HS2
    clear HS2
    try simp only [Act.put, List.setIfInBounds_toArray, List.set_cons_succ, List.set_cons_zero]
    refine order_pure (i := 24) rfl (by kernel_rfl) (fun _ _ _ h => h) (.inl ⟨rfl, fun _ => by go_simp; rfl⟩) ?_
    try simp only [Act.put, List.setIfInBounds_toArray, List.set_cons_succ, List.set_cons_zero]
    refine order_pure (i := 25) rfl (by kernel_rfl) (fun _ _ _ h => h) (.inl ⟨rfl, fun _ => by go_simp; rfl⟩) ?_
    try simp only [Act.put, List.setIfInBounds_toArray, List.set_cons_succ, List.set_cons_zero]
    refine order_skip (i := 26) rfl (by kernel_rfl) (fun _ _ _ h => h) (by kernel_rfl) ?_
    try simp only [Act.put, List.setIfInBounds_toArray, List.set_cons_succ, List.set_cons_zero]
    refine order_skip (i := 27) rfl (by kernel_rfl) (fun _ _ _ h => h) (by kernel_rfl) ?_
    try simp only [Act.put, List.setIfInBounds_toArray, List.set_cons_succ, List.set_cons_zero]
    refine order_skip (i := 28) rfl (by kernel_rfl) (fun _ _ _ h => h) (by kernel_rfl) ?_
    try simp only [Act.put, List.setIfInBounds_toArray, List.set_cons_succ, List.set_cons_zero]
    refine order_skip (i := 29) rfl (by kernel_rfl) (fun _ _ _ h => h) (by kernel_rfl) ?_
    try simp only [Act.put, List.setIfInBounds_toArray, List.set_cons_succ, List.set_cons_zero]
    refine order_skip (i := 30) rfl (by kernel_rfl) (fun _ _ _ h => h) (by kernel_rfl) ?_
    try simp only [Act.put, List.setIfInBounds_toArray, List.set_cons_succ, List.set_cons_zero]
    refine order_skip (i := 31) rfl (by kernel_rfl) (fun _ _ _ h => h) (by kernel_rfl) ?_
    try simp only [Act.put, List.setIfInBounds_toArray, List.set_cons_succ, List.set_cons_zero]
    refine order_skip (i := 32) rfl (by kernel_rfl) (fun _ _ _ h => h) (by kernel_rfl) ?_
    try simp only [Act.put, List.setIfInBounds_toArray, List.set_cons_succ, List.set_cons_zero]
    refine order_skip (i := 33) rfl (by kernel_rfl) (fun _ _ _ h => h) (by kernel_rfl) ?_
    try simp only [Act.put, List.setIfInBounds_toArray, List.set_cons_succ, List.set_cons_zero]
    refine order_skip (i := 34) rfl (by kernel_rfl) (fun _ _ _ h => h) (by kernel_rfl) ?_
    try simp only [Act.put, List.setIfInBounds_toArray, List.set_cons_succ, List.set_cons_zero]
    refine order_skip (i := 35) rfl (by kernel_rfl) (fun _ _ _ h => h) (by kernel_rfl) ?_
    try simp only [Act.put, List.setIfInBounds_toArray, List.set_cons_succ, List.set_cons_zero]
    refine order_skip (i := 36) rfl (by kernel_rfl) (fun _ _ _ h => h) (by kernel_rfl) ?_
    try simp only [Act.put, List.setIfInBounds_toArray, List.set_cons_succ, List.set_cons_zero]
    refine order_skip (i := 37) rfl (by kernel_rfl) (fun _ _ _ h => h) (by kernel_rfl) ?_
    try simp only [Act.put, List.setIfInBounds_toArray, List.set_cons_succ, List.set_cons_zero]
    refine order_pure (i := 38) rfl (by kernel_rfl) (fun _ _ _ h => h) (.inl ⟨rfl, fun _ => by go_simp; rfl⟩) ?_
    try simp only [Act.put, List.setIfInBounds_toArray, List.set_cons_succ, List.set_cons_zero]
    refine order_pure (i := 39) rfl (by kernel_rfl) (fun _ _ _ h => h) (.inl ⟨rfl, fun _ => by go_simp; rfl⟩) ?_
    try simp only [Act.put, List.setIfInBounds_toArray, List.set_cons_succ, List.set_cons_zero]
    refine order_done (by kernel_rfl) ?_
    go_wp2_with fail
    go_ret
    exact ⟨by rw [HE.out]; rfl, HK.out.trans' HS (fun _ _ => id) (fun _ _ => id)⟩
  | true =>
    have HV := hide hv
    obtain ⟨b, o, kd1, tx1, nm1, pl1, ka1, kn1, kc1, p, hA, _, _, e1, _, hu, _, _, _, _, f4⟩ := node_at (hr.keep hk1 (fun _ _ => id)) (NodesIn.keep hk1 (fun _ _ => id) _ _ hc) 0 h4
    have hpk : okM 2 p = true := by
      have h := List.all_eq_true.1 hv p (List.mem_of_getElem? e1)
      exact h
    obtain ⟨a, b', c, hpc⟩ := clause_three_kids hpk
    obtain ⟨ks, cs, ep, _, hr1, hc1, hl1⟩ := hu.kidsIn
    have hks : ks = [a, b', c] := by rw [ep] at hpc; exact hpc
    subst hks
    obtain rfl : kn1 = 3 := by simpa using hl1.symm
    obtain ⟨b1, o1, kd2, tx2, nm2, pl2, ka2, kn2, kc2, q, hA2, _, _, e2, _, hu2, _, _, _, _, g4⟩ := node_at hr1 hc1 0 (by omega)
    obtain rfl : a = q := by simpa using e2
    obtain ⟨ks2, cs2, ea, _, _, _, hl2⟩ := hu2.kidsIn
    subst hA hA2
    have hp0 : kids.getD 0 (.mk kd tx nm pl kids) = p := by rw [List.getD_eq_getElem?_getD, e1]; rfl
    rw [hp0, hpc, show ([a, b', c] : List Nd).getD 0 (.mk kd tx nm pl kids) = a from rfl, show a.kids = ks2 by rw [ea]; rfl, hl2, hv] at hs
    have HF := hide (And.intro f4 g4)
    have hz : (0 : Int) < (kn : Int) := by omega
    by_cases h6 : nm = (kn2 : Int)
    · have b6 : (nm == (kn2 : Int)) = true := by simpa using h6
      have HE : Hid (functionN (.mk kd tx nm pl kids) = true) := hide (by rw [hs, decide_eq_true h6]; rfl)
      clear hn hr hc ht hroom hL ho hk1 hkl hs h1 h2 h3 hne hv f4 g4 hp0 hpc hpk e1 e2 ep ea hr1 hc1 hl1 hl2 hu hu2 h6
      go_enter Tryd.func31, Tryd.ntmps31
      go_wp2_with fail
      refine order_begin (fun W => Keeps NoB (w.alloc (.cells #[.int .u8 kd, .string tx, .int .i64 nm, .int .i64 pl, .slice (some ⟨b, o, none⟩) kn kc] 29)) W) (fun _ => true) (by kernel_rfl) 40 rfl ?_
      have HS : Keeps NoB (w.alloc (.cells #[.int .u8 kd, .string tx, .int .i64 nm, .int .i64 pl, .slice (some ⟨b, o, none⟩) kn kc] 29)) ((w.alloc (.cells #[.int .u8 kd, .string tx, .int .i64 nm, .int .i64 pl, .slice (some ⟨b, o, none⟩) kn kc] 29))).drew := (Keeps.refl NoB _).drew
      refine order_pure (i := 0) rfl (by kernel_rfl) (fun _ _ _ h => h) (.inl ⟨rfl, fun _ => by go_simp; rfl⟩) ?_
      try simp only [Act.put, List.setIfInBounds_toArray, List.set_cons_succ, List.set_cons_zero]
      refine order_held (i := 1) rfl (by kernel_rfl) (fun _ _ _ h => h) (.inl ⟨rfl, fun W hW => by
        have q0 : W.cell? ⟨w.heap.size, 0, none⟩ = some (.int .u8 kd) := hW.cell id (HBX.out.cell 0)
        go_simp; rfl⟩) HS ?_
      try simp only [Act.put, List.setIfInBounds_toArray, List.set_cons_succ, List.set_cons_zero]
      refine order_pure (i := 2) rfl (by kernel_rfl) (fun _ _ _ h => h) (.inl ⟨rfl, fun _ => by go_simp; rfl⟩) ?_
      try simp only [Act.put, List.setIfInBounds_toArray, List.set_cons_succ, List.set_cons_zero]
      refine order_pure (i := 3) rfl (by kernel_rfl) (fun _ _ _ h => h) (.inl ⟨rfl, fun _ => by go_simp; rfl⟩) ?_
      try simp only [Act.put, List.setIfInBounds_toArray, List.set_cons_succ, List.set_cons_zero]
      refine order_pure (i := 4) rfl (by kernel_rfl) (fun _ _ _ h => h) (.inl ⟨rfl, fun _ => by go_simp; rfl⟩) ?_
      try simp only [Act.put, List.setIfInBounds_toArray, List.set_cons_succ, List.set_cons_zero]
      refine order_held (i := 5) rfl (by kernel_rfl) (fun _ _ _ h => h) (.inl ⟨rfl, fun W hW => by
        have q0 : W.cell? ⟨w.heap.size, 3, none⟩ = some (.int .i64 pl) := hW.cell id (HBX.out.cell 3)
        go_simp; rfl⟩) HS ?_
      try simp only [Act.put, List.setIfInBounds_toArray, List.set_cons_succ, List.set_cons_zero]
      refine order_pure (i := 6) rfl (by kernel_rfl) (fun _ _ _ h => h) (.inl ⟨rfl, fun _ => by go_simp; rfl⟩) ?_
      try simp only [Act.put, List.setIfInBounds_toArray, List.set_cons_succ, List.set_cons_zero]
      refine order_pure (i := 7) rfl (by kernel_rfl) (fun _ _ _ h => h) (.inl ⟨rfl, fun _ => by go_simp; rfl⟩) ?_
      try simp only [Act.put, List.setIfInBounds_toArray, List.set_cons_succ, List.set_cons_zero]
      refine order_pure (i := 8) rfl (by kernel_rfl) (fun _ _ _ h => h) (.inl ⟨rfl, fun _ => by go_simp; rfl⟩) ?_
      try simp only [Act.put, List.setIfInBounds_toArray, List.set_cons_succ, List.set_cons_zero]
      refine order_pure (i := 9) rfl (by kernel_rfl) (fun _ _ _ h => h) (.inl ⟨rfl, fun _ => by go_simp; rfl⟩) ?_
      try simp only [Act.put, List.setIfInBounds_toArray, List.set_cons_succ, List.set_cons_zero]
      refine order_held (i := 10) rfl (by kernel_rfl) (fun _ _ _ h => h) (.inl ⟨rfl, fun W hW => by
        have q0 : W.cell? ⟨w.heap.size, 1, none⟩ = some (.string tx) := hW.cell id (HBX.out.cell 1)
        go_simp; rfl⟩) HS ?_
      try simp only [Act.put, List.setIfInBounds_toArray, List.set_cons_succ, List.set_cons_zero]
      refine order_pure (i := 11) rfl (by kernel_rfl) (fun _ _ _ h => h) (.inl ⟨rfl, fun _ => by go_simp; rfl⟩) ?_
      try simp only [Act.put, List.setIfInBounds_toArray, List.set_cons_succ, List.set_cons_zero]
      refine order_pure (i := 12) rfl (by kernel_rfl) (fun _ _ _ h => h) (.inl ⟨rfl, fun _ => by go_simp; rfl⟩) ?_
      try simp only [Act.put, List.setIfInBounds_toArray, List.set_cons_succ, List.set_cons_zero]
      refine order_pure (i := 13) rfl (by kernel_rfl) (fun _ _ _ h => h) (.inl ⟨rfl, fun _ => by go_simp; rfl⟩) ?_
      try simp only [Act.put, List.setIfInBounds_toArray, List.set_cons_succ, List.set_cons_zero]
      refine order_pure (i := 14) rfl (by kernel_rfl) (fun _ _ _ h => h) (.inl ⟨rfl, fun _ => by go_simp; rfl⟩) ?_
      try simp only [Act.put, List.setIfInBounds_toArray, List.set_cons_succ, List.set_cons_zero]
      refine order_pure (i := 15) rfl (by kernel_rfl) (fun _ _ _ h => h) (.inl ⟨rfl, fun _ => by go_simp; rfl⟩) ?_
      try simp only [Act.put, List.setIfInBounds_toArray, List.set_cons_succ, List.set_cons_zero]
      refine order_held (i := 16) rfl (by kernel_rfl) (fun _ _ _ h => h) (.inl ⟨rfl, fun W hW => by
        have q0 : W.cell? ⟨w.heap.size, 4, none⟩ = some (.slice (some ⟨b, o, none⟩) kn kc) := hW.cell id (HBX.out.cell 4)
        go_simp; rfl⟩) HS ?_
      try simp only [Act.put, List.setIfInBounds_toArray, List.set_cons_succ, List.set_cons_zero]
      refine order_pure (i := 17) rfl (by kernel_rfl) (fun _ _ _ h => h) (.inl ⟨rfl, fun _ => by go_simp; rfl⟩) ?_
      try simp only [Act.put, List.setIfInBounds_toArray, List.set_cons_succ, List.set_cons_zero]
      refine order_pure (i := 18) rfl (by kernel_rfl) (fun _ _ _ h => h) (.inl ⟨rfl, fun _ => by go_simp; rfl⟩) ?_
      try simp only [Act.put, List.setIfInBounds_toArray, List.set_cons_succ, List.set_cons_zero]
      refine order_pure (i := 19) rfl (by kernel_rfl) (fun _ _ _ h => h) (.inl ⟨rfl, fun _ => by go_simp; rfl⟩) ?_
      try simp only [Act.put, List.setIfInBounds_toArray, List.set_cons_succ, List.set_cons_zero]
      refine order_pure (i := 20) rfl (by kernel_rfl) (fun _ _ _ h => h) (.inl ⟨rfl, fun _ => by go_simp; rfl⟩) ?_
      try simp only [Act.put, List.setIfInBounds_toArray, List.set_cons_succ, List.set_cons_zero]
      refine order_pure (i := 21) rfl (by kernel_rfl) (fun _ _ _ h => h) (.inl ⟨rfl, fun _ => by go_simp; rfl⟩) ?_
      try simp only [Act.put, List.setIfInBounds_toArray, List.set_cons_succ, List.set_cons_zero]
      refine order_held (i := 22) rfl (by kernel_rfl) (fun _ _ _ h => h) (.inl ⟨rfl, fun W hW => by
        have q0 : W.cell? ⟨w.heap.size, 4, none⟩ = some (.slice (some ⟨b, o, none⟩) kn kc) := hW.cell id (HBX.out.cell 4)
        go_simp; rfl⟩) HS ?_
      try simp only [Act.put, List.setIfInBounds_toArray, List.set_cons_succ, List.set_cons_zero]
      refine order_one (i := 23) rfl (by kernel_rfl) (fun K hK => ?_)
      go_simp
      refine (P1.out _ (HK.out.trans' HS (fun _ _ => id) (fun _ _ => id))).mono ?_
      rintro e w2 ⟨rfl, hk⟩
      rw [HV.out]
      refine hK _ _ (fun _ hS => hS.trans' hk (fun _ _ => id) (fun _ _ => id)) ?_
      clear hK
      have HS2 : Keeps NoB (w.alloc (.cells #[.int .u8 kd, .string tx, .int .i64 nm, .int .i64 pl, .slice (some ⟨b, o, none⟩) kn kc] 29)) w2 := HS.trans' hk (fun _ _ => id) (fun _ _ => id)
      clear HS hk
      have HS := HS2
      clear HS2
      try simp only [Act.put, List.setIfInBounds_toArray, List.set_cons_succ, List.set_cons_zero]
      refine order_pure (i := 24) rfl (by kernel_rfl) (fun _ _ _ h => h) (.inl ⟨rfl, fun _ => by go_simp; rfl⟩) ?_
      try simp only [Act.put, List.setIfInBounds_toArray, List.set_cons_succ, List.set_cons_zero]
      refine order_pure (i := 25) rfl (by kernel_rfl) (fun _ _ _ h => h) (.inl ⟨rfl, fun _ => by go_simp; rfl⟩) ?_
      try simp only [Act.put, List.setIfInBounds_toArray, List.set_cons_succ, List.set_cons_zero]
      refine order_pure (i := 26) rfl (by kernel_rfl) (fun _ _ _ h => h) (.inl ⟨rfl, fun _ => by go_simp; rfl⟩) ?_
      try simp only [Act.put, List.setIfInBounds_toArray, List.set_cons_succ, List.set_cons_zero]
      refine order_held (i := 27) rfl (by kernel_rfl) (fun _ _ _ h => h) (.inl ⟨rfl, fun W hW => by
        have q0 : W.cell? ⟨w.heap.size, 2, none⟩ = some (.int .i64 nm) := hW.cell id (HBX.out.cell 2)
        go_simp; rfl⟩) HS ?_
      try simp only [Act.put, List.setIfInBounds_toArray, List.set_cons_succ, List.set_cons_zero]
      refine order_pure (i := 28) rfl (by kernel_rfl) (fun _ _ _ h => h) (.inl ⟨rfl, fun _ => by go_simp; rfl⟩) ?_
      try simp only [Act.put, List.setIfInBounds_toArray, List.set_cons_succ, List.set_cons_zero]
      refine order_held (i := 29) rfl (by kernel_rfl) (fun _ _ _ h => h) (.inl ⟨rfl, fun W hW => by
        have q0 : W.cell? ⟨w.heap.size, 4, none⟩ = some (.slice (some ⟨b, o, none⟩) kn kc) := hW.cell id (HBX.out.cell 4)
        go_simp; rfl⟩) HS ?_
      try simp only [Act.put, List.setIfInBounds_toArray, List.set_cons_succ, List.set_cons_zero]
      refine order_pure (i := 30) rfl (by kernel_rfl) (fun _ _ _ h => h) (.inl ⟨rfl, fun _ => by go_simp; rfl⟩) ?_
      try simp only [Act.put, List.setIfInBounds_toArray, List.set_cons_succ, List.set_cons_zero]
      refine order_pure (i := 31) rfl (by kernel_rfl) (fun _ _ _ h => h) (.inl ⟨rfl, fun _ => by go_simp; rfl⟩) ?_
      try simp only [Act.put, List.setIfInBounds_toArray, List.set_cons_succ, List.set_cons_zero]
      refine order_held (i := 32) rfl (by kernel_rfl) (fun _ _ _ h => h) (.inl ⟨rfl, fun W hW => by
        have q0 : W.cell? ⟨b, o + 4, none⟩ = some (.slice (some ⟨b1, o1, none⟩) 3 kc1) := (by have h := hW.cell id HF.out.1; simpa using h)
        go_simp; rfl⟩) HS ?_
      try simp only [Act.put, List.setIfInBounds_toArray, List.set_cons_succ, List.set_cons_zero]
      refine order_pure (i := 33) rfl (by kernel_rfl) (fun _ _ _ h => h) (.inl ⟨rfl, fun _ => by go_simp; rfl⟩) ?_
      try simp only [Act.put, List.setIfInBounds_toArray, List.set_cons_succ, List.set_cons_zero]
      refine order_pure (i := 34) rfl (by kernel_rfl) (fun _ _ _ h => h) (.inl ⟨rfl, fun _ => by go_simp; rfl⟩) ?_
      try simp only [Act.put, List.setIfInBounds_toArray, List.set_cons_succ, List.set_cons_zero]
      refine order_held (i := 35) rfl (by kernel_rfl) (fun _ _ _ h => h) (.inl ⟨rfl, fun W hW => by
        have q0 : W.cell? ⟨b1, o1 + 4, none⟩ = some (.slice ka2 kn2 kc2) := (by have h := hW.cell id HF.out.2; simpa using h)
        go_simp; rfl⟩) HS ?_
      try simp only [Act.put, List.setIfInBounds_toArray, List.set_cons_succ, List.set_cons_zero]
      refine order_pure (i := 36) rfl (by kernel_rfl) (fun _ _ _ h => h) (.inl ⟨rfl, fun _ => by go_simp; rfl⟩) ?_
      try simp only [Act.put, List.setIfInBounds_toArray, List.set_cons_succ, List.set_cons_zero]
      refine order_pure (i := 37) rfl (by kernel_rfl) (fun _ _ _ h => h) (.inl ⟨rfl, fun _ => by go_simp; rfl⟩) ?_
      try simp only [Act.put, List.setIfInBounds_toArray, List.set_cons_succ, List.set_cons_zero]
      refine order_pure (i := 38) rfl (by kernel_rfl) (fun _ _ _ h => h) (.inl ⟨rfl, fun _ => by go_simp; rfl⟩) ?_
      try simp only [Act.put, List.setIfInBounds_toArray, List.set_cons_succ, List.set_cons_zero]
      refine order_pure (i := 39) rfl (by kernel_rfl) (fun _ _ _ h => h) (.inl ⟨rfl, fun _ => by go_simp; rfl⟩) ?_
      try simp only [Act.put, List.setIfInBounds_toArray, List.set_cons_succ, List.set_cons_zero]
      refine order_done (by kernel_rfl) ?_
      go_wp2_with fail
      go_ret
      exact ⟨by rw [HE.out]; rfl, HK.out.trans' HS (fun _ _ => id) (fun _ _ => id)⟩
    · have b6 : (nm == (kn2 : Int)) = false := by simpa using h6
      have HE : Hid (functionN (.mk kd tx nm pl kids) = false) := hide (by rw [hs, decide_eq_false h6]; rfl)
      clear hn hr hc ht hroom hL ho hk1 hkl hs h1 h2 h3 hne hv f4 g4 hp0 hpc hpk e1 e2 ep ea hr1 hc1 hl1 hl2 hu hu2 h6
      go_enter Tryd.func31, Tryd.ntmps31
      go_wp2_with fail
      refine order_begin (fun W => Keeps NoB (w.alloc (.cells #[.int .u8 kd, .string tx, .int .i64 nm, .int .i64 pl, .slice (some ⟨b, o, none⟩) kn kc] 29)) W) (fun _ => true) (by kernel_rfl) 40 rfl ?_
      have HS : Keeps NoB (w.alloc (.cells #[.int .u8 kd, .string tx, .int .i64 nm, .int .i64 pl, .slice (some ⟨b, o, none⟩) kn kc] 29)) ((w.alloc (.cells #[.int .u8 kd, .string tx, .int .i64 nm, .int .i64 pl, .slice (some ⟨b, o, none⟩) kn kc] 29))).drew := (Keeps.refl NoB _).drew
      refine order_pure (i := 0) rfl (by kernel_rfl) (fun _ _ _ h => h) (.inl ⟨rfl, fun _ => by go_simp; rfl⟩) ?_
      try simp only [Act.put, List.setIfInBounds_toArray, List.set_cons_succ, List.set_cons_zero]
      refine order_held (i := 1) rfl (by kernel_rfl) (fun _ _ _ h => h) (.inl ⟨rfl, fun W hW => by
        have q0 : W.cell? ⟨w.heap.size, 0, none⟩ = some (.int .u8 kd) := hW.cell id (HBX.out.cell 0)
        go_simp; rfl⟩) HS ?_
      try simp only [Act.put, List.setIfInBounds_toArray, List.set_cons_succ, List.set_cons_zero]
      refine order_pure (i := 2) rfl (by kernel_rfl) (fun _ _ _ h => h) (.inl ⟨rfl, fun _ => by go_simp; rfl⟩) ?_
      try simp only [Act.put, List.setIfInBounds_toArray, List.set_cons_succ, List.set_cons_zero]
      refine order_pure (i := 3) rfl (by kernel_rfl) (fun _ _ _ h => h) (.inl ⟨rfl, fun _ => by go_simp; rfl⟩) ?_
      try simp only [Act.put, List.setIfInBounds_toArray, List.set_cons_succ, List.set_cons_zero]
      refine order_pure (i := 4) rfl (by kernel_rfl) (fun _ _ _ h => h) (.inl ⟨rfl, fun _ => by go_simp; rfl⟩) ?_
      try simp only [Act.put, List.setIfInBounds_toArray, List.set_cons_succ, List.set_cons_zero]
      refine order_held (i := 5) rfl (by kernel_rfl) (fun _ _ _ h => h) (.inl ⟨rfl, fun W hW => by
        have q0 : W.cell? ⟨w.heap.size, 3, none⟩ = some (.int .i64 pl) := hW.cell id (HBX.out.cell 3)
        go_simp; rfl⟩) HS ?_
      try simp only [Act.put, List.setIfInBounds_toArray, List.set_cons_succ, List.set_cons_zero]
      refine order_pure (i := 6) rfl (by kernel_rfl) (fun _ _ _ h => h) (.inl ⟨rfl, fun _ => by go_simp; rfl⟩) ?_
      try simp only [Act.put, List.setIfInBounds_toArray, List.set_cons_succ, List.set_cons_zero]
      refine order_pure (i := 7) rfl (by kernel_rfl) (fun _ _ _ h => h) (.inl ⟨rfl, fun _ => by go_simp; rfl⟩) ?_
      try simp only [Act.put, List.setIfInBounds_toArray, List.set_cons_succ, List.set_cons_zero]
      refine order_pure (i := 8) rfl (by kernel_rfl) (fun _ _ _ h => h) (.inl ⟨rfl, fun _ => by go_simp; rfl⟩) ?_
      try simp only [Act.put, List.setIfInBounds_toArray, List.set_cons_succ, List.set_cons_zero]
      refine order_pure (i := 9) rfl (by kernel_rfl) (fun _ _ _ h => h) (.inl ⟨rfl, fun _ => by go_simp; rfl⟩) ?_
      try simp only [Act.put, List.setIfInBounds_toArray, List.set_cons_succ, List.set_cons_zero]
      refine order_held (i := 10) rfl (by kernel_rfl) (fun _ _ _ h => h) (.inl ⟨rfl, fun W hW => by
        have q0 : W.cell? ⟨w.heap.size, 1, none⟩ = some (.string tx) := hW.cell id (HBX.out.cell 1)
        go_simp; rfl⟩) HS ?_
      try simp only [Act.put, List.setIfInBounds_toArray, List.set_cons_succ, List.set_cons_zero]
      refine order_pure (i := 11) rfl (by kernel_rfl) (fun _ _ _ h => h) (.inl ⟨rfl, fun _ => by go_simp; rfl⟩) ?_
      try simp only [Act.put, List.setIfInBounds_toArray, List.set_cons_succ, List.set_cons_zero]
      refine order_pure (i := 12) rfl (by kernel_rfl) (fun _ _ _ h => h) (.inl ⟨rfl, fun _ => by go_simp; rfl⟩) ?_
      try simp only [Act.put, List.setIfInBounds_toArray, List.set_cons_succ, List.set_cons_zero]
      refine order_pure (i := 13) rfl (by kernel_rfl) (fun _ _ _ h => h) (.inl ⟨rfl, fun _ => by go_simp; rfl⟩) ?_
      try simp only [Act.put, List.setIfInBounds_toArray, List.set_cons_succ, List.set_cons_zero]
      refine order_pure (i := 14) rfl (by kernel_rfl) (fun _ _ _ h => h) (.inl ⟨rfl, fun _ => by go_simp; rfl⟩) ?_
      try simp only [Act.put, List.setIfInBounds_toArray, List.set_cons_succ, List.set_cons_zero]
      refine order_pure (i := 15) rfl (by kernel_rfl) (fun _ _ _ h => h) (.inl ⟨rfl, fun _ => by go_simp; rfl⟩) ?_
      try simp only [Act.put, List.setIfInBounds_toArray, List.set_cons_succ, List.set_cons_zero]
      refine order_held (i := 16) rfl (by kernel_rfl) (fun _ _ _ h => h) (.inl ⟨rfl, fun W hW => by
        have q0 : W.cell? ⟨w.heap.size, 4, none⟩ = some (.slice (some ⟨b, o, none⟩) kn kc) := hW.cell id (HBX.out.cell 4)
        go_simp; rfl⟩) HS ?_
      try simp only [Act.put, List.setIfInBounds_toArray, List.set_cons_succ, List.set_cons_zero]
      refine order_pure (i := 17) rfl (by kernel_rfl) (fun _ _ _ h => h) (.inl ⟨rfl, fun _ => by go_simp; rfl⟩) ?_
      try simp only [Act.put, List.setIfInBounds_toArray, List.set_cons_succ, List.set_cons_zero]
      refine order_pure (i := 18) rfl (by kernel_rfl) (fun _ _ _ h => h) (.inl ⟨rfl, fun _ => by go_simp; rfl⟩) ?_
      try simp only [Act.put, List.setIfInBounds_toArray, List.set_cons_succ, List.set_cons_zero]
      refine order_pure (i := 19) rfl (by kernel_rfl) (fun _ _ _ h => h) (.inl ⟨rfl, fun _ => by go_simp; rfl⟩) ?_
      try simp only [Act.put, List.setIfInBounds_toArray, List.set_cons_succ, List.set_cons_zero]
      refine order_pure (i := 20) rfl (by kernel_rfl) (fun _ _ _ h => h) (.inl ⟨rfl, fun _ => by go_simp; rfl⟩) ?_
      try simp only [Act.put, List.setIfInBounds_toArray, List.set_cons_succ, List.set_cons_zero]
      refine order_pure (i := 21) rfl (by kernel_rfl) (fun _ _ _ h => h) (.inl ⟨rfl, fun _ => by go_simp; rfl⟩) ?_
      try simp only [Act.put, List.setIfInBounds_toArray, List.set_cons_succ, List.set_cons_zero]
      refine order_held (i := 22) rfl (by kernel_rfl) (fun _ _ _ h => h) (.inl ⟨rfl, fun W hW => by
        have q0 : W.cell? ⟨w.heap.size, 4, none⟩ = some (.slice (some ⟨b, o, none⟩) kn kc) := hW.cell id (HBX.out.cell 4)
        go_simp; rfl⟩) HS ?_
      try simp only [Act.put, List.setIfInBounds_toArray, List.set_cons_succ, List.set_cons_zero]
      refine order_one (i := 23) rfl (by kernel_rfl) (fun K hK => ?_)
      go_simp
      refine (P1.out _ (HK.out.trans' HS (fun _ _ => id) (fun _ _ => id))).mono ?_
      rintro e w2 ⟨rfl, hk⟩
      rw [HV.out]
      refine hK _ _ (fun _ hS => hS.trans' hk (fun _ _ => id) (fun _ _ => id)) ?_
      clear hK
      have HS2 : Keeps NoB (w.alloc (.cells #[.int .u8 kd, .string tx, .int .i64 nm, .int .i64 pl, .slice (some ⟨b, o, none⟩) kn kc] 29)) w2 := HS.trans' hk (fun _ _ => id) (fun _ _ => id)
      clear HS hk
      have HS := HS2
      clear HS2
      try simp only [Act.put, List.setIfInBounds_toArray, List.set_cons_succ, List.set_cons_zero]
      refine order_pure (i := 24) rfl (by kernel_rfl) (fun _ _ _ h => h) (.inl ⟨rfl, fun _ => by go_simp; rfl⟩) ?_
      try simp only [Act.put, List.setIfInBounds_toArray, List.set_cons_succ, List.set_cons_zero]
      refine order_pure (i := 25) rfl (by kernel_rfl) (fun _ _ _ h => h) (.inl ⟨rfl, fun _ => by go_simp; rfl⟩) ?_
      try simp only [Act.put, List.setIfInBounds_toArray, List.set_cons_succ, List.set_cons_zero]
      refine order_pure (i := 26) rfl (by kernel_rfl) (fun _ _ _ h => h) (.inl ⟨rfl, fun _ => by go_simp; rfl⟩) ?_
      try simp only [Act.put, List.setIfInBounds_toArray, List.set_cons_succ, List.set_cons_zero]
      refine order_held (i := 27) rfl (by kernel_rfl) (fun _ _ _ h => h) (.inl ⟨rfl, fun W hW => by
        have q0 : W.cell? ⟨w.heap.size, 2, none⟩ = some (.int .i64 nm) := hW.cell id (HBX.out.cell 2)
        go_simp; rfl⟩) HS ?_
      try simp only [Act.put, List.setIfInBounds_toArray, List.set_cons_succ, List.set_cons_zero]
      refine order_pure (i := 28) rfl (by kernel_rfl) (fun _ _ _ h => h) (.inl ⟨rfl, fun _ => by go_simp; rfl⟩) ?_
      try simp only [Act.put, List.setIfInBounds_toArray, List.set_cons_succ, List.set_cons_zero]
      refine order_held (i := 29) rfl (by kernel_rfl) (fun _ _ _ h => h) (.inl ⟨rfl, fun W hW => by
        have q0 : W.cell? ⟨w.heap.size, 4, none⟩ = some (.slice (some ⟨b, o, none⟩) kn kc) := hW.cell id (HBX.out.cell 4)
        go_simp; rfl⟩) HS ?_
      try simp only [Act.put, List.setIfInBounds_toArray, List.set_cons_succ, List.set_cons_zero]
      refine order_pure (i := 30) rfl (by kernel_rfl) (fun _ _ _ h => h) (.inl ⟨rfl, fun _ => by go_simp; rfl⟩) ?_
      try simp only [Act.put, List.setIfInBounds_toArray, List.set_cons_succ, List.set_cons_zero]
      refine order_pure (i := 31) rfl (by kernel_rfl) (fun _ _ _ h => h) (.inl ⟨rfl, fun _ => by go_simp; rfl⟩) ?_
      try simp only [Act.put, List.setIfInBounds_toArray, List.set_cons_succ, List.set_cons_zero]
      refine order_held (i := 32) rfl (by kernel_rfl) (fun _ _ _ h => h) (.inl ⟨rfl, fun W hW => by
        have q0 : W.cell? ⟨b, o + 4, none⟩ = some (.slice (some ⟨b1, o1, none⟩) 3 kc1) := (by have h := hW.cell id HF.out.1; simpa using h)
        go_simp; rfl⟩) HS ?_
      try simp only [Act.put, List.setIfInBounds_toArray, List.set_cons_succ, List.set_cons_zero]
      refine order_pure (i := 33) rfl (by kernel_rfl) (fun _ _ _ h => h) (.inl ⟨rfl, fun _ => by go_simp; rfl⟩) ?_
      try simp only [Act.put, List.setIfInBounds_toArray, List.set_cons_succ, List.set_cons_zero]
      refine order_pure (i := 34) rfl (by kernel_rfl) (fun _ _ _ h => h) (.inl ⟨rfl, fun _ => by go_simp; rfl⟩) ?_
      try simp only [Act.put, List.setIfInBounds_toArray, List.set_cons_succ, List.set_cons_zero]
      refine order_held (i := 35) rfl (by kernel_rfl) (fun _ _ _ h => h) (.inl ⟨rfl, fun W hW => by
        have q0 : W.cell? ⟨b1, o1 + 4, none⟩ = some (.slice ka2 kn2 kc2) := (by have h := hW.cell id HF.out.2; simpa using h)
        go_simp; rfl⟩) HS ?_
      try simp only [Act.put, List.setIfInBounds_toArray, List.set_cons_succ, List.set_cons_zero]
      refine order_pure (i := 36) rfl (by kernel_rfl) (fun _ _ _ h => h) (.inl ⟨rfl, fun _ => by go_simp; rfl⟩) ?_
      try simp only [Act.put, List.setIfInBounds_toArray, List.set_cons_succ, List.set_cons_zero]
      refine order_pure (i := 37) rfl (by kernel_rfl) (fun _ _ _ h => h) (.inl ⟨rfl, fun _ => by go_simp; rfl⟩) ?_
      try simp only [Act.put, List.setIfInBounds_toArray, List.set_cons_succ, List.set_cons_zero]
      refine order_pure (i := 38) rfl (by kernel_rfl) (fun _ _ _ h => h) (.inl ⟨rfl, fun _ => by go_simp; rfl⟩) ?_
      try simp only [Act.put, List.setIfInBounds_toArray, List.set_cons_succ, List.set_cons_zero]
      refine order_pure (i := 39) rfl (by kernel_rfl) (fun _ _ _ h => h) (.inl ⟨rfl, fun _ => by go_simp; rfl⟩) ?_
      try simp only [Act.put, List.setIfInBounds_toArray, List.set_cons_succ, List.set_cons_zero]
      refine order_done (by kernel_rfl) ?_
      go_wp2_with fail
      go_ret
      exact ⟨by rw [HE.out]; rfl, HK.out.trans' HS (fun _ _ => id) (fun _ _ => id)⟩
end Go.Proofs.YtincajfanhanjaaDoor
