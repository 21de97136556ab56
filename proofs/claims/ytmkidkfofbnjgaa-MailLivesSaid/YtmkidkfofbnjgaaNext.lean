/- (*mail.Box).Next, Skip, Len, All: what they tell. -/
import Derived.Test.YtmkidkfofbnjgaaSmall
namespace Go.Proofs.Ytmkidkfofbnjgaa
open Go.RowKit

theorem skip_yes (b : Nat) (sv : Value) (L : List Lt) (i : Nat) (w : World) (h : BoxAt w b sv L i) (hi : i < L.length) (hl : L.length ≤ 1024) :
    Calls Try.prog 14 #[.pointer (some ⟨b, 0, none⟩)] w fun e w' => e = .returned (.int .i64 0) ∧ BoxAt w' b sv L (i + 1) ∧ Keeps (fun k => k = b) w w' := by
  obtain ⟨A, c, hsv, hnc, _⟩ := ownsRow_mk h.row
  subst hsv
  have hk2 : w.cell? ⟨b, 2, none⟩ = some (.bool true) := h.blk.cell 2
  have hk1 : w.cell? ⟨b, 1, none⟩ = some (.int .i64 i) := h.blk.cell 1
  have hk0 : w.cell? ⟨b, 0, none⟩ = some (.slice A L.length c) := h.blk.cell 0
  have hf1 : w.frozen? ⟨b, 1, none⟩ = false := h.blk.free 1
  have H := hide h; clear h
  go_enter Try.func14, Try.ntmps14
  go_wp2_with (go_at_call 32; refine (known_at b true _ hk2).mono ?_; rintro e w' ⟨rfl, rfl⟩)
  go_quiet (fail)
  go_wp2
  go_ret
  refine ⟨rfl, ⟨H.out.blk.put 1 _, ?_, ?_, H.out.off, H.out.apart⟩, ((Keeps.refl (fun k => k = b) w).drewN _).setCell (p := ⟨b, 1, none⟩) (.inl rfl) _⟩
  · exact ownsRow_keep H.out.row (((Keeps.refl (fun k => k = b) w).drewN _).setCell (p := ⟨b, 1, none⟩) (.inl rfl) _) (fun g hg e => H.out.sep (by rw [hg, e]))
  · exact fun x hx => (H.out.ok x hx).keep (((Keeps.refl (fun k => k = b) w).drewN _).setCell (p := ⟨b, 1, none⟩) (.inl rfl) _) (fun k e => by subst e; exact (H.out.off x hx).1)

theorem skip_no (b : Nat) (sv : Value) (L : List Lt) (i : Nat) (w : World) (h : BoxAt w b sv L i) (hi : L.length ≤ i) :
    Calls Try.prog 14 #[.pointer (some ⟨b, 0, none⟩)] w fun e w' => e = .returned (.int .i64 6) ∧ Keeps NoB w w' := by
  obtain ⟨A, c, hsv, hnc, _⟩ := ownsRow_mk h.row
  subst hsv
  have hk2 : w.cell? ⟨b, 2, none⟩ = some (.bool true) := h.blk.cell 2
  have hk1 : w.cell? ⟨b, 1, none⟩ = some (.int .i64 i) := h.blk.cell 1
  have hk0 : w.cell? ⟨b, 0, none⟩ = some (.slice A L.length c) := h.blk.cell 0
  have H := hide h; clear h
  go_enter Try.func14, Try.ntmps14
  go_wp2_with (go_at_call 32; refine (known_at b true _ hk2).mono ?_; rintro e w' ⟨rfl, rfl⟩)
  go_quiet (fail)
  go_wp2
  go_ret
  exact ⟨rfl, (Keeps.refl _ w).drewN _⟩

theorem begin_box (b : Nat) (sv : Value) (L : List Lt) (i : Nat) (w : World) (h : BoxAt w b sv L i) :
    Calls Try.prog 23 #[.pointer (some ⟨b, 0, none⟩)] w fun e w' => e = .returned (.tuple #[]) ∧ BoxAt w' b sv L 0 ∧ Keeps (fun k => k = b) w w' := by
  refine (begin_at b i w (h.blk.cell 1) (h.blk.free 1) (h.blk.cell 2)).mono ?_
  rintro e w' ⟨he, rfl⟩
  have hk := (Keeps.refl (fun k => k = b) w).setCell (p := ⟨b, 1, none⟩) (.inl rfl) (.int .i64 0)
  exact ⟨he, ⟨h.blk.put 1 _, ownsRow_keep h.row hk (fun g hg e => h.sep (by rw [hg, e])), fun x hx => (h.ok x hx).keep hk (fun k e => by subst e; exact (h.off x hx).1), h.off, h.apart⟩, hk⟩

theorem len_box (b : Nat) (sv : Value) (L : List Lt) (i : Nat) (w : World) (h : BoxAt w b sv L i) :
    Calls Try.prog 13 #[.pointer (some ⟨b, 0, none⟩)] w fun e w' => e = .returned (.int .i64 L.length) ∧ w = w' := by
  obtain ⟨A, c, hsv, hnc, _⟩ := ownsRow_mk h.row
  subst hsv
  exact len_at b A L.length c w (h.blk.cell 0) (h.blk.cell 2)

set_option maxRecDepth 100000 in
theorem next_nil (w : World) : Calls Try.prog 26 #[.pointer none] w fun e w' => e = .returned (.tuple #[.agg zeroT, .bool false]) ∧ Below w.heap.size w w' := by
  go_enter Try.func26, Try.ntmps26
  go_wp2_with fail
  refine order_begin (fun _ => True) (fun _ => true) (by kernel_rfl) 15 rfl ?_
  have HS : True := trivial
  refine order_pure (i := 0) rfl (by kernel_rfl) (fun _ _ _ h => h) (.inl ⟨rfl, fun _ => by go_simp; rfl⟩) ?_
  try simp only [Act.put, List.setIfInBounds_toArray, List.set_cons_succ, List.set_cons_zero]
  refine order_one (i := 1) rfl (by kernel_rfl) (fun K hK => ?_)
  go_simp
  refine (known_nil _).mono ?_
  rintro e w' ⟨rfl, rfl⟩
  refine hK _ _ (fun _ h => h) ?_
  clear hK
  try simp only [Act.put, List.setIfInBounds_toArray, List.set_cons_succ, List.set_cons_zero]
  refine order_pure (i := 2) rfl (by kernel_rfl) (fun _ _ _ h => h) (.inl ⟨rfl, fun _ => by go_simp; rfl⟩) ?_
  try simp only [Act.put, List.setIfInBounds_toArray, List.set_cons_succ, List.set_cons_zero]
  refine order_pure (i := 3) rfl (by kernel_rfl) (fun _ _ _ h => h) (.inl ⟨rfl, fun _ => by go_simp; rfl⟩) ?_
  try simp only [Act.put, List.setIfInBounds_toArray, List.set_cons_succ, List.set_cons_zero]
  refine order_skip (i := 4) rfl (by kernel_rfl) (fun _ _ _ h => h) (by kernel_rfl) ?_
  try simp only [Act.put, List.setIfInBounds_toArray, List.set_cons_succ, List.set_cons_zero]
  refine order_skip (i := 5) rfl (by kernel_rfl) (fun _ _ _ h => h) (by kernel_rfl) ?_
  try simp only [Act.put, List.setIfInBounds_toArray, List.set_cons_succ, List.set_cons_zero]
  refine order_skip (i := 6) rfl (by kernel_rfl) (fun _ _ _ h => h) (by kernel_rfl) ?_
  try simp only [Act.put, List.setIfInBounds_toArray, List.set_cons_succ, List.set_cons_zero]
  refine order_skip (i := 7) rfl (by kernel_rfl) (fun _ _ _ h => h) (by kernel_rfl) ?_
  try simp only [Act.put, List.setIfInBounds_toArray, List.set_cons_succ, List.set_cons_zero]
  refine order_skip (i := 8) rfl (by kernel_rfl) (fun _ _ _ h => h) (by kernel_rfl) ?_
  try simp only [Act.put, List.setIfInBounds_toArray, List.set_cons_succ, List.set_cons_zero]
  refine order_skip (i := 9) rfl (by kernel_rfl) (fun _ _ _ h => h) (by kernel_rfl) ?_
  try simp only [Act.put, List.setIfInBounds_toArray, List.set_cons_succ, List.set_cons_zero]
  refine order_skip (i := 10) rfl (by kernel_rfl) (fun _ _ _ h => h) (by kernel_rfl) ?_
  try simp only [Act.put, List.setIfInBounds_toArray, List.set_cons_succ, List.set_cons_zero]
  refine order_skip (i := 11) rfl (by kernel_rfl) (fun _ _ _ h => h) (by kernel_rfl) ?_
  try simp only [Act.put, List.setIfInBounds_toArray, List.set_cons_succ, List.set_cons_zero]
  refine order_skip (i := 12) rfl (by kernel_rfl) (fun _ _ _ h => h) (by kernel_rfl) ?_
  try simp only [Act.put, List.setIfInBounds_toArray, List.set_cons_succ, List.set_cons_zero]
  refine order_skip (i := 13) rfl (by kernel_rfl) (fun _ _ _ h => h) (by kernel_rfl) ?_
  try simp only [Act.put, List.setIfInBounds_toArray, List.set_cons_succ, List.set_cons_zero]
  refine order_pure (i := 14) rfl (by kernel_rfl) (fun _ _ _ h => h) (.inl ⟨rfl, fun _ => by go_simp; rfl⟩) ?_
  try simp only [Act.put, List.setIfInBounds_toArray, List.set_cons_succ, List.set_cons_zero]
  refine order_done (by kernel_rfl) ?_
  go_wp2
  exact bodyPost_ret (v := .tuple #[.agg zeroT, .bool false]) (by simp [results, Try.results26, go_sem]; rfl) rfl ⟨rfl, ((Below.refl _ _).alloc (Nat.le_refl _) _).drew⟩

set_option maxRecDepth 100000 in
theorem next_unmade (b : Nat) (w : World) (h : w.cell? ⟨b, 2, none⟩ = some (.bool false)) : Calls Try.prog 26 #[.pointer (some ⟨b, 0, none⟩)] w fun e w' => e = .returned (.tuple #[.agg zeroT, .bool false]) ∧ Below w.heap.size w w' := by
  have h' : (w.alloc (.cells zeroT 33)).drew.cell? ⟨b, 2, none⟩ = some (.bool false) := (World.cell?_alloc_lt _ _ _ (World.block_lt_of_cell? w _ h)).trans h
  have H := hide h'; clear h'
  go_enter Try.func26, Try.ntmps26
  go_wp2_with fail
  refine order_begin (fun _ => True) (fun _ => true) (by kernel_rfl) 15 rfl ?_
  have HS : True := trivial
  refine order_pure (i := 0) rfl (by kernel_rfl) (fun _ _ _ h => h) (.inl ⟨rfl, fun _ => by go_simp; rfl⟩) ?_
  try simp only [Act.put, List.setIfInBounds_toArray, List.set_cons_succ, List.set_cons_zero]
  refine order_one (i := 1) rfl (by kernel_rfl) (fun K hK => ?_)
  go_simp
  refine (known_at b false _ H.out).mono ?_
  rintro e w' ⟨rfl, rfl⟩
  refine hK _ _ (fun _ h => h) ?_
  clear hK
  try simp only [Act.put, List.setIfInBounds_toArray, List.set_cons_succ, List.set_cons_zero]
  refine order_pure (i := 2) rfl (by kernel_rfl) (fun _ _ _ h => h) (.inl ⟨rfl, fun _ => by go_simp; rfl⟩) ?_
  try simp only [Act.put, List.setIfInBounds_toArray, List.set_cons_succ, List.set_cons_zero]
  refine order_pure (i := 3) rfl (by kernel_rfl) (fun _ _ _ h => h) (.inl ⟨rfl, fun _ => by go_simp; rfl⟩) ?_
  try simp only [Act.put, List.setIfInBounds_toArray, List.set_cons_succ, List.set_cons_zero]
  refine order_skip (i := 4) rfl (by kernel_rfl) (fun _ _ _ h => h) (by kernel_rfl) ?_
  try simp only [Act.put, List.setIfInBounds_toArray, List.set_cons_succ, List.set_cons_zero]
  refine order_skip (i := 5) rfl (by kernel_rfl) (fun _ _ _ h => h) (by kernel_rfl) ?_
  try simp only [Act.put, List.setIfInBounds_toArray, List.set_cons_succ, List.set_cons_zero]
  refine order_skip (i := 6) rfl (by kernel_rfl) (fun _ _ _ h => h) (by kernel_rfl) ?_
  try simp only [Act.put, List.setIfInBounds_toArray, List.set_cons_succ, List.set_cons_zero]
  refine order_skip (i := 7) rfl (by kernel_rfl) (fun _ _ _ h => h) (by kernel_rfl) ?_
  try simp only [Act.put, List.setIfInBounds_toArray, List.set_cons_succ, List.set_cons_zero]
  refine order_skip (i := 8) rfl (by kernel_rfl) (fun _ _ _ h => h) (by kernel_rfl) ?_
  try simp only [Act.put, List.setIfInBounds_toArray, List.set_cons_succ, List.set_cons_zero]
  refine order_skip (i := 9) rfl (by kernel_rfl) (fun _ _ _ h => h) (by kernel_rfl) ?_
  try simp only [Act.put, List.setIfInBounds_toArray, List.set_cons_succ, List.set_cons_zero]
  refine order_skip (i := 10) rfl (by kernel_rfl) (fun _ _ _ h => h) (by kernel_rfl) ?_
  try simp only [Act.put, List.setIfInBounds_toArray, List.set_cons_succ, List.set_cons_zero]
  refine order_skip (i := 11) rfl (by kernel_rfl) (fun _ _ _ h => h) (by kernel_rfl) ?_
  try simp only [Act.put, List.setIfInBounds_toArray, List.set_cons_succ, List.set_cons_zero]
  refine order_skip (i := 12) rfl (by kernel_rfl) (fun _ _ _ h => h) (by kernel_rfl) ?_
  try simp only [Act.put, List.setIfInBounds_toArray, List.set_cons_succ, List.set_cons_zero]
  refine order_skip (i := 13) rfl (by kernel_rfl) (fun _ _ _ h => h) (by kernel_rfl) ?_
  try simp only [Act.put, List.setIfInBounds_toArray, List.set_cons_succ, List.set_cons_zero]
  refine order_pure (i := 14) rfl (by kernel_rfl) (fun _ _ _ h => h) (.inl ⟨rfl, fun _ => by go_simp; rfl⟩) ?_
  try simp only [Act.put, List.setIfInBounds_toArray, List.set_cons_succ, List.set_cons_zero]
  refine order_done (by kernel_rfl) ?_
  go_wp2
  exact bodyPost_ret (v := .tuple #[.agg zeroT, .bool false]) (by simp [results, Try.results26, go_sem]; rfl) rfl ⟨rfl, ((Below.refl _ _).alloc (Nat.le_refl _) _).drew⟩

set_option maxRecDepth 100000 in
theorem next_no (b : Nat) (sv : Value) (L : List Lt) (i : Nat) (w : World) (h : BoxAt w b sv L i) (hi : L.length ≤ i) :
    Calls Try.prog 26 #[.pointer (some ⟨b, 0, none⟩)] w fun e w' => e = .returned (.tuple #[.agg zeroT, .bool false]) ∧ Keeps NoB w w' := by
  obtain ⟨A, c, hsv, hnc, _⟩ := ownsRow_mk h.row
  subst hsv
  have HS0 : Blk (w.alloc (.cells zeroT 33)).drew b 61 #[.slice A L.length c, .int .i64 i, .bool true] := (h.blk.alloc _).drew
  go_enter Try.func26, Try.ntmps26
  go_wp2_with fail
  refine order_begin (fun W => Blk W b 61 #[.slice A L.length c, .int .i64 i, .bool true]) (fun _ => true) (by kernel_rfl) 15 rfl ?_
  have HS := HS0; clear HS0
  refine order_pure (i := 0) rfl (by kernel_rfl) (fun _ _ _ h => h) (.inl ⟨rfl, fun _ => by go_simp; rfl⟩) ?_
  try simp only [Act.put, List.setIfInBounds_toArray, List.set_cons_succ, List.set_cons_zero]
  refine order_one (i := 1) rfl (by kernel_rfl) (fun K hK => ?_)
  go_simp
  refine (known_at b true _ (HS.cell 2)).mono ?_
  rintro e w' ⟨rfl, rfl⟩
  refine hK _ _ (fun _ h => h) ?_
  clear hK
  try simp only [Act.put, List.setIfInBounds_toArray, List.set_cons_succ, List.set_cons_zero]
  refine order_pure (i := 2) rfl (by kernel_rfl) (fun _ _ _ h => h) (.inl ⟨rfl, fun _ => by go_simp; rfl⟩) ?_
  try simp only [Act.put, List.setIfInBounds_toArray, List.set_cons_succ, List.set_cons_zero]
  refine order_pure (i := 3) rfl (by kernel_rfl) (fun _ _ _ h => h) (.inl ⟨rfl, fun _ => by go_simp; rfl⟩) ?_
  try simp only [Act.put, List.setIfInBounds_toArray, List.set_cons_succ, List.set_cons_zero]
  refine order_pure (i := 4) rfl (by kernel_rfl) (fun _ _ _ h => h) (.inl ⟨rfl, fun _ => by go_simp; rfl⟩) ?_
  try simp only [Act.put, List.setIfInBounds_toArray, List.set_cons_succ, List.set_cons_zero]
  refine order_pure (i := 5) rfl (by kernel_rfl) (fun _ _ _ h => h) (.inl ⟨rfl, fun _ => by go_simp; rfl⟩) ?_
  try simp only [Act.put, List.setIfInBounds_toArray, List.set_cons_succ, List.set_cons_zero]
  refine order_pure (i := 6) rfl (by kernel_rfl) (fun _ _ _ h => h) (.inl ⟨rfl, fun _ => by go_simp; rfl⟩) ?_
  try simp only [Act.put, List.setIfInBounds_toArray, List.set_cons_succ, List.set_cons_zero]
  refine order_held (i := 7) rfl (by kernel_rfl) (fun _ _ _ h => h) (.inl ⟨rfl, fun W hW => by
    have q0 : W.cell? ⟨b, 1, none⟩ = some (.int .i64 i) := hW.cell 1
    go_simp; rfl⟩) HS ?_
  try simp only [Act.put, List.setIfInBounds_toArray, List.set_cons_succ, List.set_cons_zero]
  refine order_pure (i := 8) rfl (by kernel_rfl) (fun _ _ _ h => h) (.inl ⟨rfl, fun _ => by go_simp; rfl⟩) ?_
  try simp only [Act.put, List.setIfInBounds_toArray, List.set_cons_succ, List.set_cons_zero]
  refine order_pure (i := 9) rfl (by kernel_rfl) (fun _ _ _ h => h) (.inl ⟨rfl, fun _ => by go_simp; rfl⟩) ?_
  try simp only [Act.put, List.setIfInBounds_toArray, List.set_cons_succ, List.set_cons_zero]
  refine order_pure (i := 10) rfl (by kernel_rfl) (fun _ _ _ h => h) (.inl ⟨rfl, fun _ => by go_simp; rfl⟩) ?_
  try simp only [Act.put, List.setIfInBounds_toArray, List.set_cons_succ, List.set_cons_zero]
  refine order_held (i := 11) rfl (by kernel_rfl) (fun _ _ _ h => h) (.inl ⟨rfl, fun W hW => by
    have q0 : W.cell? ⟨b, 0, none⟩ = some (.slice A L.length c) := hW.cell 0
    go_simp; rfl⟩) HS ?_
  try simp only [Act.put, List.setIfInBounds_toArray, List.set_cons_succ, List.set_cons_zero]
  refine order_pure (i := 12) rfl (by kernel_rfl) (fun _ _ _ h => h) (.inl ⟨rfl, fun _ => by go_simp; rfl⟩) ?_
  try simp only [Act.put, List.setIfInBounds_toArray, List.set_cons_succ, List.set_cons_zero]
  refine order_pure (i := 13) rfl (by kernel_rfl) (fun _ _ _ h => h) (.inl ⟨rfl, fun _ => by go_simp; rfl⟩) ?_
  try simp only [Act.put, List.setIfInBounds_toArray, List.set_cons_succ, List.set_cons_zero]
  refine order_pure (i := 14) rfl (by kernel_rfl) (fun _ _ _ h => h) (.inl ⟨rfl, fun _ => by go_simp; rfl⟩) ?_
  try simp only [Act.put, List.setIfInBounds_toArray, List.set_cons_succ, List.set_cons_zero]
  refine order_done (by kernel_rfl) ?_
  clear HS
  go_wp2
  exact bodyPost_ret (v := .tuple #[.agg zeroT, .bool false]) (by simp [results, Try.results26, go_sem]; rfl) rfl ⟨rfl, ((Keeps.refl NoB w).alloc _).drew⟩

end Go.Proofs.Ytmkidkfofbnjgaa
