/- (*mail.Box).Next, Skip, Len, All: what they tell. (*mail.Box).Take: a letter is taken out. (*mail.Box).Next: a letter is told, as a copy. (*mail.Box).Put. letter; flat terms; (*mail.Box).All. -/
import Derived.Test.YtmkidkfofbnjgaaSmallJn
import Derived.Test.YtmkidkfofbnjgaaMoreJn
import Derived.Test.YtmkidkfofbnjgaaSameTsJn
namespace Go.Proofs.Ytmkidkfofbnjgaa
open Go.RowKit

theorem skip_yes (b : Nat) (sv : Value) (L : List Lt) (i : Nat) (w : World) (h : BoxAt w b sv L i) (hi : i < L.length) (hl : L.length ≤ 1024) :
    Calls Try.prog 14 #[.pointer (some ⟨b, 0, none⟩)] w fun e w' => e = .returned (.int .i64 0) ∧ BoxAt w' b sv L (i + 1) ∧ Keeps (fun k => k = b) w w' := by
  obtain ⟨A, c, hsv, hnc, _⟩ := ownsRow_mk h.row
  subst hsv
  have hk2 : w.cell? ⟨b, 2, none⟩ = some (.bool true) := h.blk.cell 2
  have hk1 : w.cell? ⟨b, 1, none⟩ = some (.int .i64 i) := h.blk.cell 1
  have hk0 : w.cell? ⟨b, 0, none⟩ = some (.slice A L.length c) := h.blk.cell 0
  have hf1 : w.frozen? ⟨b, 1, none⟩ = false := h.blk.free 1
  have H := hide h; clear h
  go_enter Try.func14, Try.ntmps14
  go_wp2_with (go_at_call 32; refine (known_at b true _ hk2).mono ?_; rintro e w' ⟨rfl, rfl⟩)
  go_quiet (fail)
  go_wp2
  go_ret
  refine ⟨rfl, ⟨H.out.blk.put 1 _, ?_, ?_, H.out.off, H.out.apart⟩, ((Keeps.refl (fun k => k = b) w).drewN _).setCell (p := ⟨b, 1, none⟩) (.inl rfl) _⟩
  · exact ownsRow_keep H.out.row (((Keeps.refl (fun k => k = b) w).drewN _).setCell (p := ⟨b, 1, none⟩) (.inl rfl) _) (fun g hg e => H.out.sep (by rw [hg, e]))
  · exact fun x hx => (H.out.ok x hx).keep (((Keeps.refl (fun k => k = b) w).drewN _).setCell (p := ⟨b, 1, none⟩) (.inl rfl) _) (fun k e => by subst e; exact (H.out.off x hx).1)

theorem skip_no (b : Nat) (sv : Value) (L : List Lt) (i : Nat) (w : World) (h : BoxAt w b sv L i) (hi : L.length ≤ i) :
    Calls Try.prog 14 #[.pointer (some ⟨b, 0, none⟩)] w fun e w' => e = .returned (.int .i64 6) ∧ Keeps NoB w w' := by
  obtain ⟨A, c, hsv, hnc, _⟩ := ownsRow_mk h.row
  subst hsv
  have hk2 : w.cell? ⟨b, 2, none⟩ = some (.bool true) := h.blk.cell 2
  have hk1 : w.cell? ⟨b, 1, none⟩ = some (.int .i64 i) := h.blk.cell 1
  have hk0 : w.cell? ⟨b, 0, none⟩ = some (.slice A L.length c) := h.blk.cell 0
  have H := hide h; clear h
  go_enter Try.func14, Try.ntmps14
  go_wp2_with (go_at_call 32; refine (known_at b true _ hk2).mono ?_; rintro e w' ⟨rfl, rfl⟩)
  go_quiet (fail)
  go_wp2
  go_ret
  exact ⟨rfl, (Keeps.refl _ w).drewN _⟩

theorem begin_box (b : Nat) (sv : Value) (L : List Lt) (i : Nat) (w : World) (h : BoxAt w b sv L i) :
    Calls Try.prog 23 #[.pointer (some ⟨b, 0, none⟩)] w fun e w' => e = .returned (.tuple #[]) ∧ BoxAt w' b sv L 0 ∧ Keeps (fun k => k = b) w w' := by
  refine (begin_at b i w (h.blk.cell 1) (h.blk.free 1) (h.blk.cell 2)).mono ?_
  rintro e w' ⟨he, rfl⟩
  have hk := (Keeps.refl (fun k => k = b) w).setCell (p := ⟨b, 1, none⟩) (.inl rfl) (.int .i64 0)
  exact ⟨he, ⟨h.blk.put 1 _, ownsRow_keep h.row hk (fun g hg e => h.sep (by rw [hg, e])), fun x hx => (h.ok x hx).keep hk (fun k e => by subst e; exact (h.off x hx).1), h.off, h.apart⟩, hk⟩

theorem len_box (b : Nat) (sv : Value) (L : List Lt) (i : Nat) (w : World) (h : BoxAt w b sv L i) :
    Calls Try.prog 13 #[.pointer (some ⟨b, 0, none⟩)] w fun e w' => e = .returned (.int .i64 L.length) ∧ w = w' := by
  obtain ⟨A, c, hsv, hnc, _⟩ := ownsRow_mk h.row
  subst hsv
  exact len_at b A L.length c w (h.blk.cell 0) (h.blk.cell 2)

set_option maxRecDepth 100000 in
theorem next_nil (w : World) : Calls Try.prog 26 #[.pointer none] w fun e w' => e = .returned (.tuple #[.agg zeroT, .bool false]) ∧ Below w.heap.size w w' := by
  go_enter Try.func26, Try.ntmps26
  go_wp2_with fail
  refine order_begin (fun _ => True) (fun _ => true) (by kernel_rfl) 15 rfl ?_
  have HS : True := trivial
  refine order_pure (i := 0) rfl (by kernel_rfl) (fun _ _ _ h => h) (.inl ⟨rfl, fun _ => by go_simp; rfl⟩) ?_
  try simp only [Act.put, List.setIfInBounds_toArray, List.set_cons_succ, List.set_cons_zero]
  refine order_one (i := 1) rfl (by kernel_rfl) (fun K hK => ?_)
  go_simp
  refine (known_nil _).mono ?_
  rintro e w' ⟨rfl, rfl⟩
  refine hK _ _ (fun _ h => h) ?_
  clear hK
  try simp only [Act.put, List.setIfInBounds_toArray, List.set_cons_succ, List.set_cons_zero]
  refine order_pure (i := 2) rfl (by kernel_rfl) (fun _ _ _ h => h) (.inl ⟨rfl, fun _ => by go_simp; rfl⟩) ?_
  try simp only [Act.put, List.setIfInBounds_toArray, List.set_cons_succ, List.set_cons_zero]
  refine order_pure (i := 3) rfl (by kernel_rfl) (fun _ _ _ h => h) (.inl ⟨rfl, fun _ => by go_simp; rfl⟩) ?_
  try simp only [Act.put, List.setIfInBounds_toArray, List.set_cons_succ, List.set_cons_zero]
  refine order_skip (i := 4) rfl (by kernel_rfl) (fun _ _ _ h => h) (by kernel_rfl) ?_
  try simp only [Act.put, List.setIfInBounds_toArray, List.set_cons_succ, List.set_cons_zero]
  refine order_skip (i := 5) rfl (by kernel_rfl) (fun _ _ _ h => h) (by kernel_rfl) ?_
  try simp only [Act.put, List.setIfInBounds_toArray, List.set_cons_succ, List.set_cons_zero]
  refine order_skip (i := 6) rfl (by kernel_rfl) (fun _ _ _ h => h) (by kernel_rfl) ?_
  try simp only [Act.put, List.setIfInBounds_toArray, List.set_cons_succ, List.set_cons_zero]
  refine order_skip (i := 7) rfl (by kernel_rfl) (fun _ _ _ h => h) (by kernel_rfl) ?_
  try simp only [Act.put, List.setIfInBounds_toArray, List.set_cons_succ, List.set_cons_zero]
  refine order_skip (i := 8) rfl (by kernel_rfl) (fun _ _ _ h => h) (by kernel_rfl) ?_
  try simp only [Act.put, List.setIfInBounds_toArray, List.set_cons_succ, List.set_cons_zero]
  refine order_skip (i := 9) rfl (by kernel_rfl) (fun _ _ _ h => h) (by kernel_rfl) ?_
  try simp only [Act.put, List.setIfInBounds_toArray, List.set_cons_succ, List.set_cons_zero]
  refine order_skip (i := 10) rfl (by kernel_rfl) (fun _ _ _ h => h) (by kernel_rfl) ?_
  try simp only [Act.put, List.setIfInBounds_toArray, List.set_cons_succ, List.set_cons_zero]
  refine order_skip (i := 11) rfl (by kernel_rfl) (fun _ _ _ h => h) (by kernel_rfl) ?_
  try simp only [Act.put, List.setIfInBounds_toArray, List.set_cons_succ, List.set_cons_zero]
  refine order_skip (i := 12) rfl (by kernel_rfl) (fun _ _ _ h => h) (by kernel_rfl) ?_
  try simp only [Act.put, List.setIfInBounds_toArray, List.set_cons_succ, List.set_cons_zero]
  refine order_skip (i := 13) rfl (by kernel_rfl) (fun _ _ _ h => h) (by kernel_rfl) ?_
  try simp only [Act.put, List.setIfInBounds_toArray, List.set_cons_succ, List.set_cons_zero]
  refine order_pure (i := 14) rfl (by kernel_rfl) (fun _ _ _ h => h) (.inl ⟨rfl, fun _ => by go_simp; rfl⟩) ?_
  try simp only [Act.put, List.setIfInBounds_toArray, List.set_cons_succ, List.set_cons_zero]
  refine order_done (by kernel_rfl) ?_
  go_wp2
  exact bodyPost_ret (v := .tuple #[.agg zeroT, .bool false]) (by simp [results, Try.results26, go_sem]; rfl) rfl ⟨rfl, ((Below.refl _ _).alloc (Nat.le_refl _) _).drew⟩

set_option maxRecDepth 100000 in
theorem next_unmade (b : Nat) (w : World) (h : w.cell? ⟨b, 2, none⟩ = some (.bool false)) : Calls Try.prog 26 #[.pointer (some ⟨b, 0, none⟩)] w fun e w' => e = .returned (.tuple #[.agg zeroT, .bool false]) ∧ Below w.heap.size w w' := by
  have h' : (w.alloc (.cells zeroT 33)).drew.cell? ⟨b, 2, none⟩ = some (.bool false) := (World.cell?_alloc_lt _ _ _ (World.block_lt_of_cell? w _ h)).trans h
  have H := hide h'; clear h'
  go_enter Try.func26, Try.ntmps26
  go_wp2_with fail
  refine order_begin (fun _ => True) (fun _ => true) (by kernel_rfl) 15 rfl ?_
  have HS : True := trivial
  refine order_pure (i := 0) rfl (by kernel_rfl) (fun _ _ _ h => h) (.inl ⟨rfl, fun _ => by go_simp; rfl⟩) ?_
  try simp only [Act.put, List.setIfInBounds_toArray, List.set_cons_succ, List.set_cons_zero]
  refine order_one (i := 1) rfl (by kernel_rfl) (fun K hK => ?_)
  go_simp
  refine (known_at b false _ H.out).mono ?_
  rintro e w' ⟨rfl, rfl⟩
  refine hK _ _ (fun _ h => h) ?_
  clear hK
  try simp only [Act.put, List.setIfInBounds_toArray, List.set_cons_succ, List.set_cons_zero]
  refine order_pure (i := 2) rfl (by kernel_rfl) (fun _ _ _ h => h) (.inl ⟨rfl, fun _ => by go_simp; rfl⟩) ?_
  try simp only [Act.put, List.setIfInBounds_toArray, List.set_cons_succ, List.set_cons_zero]
  refine order_pure (i := 3) rfl (by kernel_rfl) (fun _ _ _ h => h) (.inl ⟨rfl, fun _ => by go_simp; rfl⟩) ?_
  try simp only [Act.put, List.setIfInBounds_toArray, List.set_cons_succ, List.set_cons_zero]
  refine order_skip (i := 4) rfl (by kernel_rfl) (fun _ _ _ h => h) (by kernel_rfl) ?_
  try simp only [Act.put, List.setIfInBounds_toArray, List.set_cons_succ, List.set_cons_zero]
  refine order_skip (i := 5) rfl (by kernel_rfl) (fun _ _ _ h => h) (by kernel_rfl) ?_
  try simp only [Act.put, List.setIfInBounds_toArray, List.set_cons_succ, List.set_cons_zero]
  refine order_skip (i := 6) rfl (by kernel_rfl) (fun _ _ _ h => h) (by kernel_rfl) ?_
  try simp only [Act.put, List.setIfInBounds_toArray, List.set_cons_succ, List.set_cons_zero]
  refine order_skip (i := 7) rfl (by kernel_rfl) (fun _ _ _ h => h) (by kernel_rfl) ?_
  try simp only [Act.put, List.setIfInBounds_toArray, List.set_cons_succ, List.set_cons_zero]
  refine order_skip (i := 8) rfl (by kernel_rfl) (fun _ _ _ h => h) (by kernel_rfl) ?_
  try simp only [Act.put, List.setIfInBounds_toArray, List.set_cons_succ, List.set_cons_zero]
  refine order_skip (i := 9) rfl (by kernel_rfl) (fun _ _ _ h => h) (by kernel_rfl) ?_
  try simp only [Act.put, List.setIfInBounds_toArray, List.set_cons_succ, List.set_cons_zero]
  refine order_skip (i := 10) rfl (by kernel_rfl) (fun _ _ _ h => h) (by kernel_rfl) ?_
  try simp only [Act.put, List.setIfInBounds_toArray, List.set_cons_succ, List.set_cons_zero]
  refine order_skip (i := 11) rfl (by kernel_rfl) (fun _ _ _ h => h) (by kernel_rfl) ?_
  try simp only [Act.put, List.setIfInBounds_toArray, List.set_cons_succ, List.set_cons_zero]
  refine order_skip (i := 12) rfl (by kernel_rfl) (fun _ _ _ h => h) (by kernel_rfl) ?_
  try simp only [Act.put, List.setIfInBounds_toArray, List.set_cons_succ, List.set_cons_zero]
  refine order_skip (i := 13) rfl (by kernel_rfl) (fun _ _ _ h => h) (by kernel_rfl) ?_
  try simp only [Act.put, List.setIfInBounds_toArray, List.set_cons_succ, List.set_cons_zero]
  refine order_pure (i := 14) rfl (by kernel_rfl) (fun _ _ _ h => h) (.inl ⟨rfl, fun _ => by go_simp; rfl⟩) ?_
  try simp only [Act.put, List.setIfInBounds_toArray, List.set_cons_succ, List.set_cons_zero]
  refine order_done (by kernel_rfl) ?_
  go_wp2
  exact bodyPost_ret (v := .tuple #[.agg zeroT, .bool false]) (by simp [results, Try.results26, go_sem]; rfl) rfl ⟨rfl, ((Below.refl _ _).alloc (Nat.le_refl _) _).drew⟩

set_option maxRecDepth 100000 in
theorem next_no (b : Nat) (sv : Value) (L : List Lt) (i : Nat) (w : World) (h : BoxAt w b sv L i) (hi : L.length ≤ i) :
    Calls Try.prog 26 #[.pointer (some ⟨b, 0, none⟩)] w fun e w' => e = .returned (.tuple #[.agg zeroT, .bool false]) ∧ Keeps NoB w w' := by
  obtain ⟨A, c, hsv, hnc, _⟩ := ownsRow_mk h.row
  subst hsv
  have HS0 : Blk (w.alloc (.cells zeroT 33)).drew b 61 #[.slice A L.length c, .int .i64 i, .bool true] := (h.blk.alloc _).drew
  go_enter Try.func26, Try.ntmps26
  go_wp2_with fail
  refine order_begin (fun W => Blk W b 61 #[.slice A L.length c, .int .i64 i, .bool true]) (fun _ => true) (by kernel_rfl) 15 rfl ?_
  have HS := HS0; clear HS0
  refine order_pure (i := 0) rfl (by kernel_rfl) (fun _ _ _ h => h) (.inl ⟨rfl, fun _ => by go_simp; rfl⟩) ?_
  try simp only [Act.put, List.setIfInBounds_toArray, List.set_cons_succ, List.set_cons_zero]
  refine order_one (i := 1) rfl (by kernel_rfl) (fun K hK => ?_)
  go_simp
  refine (known_at b true _ (HS.cell 2)).mono ?_
  rintro e w' ⟨rfl, rfl⟩
  refine hK _ _ (fun _ h => h) ?_
  clear hK
  try simp only [Act.put, List.setIfInBounds_toArray, List.set_cons_succ, List.set_cons_zero]
  refine order_pure (i := 2) rfl (by kernel_rfl) (fun _ _ _ h => h) (.inl ⟨rfl, fun _ => by go_simp; rfl⟩) ?_
  try simp only [Act.put, List.setIfInBounds_toArray, List.set_cons_succ, List.set_cons_zero]
  refine order_pure (i := 3) rfl (by kernel_rfl) (fun _ _ _ h => h) (.inl ⟨rfl, fun _ => by go_simp; rfl⟩) ?_
  try simp only [Act.put, List.setIfInBounds_toArray, List.set_cons_succ, List.set_cons_zero]
  refine order_pure (i := 4) rfl (by kernel_rfl) (fun _ _ _ h => h) (.inl ⟨rfl, fun _ => by go_simp; rfl⟩) ?_
  try simp only [Act.put, List.setIfInBounds_toArray, List.set_cons_succ, List.set_cons_zero]
  refine order_pure (i := 5) rfl (by kernel_rfl) (fun _ _ _ h => h) (.inl ⟨rfl, fun _ => by go_simp; rfl⟩) ?_
  try simp only [Act.put, List.setIfInBounds_toArray, List.set_cons_succ, List.set_cons_zero]
  refine order_pure (i := 6) rfl (by kernel_rfl) (fun _ _ _ h => h) (.inl ⟨rfl, fun _ => by go_simp; rfl⟩) ?_
  try simp only [Act.put, List.setIfInBounds_toArray, List.set_cons_succ, List.set_cons_zero]
  refine order_held (i := 7) rfl (by kernel_rfl) (fun _ _ _ h => h) (.inl ⟨rfl, fun W hW => by
    have q0 : W.cell? ⟨b, 1, none⟩ = some (.int .i64 i) := hW.cell 1
    go_simp; rfl⟩) HS ?_
  try simp only [Act.put, List.setIfInBounds_toArray, List.set_cons_succ, List.set_cons_zero]
  refine order_pure (i := 8) rfl (by kernel_rfl) (fun _ _ _ h => h) (.inl ⟨rfl, fun _ => by go_simp; rfl⟩) ?_
  try simp only [Act.put, List.setIfInBounds_toArray, List.set_cons_succ, List.set_cons_zero]
  refine order_pure (i := 9) rfl (by kernel_rfl) (fun _ _ _ h => h) (.inl ⟨rfl, fun _ => by go_simp; rfl⟩) ?_
  try simp only [Act.put, List.setIfInBounds_toArray, List.set_cons_succ, List.set_cons_zero]
  refine order_pure (i := 10) rfl (by kernel_rfl) (fun _ _ _ h => h) (.inl ⟨rfl, fun _ => by go_simp; rfl⟩) ?_
  try simp only [Act.put, List.setIfInBounds_toArray, List.set_cons_succ, List.set_cons_zero]
  refine order_held (i := 11) rfl (by kernel_rfl) (fun _ _ _ h => h) (.inl ⟨rfl, fun W hW => by
    have q0 : W.cell? ⟨b, 0, none⟩ = some (.slice A L.length c) := hW.cell 0
    go_simp; rfl⟩) HS ?_
  try simp only [Act.put, List.setIfInBounds_toArray, List.set_cons_succ, List.set_cons_zero]
  refine order_pure (i := 12) rfl (by kernel_rfl) (fun _ _ _ h => h) (.inl ⟨rfl, fun _ => by go_simp; rfl⟩) ?_
  try simp only [Act.put, List.setIfInBounds_toArray, List.set_cons_succ, List.set_cons_zero]
  refine order_pure (i := 13) rfl (by kernel_rfl) (fun _ _ _ h => h) (.inl ⟨rfl, fun _ => by go_simp; rfl⟩) ?_
  try simp only [Act.put, List.setIfInBounds_toArray, List.set_cons_succ, List.set_cons_zero]
  refine order_pure (i := 14) rfl (by kernel_rfl) (fun _ _ _ h => h) (.inl ⟨rfl, fun _ => by go_simp; rfl⟩) ?_
  try simp only [Act.put, List.setIfInBounds_toArray, List.set_cons_succ, List.set_cons_zero]
  refine order_done (by kernel_rfl) ?_
  clear HS
  go_wp2
  exact bodyPost_ret (v := .tuple #[.agg zeroT, .bool false]) (by simp [results, Try.results26, go_sem]; rfl) rfl ⟨rfl, ((Keeps.refl NoB w).alloc _).drew⟩

end Go.Proofs.Ytmkidkfofbnjgaa
namespace Go.Proofs.Ytmkidkfofbnjgaa
open Go.RowKit

set_option maxRecDepth 100000 in
theorem take_no (b : Nat) (sv : Value) (L : List Lt) (i : Nat) (w : World) (h : BoxAt w b sv L i) (hi : L.length ≤ i) :
    Calls Try.prog 16 #[.pointer (some ⟨b, 0, none⟩)] w fun e w' => e = .returned (.tuple #[.agg zeroT, .int .i64 6]) ∧ Keeps NoB w w' := by
  obtain ⟨A, c, hsv, hnc, _⟩ := ownsRow_mk h.row
  subst hsv
  have HS0 : Blk (w.alloc (.cells zeroT 33)) b 61 #[.slice A L.length c, .int .i64 i, .bool true] := (h.blk.alloc _)
  have HSn := hide HS0
  have hk2 : (w.alloc (.cells zeroT 33)).cell? ⟨b, 2, none⟩ = some (.bool true) := HS0.cell 2
  clear HS0
  go_enter Try.func16, Try.ntmps16
  go_wp2_with (go_at_call 32; refine (known_at b true _ hk2).mono ?_; rintro e w' ⟨rfl, rfl⟩)
  refine order_begin (fun W => Blk W b 61 #[.slice A L.length c, .int .i64 i, .bool true]) (fun _ => true) (by kernel_rfl) 11 rfl ?_
  have HS := HSn.out.drew; clear HSn
  refine order_pure (i := 0) rfl (by kernel_rfl) (fun _ _ _ h => h) (.inl ⟨rfl, fun _ => by go_simp; rfl⟩) ?_
  try simp only [Act.put, List.setIfInBounds_toArray, List.set_cons_succ, List.set_cons_zero]
  refine order_pure (i := 1) rfl (by kernel_rfl) (fun _ _ _ h => h) (.inl ⟨rfl, fun _ => by go_simp; rfl⟩) ?_
  try simp only [Act.put, List.setIfInBounds_toArray, List.set_cons_succ, List.set_cons_zero]
  refine order_pure (i := 2) rfl (by kernel_rfl) (fun _ _ _ h => h) (.inl ⟨rfl, fun _ => by go_simp; rfl⟩) ?_
  try simp only [Act.put, List.setIfInBounds_toArray, List.set_cons_succ, List.set_cons_zero]
  refine order_held (i := 3) rfl (by kernel_rfl) (fun _ _ _ h => h) (.inl ⟨rfl, fun W hW => by
    have q0 : W.cell? ⟨b, 1, none⟩ = some (.int .i64 i) := hW.cell 1
    go_simp; rfl⟩) HS ?_
  try simp only [Act.put, List.setIfInBounds_toArray, List.set_cons_succ, List.set_cons_zero]
  refine order_pure (i := 4) rfl (by kernel_rfl) (fun _ _ _ h => h) (.inl ⟨rfl, fun _ => by go_simp; rfl⟩) ?_
  try simp only [Act.put, List.setIfInBounds_toArray, List.set_cons_succ, List.set_cons_zero]
  refine order_pure (i := 5) rfl (by kernel_rfl) (fun _ _ _ h => h) (.inl ⟨rfl, fun _ => by go_simp; rfl⟩) ?_
  try simp only [Act.put, List.setIfInBounds_toArray, List.set_cons_succ, List.set_cons_zero]
  refine order_pure (i := 6) rfl (by kernel_rfl) (fun _ _ _ h => h) (.inl ⟨rfl, fun _ => by go_simp; rfl⟩) ?_
  try simp only [Act.put, List.setIfInBounds_toArray, List.set_cons_succ, List.set_cons_zero]
  refine order_held (i := 7) rfl (by kernel_rfl) (fun _ _ _ h => h) (.inl ⟨rfl, fun W hW => by
    have q0 : W.cell? ⟨b, 0, none⟩ = some (.slice A L.length c) := hW.cell 0
    go_simp; rfl⟩) HS ?_
  try simp only [Act.put, List.setIfInBounds_toArray, List.set_cons_succ, List.set_cons_zero]
  refine order_pure (i := 8) rfl (by kernel_rfl) (fun _ _ _ h => h) (.inl ⟨rfl, fun _ => by go_simp; rfl⟩) ?_
  try simp only [Act.put, List.setIfInBounds_toArray, List.set_cons_succ, List.set_cons_zero]
  refine order_pure (i := 9) rfl (by kernel_rfl) (fun _ _ _ h => h) (.inl ⟨rfl, fun _ => by go_simp; rfl⟩) ?_
  try simp only [Act.put, List.setIfInBounds_toArray, List.set_cons_succ, List.set_cons_zero]
  refine order_pure (i := 10) rfl (by kernel_rfl) (fun _ _ _ h => h) (.inl ⟨rfl, fun _ => by go_simp; rfl⟩) ?_
  try simp only [Act.put, List.setIfInBounds_toArray, List.set_cons_succ, List.set_cons_zero]
  refine order_done (by kernel_rfl) ?_
  clear HS hk2
  go_wp2
  exact bodyPost_ret (v := .tuple #[.agg zeroT, .int .i64 6]) (by simp [results, Try.results16, go_sem]; rfl) rfl ⟨rfl, ((Keeps.refl NoB w).alloc _).drew⟩

theorem zero33 (w : World) : (zeroValue 33).run Try.prog w = .ok (.agg zeroT) w := by kernel_rfl

theorem zero_ones : ∀ u ∈ (Value.agg zeroT).cells.toList, u.oneCell' = true := by decide +kernel

def TakePost (w : World) (b : Nat) (sv : Value) (L : List Lt) (i : Nat) (x : Lt) (e : Ending) (w' : World) : Prop :=
  ∃ v0 v1 v2 v3 v4 v5 v6 sv', x.cs = [v0, v1, v2, v3, v4, v5, v6] ∧ e = .returned (.tuple #[.agg #[v0, v1, v2, v3, v4, v5, v6], .int .i64 0]) ∧ BoxAt w' b sv' (L.eraseIdx i) 0 ∧ Keeps (boxFp b sv) w w' ∧ x.ok w' ∧ sv'.ownBlock = sv.ownBlock

theorem take_facts {w : World} {b g c i m : Nat} {cur : Array Value} {L : List Lt} (h : BoxAt w b (.slice (some ⟨g, 0, none⟩) L.length c) L i) (hm : i + 1 + m = L.length) (hcs : cur.size = c * 7) (htake : cur.toList.take (L.length * 7) = (cellsOf L).flatten) (hnc : L.length ≤ c) :
    ((cellsOf L).drop (i + 1)).flatten.length = m * 7 ∧ (∀ (j : Nat) (u : Value), ((cellsOf L).drop (i + 1)).flatten[j]? = some u → cur[(i + 1) * 7 + j]? = some u) ∧ i * 7 + ((cellsOf L).drop (i + 1)).flatten.length ≤ cur.size ∧ ∀ u ∈ ((cellsOf L).drop (i + 1)).flatten, u.oneCell' = true := by
  have h1 : ((cellsOf L).drop (i + 1)).flatten.length = m * 7 := by
    rw [flat_len (k := 7) (fun d hd => h.lens d (List.mem_of_mem_drop hd)), List.length_drop, List.length_map]
    omega
  refine ⟨h1, fun j u hu => ?_, by omega, fun u hu => ?_⟩
  · rw [flat_drop h.lens, List.getElem?_drop, ← htake, List.getElem?_take] at hu
    split at hu
    · simpa using hu
    · cases hu
  · obtain ⟨d, hd, hu⟩ := List.mem_flatten.1 hu
    obtain ⟨x, hx, rfl⟩ := List.mem_map.1 (List.mem_of_mem_drop hd)
    exact TermIn.ones _ _ (h.ok x hx).1 u hu

theorem take_end {w W6 : World} {b g c i m : Nat} {cur C1 : Array Value} {L : List Lt} {x : Lt} (h : BoxAt w b (.slice (some ⟨g, 0, none⟩) L.length c) L i) (hx : L[i]? = some x) (hm : i + 1 + m = L.length) (hcs : cur.size = c * 7) (hcm : c ≤ maxLen)
    (htake : cur.toList.take (L.length * 7) = (cellsOf L).flatten) (hnc : L.length ≤ c) (hC1 : (cur.toList.take (i * 7) ++ ((cellsOf L).drop (i + 1)).flatten ++ cur.toList.drop (i * 7 + ((cellsOf L).drop (i + 1)).flatten.length)).toArray = C1) (hK : Keeps (boxFp b (.slice (some ⟨g, 0, none⟩) L.length c)) w W6)
    (hB : Blk W6 b 61 #[.slice (some ⟨g, 0, none⟩) (i + m) c, .int .i64 0, .bool true]) (hG : Blk W6 g 33 (C1.toList.take ((i + m) * 7) ++ zeroT.toList ++ C1.toList.drop ((i + m) * 7 + 7)).toArray) :
    BoxAt W6 b (.slice (some ⟨g, 0, none⟩) (i + m) c) (L.eraseIdx i) 0 ∧ x.ok W6 := by
  subst hC1
  obtain ⟨hclen, hcsrc, hcfit, hcone⟩ := take_facts h hm hcs htake hnc
  have hil : i < L.length := by omega
  have hn : (L.eraseIdx i).length = i + m := by rw [List.length_eraseIdx_of_lt hil]; omega
  have hmiss : ∀ y ∈ L, ∀ k, boxFp b (.slice (some ⟨g, 0, none⟩) L.length c) k → y.misses k := by
    intro y hy k hk
    rcases hk with rfl | hk
    · exact (h.off y hy).1
    · exact (h.off y hy).2 k hk
  have hce : cellsOf (L.eraseIdx i) = (cellsOf L).take i ++ (cellsOf L).drop (i + 1) := by
    simp [cellsOf, List.eraseIdx_eq_take_drop_succ, List.map_take, List.map_drop]
  have hl7 : ∀ c ∈ cellsOf (L.eraseIdx i), c.length = 7 := by
    intro c hc
    obtain ⟨y, hy, rfl⟩ := List.mem_map.1 hc
    exact (h.ok y (List.mem_of_mem_eraseIdx hy)).len
  have htk : cur.toList.take (i * 7) = ((cellsOf L).take i).flatten := by
    rw [flat_take h.lens, ← htake, List.take_take, Nat.min_eq_left (by omega)]
  have hpre : (cur.toList.take (i * 7) ++ ((cellsOf L).drop (i + 1)).flatten).length = (i + m) * 7 := by
    rw [List.length_append, List.length_take, Array.length_toList, hclen]
    omega
  refine ⟨⟨hB, ⟨by rw [flat_len hl7, List.length_map], .inr ⟨g, c, _, by rw [hn], Nat.zero_le _, hG, by omega, hcm, ?_, ?_⟩⟩, fun y hy => (h.ok y (List.mem_of_mem_eraseIdx hy)).keep hK (hmiss y (List.mem_of_mem_eraseIdx hy)), fun y hy => ⟨(h.off y (List.mem_of_mem_eraseIdx hy)).1, fun k hk => (h.off y (List.mem_of_mem_eraseIdx hy)).2 k hk⟩, h.apart.sublist (List.eraseIdx_sublist _ _)⟩, (h.ok x (List.mem_of_getElem? hx)).keep hK (hmiss x (List.mem_of_getElem? hx))⟩
  · have hz : zeroT.toList.length = 7 := rfl
    simp only [List.size_toArray, List.length_append, List.length_take, List.length_drop, Array.length_toList, hz]
    omega
  · rw [hn, hce, List.flatten_append, ← htk]
    show List.take ((i + m) * 7) (_ ++ _ ++ _) = _
    rw [List.append_assoc, List.take_append_of_le_length (by simp only [List.length_take, List.size_toArray, List.length_append, List.length_drop, Array.length_toList]; omega), List.take_take, Nat.min_self]
    show List.take ((i + m) * 7) (_ ++ _ ++ _) = _
    rw [List.take_append_of_le_length (by omega), List.take_of_length_le (by omega)]

set_option maxRecDepth 100000 in
set_option maxHeartbeats 1000000 in
theorem take_yes (b : Nat) (sv : Value) (L : List Lt) (i m : Nat) (x : Lt) (w : World) (h : BoxAt w b sv L i) (hx : L[i]? = some x) (hm : i + 1 + m = L.length) (hl : L.length ≤ 1024) :
    Calls Try.prog 16 #[.pointer (some ⟨b, 0, none⟩)] w (TakePost w b sv L i x) := by
  obtain ⟨i0, hi0, hz0, hz1, hz2⟩ := info_parts Try.info33
  obtain ⟨g, c, cur, hsv, _, hg, hnc, hcm, hcs, htake⟩ : ∃ g c cur, sv = .slice (some ⟨g, 0, none⟩) L.length c ∧ 0 ≤ g ∧ w.heap[g]? = some (.cells cur 33 (0, 0)) ∧ L.length ≤ c ∧ c ≤ maxLen ∧ cur.size = c * 7 ∧ cur.toList.take (L.length * 7) = (cellsOf L).flatten := by
    rcases h.row.2 with ⟨_, h0⟩ | h0
    · omega
    · exact h0
  subst hsv
  have hbg : Blk w g 33 cur := hg
  clear hg
  obtain ⟨kd, ng, la, ln, lc, tx, nm, ia, im, ic, ta, tn, tc, hxc, heq⟩ := (h.ok x (List.mem_of_getElem? hx)).1.cells
  clear heq
  have hcat : (cellsOf L)[i]? = some [.int .u8 kd, .bool ng, .slice la ln lc, .string tx, .int .i64 nm, .slice ia im ic, .slice ta tn tc] := by
    rw [← hxc]; simp [cellsOf, hx]
  have hcur : ∀ (j : Nat) (u : Value), (cellsOf L).flatten[j]? = some u → cur[j]? = some u := by
    intro j u hu
    rw [← htake, List.getElem?_take] at hu
    split at hu
    · simpa using hu
    · cases hu
  obtain ⟨e0, e1, e2, e3, e4, e5, e6⟩ := flat_cells h.lens hcat
  have HE := hide (And.intro (hcur _ _ e0) (And.intro (hcur _ _ e1) (And.intro (hcur _ _ e2) (And.intro (hcur _ _ e3) (And.intro (hcur _ _ e4) (And.intro (hcur _ _ e5) (hcur _ _ e6)))))))
  have HX := hide hx; have H := hide h; have HXC := hide hxc; have HTK := hide htake; have HCS := hide hcs; have HCM := hide hcm
  clear hx hcat hcur e0 e1 e2 e3 e4 e5 e6 hxc htake hcs hcm
  have hl7 : L.length * 7 ≤ c * 7 := by omega
  have HG : Blk (w.alloc (.cells zeroT 33)) g 33 cur := hbg.alloc _
  have HBb : Blk (w.alloc (.cells zeroT 33)) b 61 #[.slice (some ⟨g, 0, none⟩) L.length c, .int .i64 i, .bool true] := h.blk.alloc _
  have HK0 := hide ((Keeps.refl NoB w).alloc (.cells zeroT 33))
  have HT0 := hide (Blk.new w 33 zeroT)
  have hk2 : (w.alloc (.cells zeroT 33)).cell? ⟨b, 2, none⟩ = some (.bool true) := HBb.cell 2
  have HS0 := hide (And.intro HBb HG)
  have hbsep : b ≠ g := fun e => (H.out.sep) (by rw [e]; rfl)
  have HSEP := hide hbsep
  have hgl := hbg.lt
  have hbl := h.blk.lt
  clear h hbg HBb HG hbsep
  go_enter Try.func16, Try.ntmps16
  go_wp2_with (go_at_call 32; refine (known_at b true _ hk2).mono ?_; rintro e w' ⟨rfl, rfl⟩)
  clear hk2
  refine order_begin (fun W => Blk W b 61 #[.slice (some ⟨g, 0, none⟩) L.length c, .int .i64 i, .bool true] ∧ Blk W g 33 cur) (fun _ => true) (by kernel_rfl) 11 rfl ?_
  have HS := (And.intro HS0.out.1.drew HS0.out.2.drew); clear HS0
  refine order_pure (i := 0) rfl (by kernel_rfl) (fun _ _ _ h => h) (.inl ⟨rfl, fun _ => by go_simp; rfl⟩) ?_
  try simp only [Act.put, List.setIfInBounds_toArray, List.set_cons_succ, List.set_cons_zero]
  refine order_pure (i := 1) rfl (by kernel_rfl) (fun _ _ _ h => h) (.inl ⟨rfl, fun _ => by go_simp; rfl⟩) ?_
  try simp only [Act.put, List.setIfInBounds_toArray, List.set_cons_succ, List.set_cons_zero]
  refine order_pure (i := 2) rfl (by kernel_rfl) (fun _ _ _ h => h) (.inl ⟨rfl, fun _ => by go_simp; rfl⟩) ?_
  try simp only [Act.put, List.setIfInBounds_toArray, List.set_cons_succ, List.set_cons_zero]
  refine order_held (i := 3) rfl (by kernel_rfl) (fun _ _ _ h => h) (.inl ⟨rfl, fun W hW => by
    have q0 : W.cell? ⟨b, 1, none⟩ = some (.int .i64 i) := hW.1.cell 1
    go_simp; rfl⟩) HS ?_
  try simp only [Act.put, List.setIfInBounds_toArray, List.set_cons_succ, List.set_cons_zero]
  refine order_pure (i := 4) rfl (by kernel_rfl) (fun _ _ _ h => h) (.inl ⟨rfl, fun _ => by go_simp; rfl⟩) ?_
  try simp only [Act.put, List.setIfInBounds_toArray, List.set_cons_succ, List.set_cons_zero]
  refine order_pure (i := 5) rfl (by kernel_rfl) (fun _ _ _ h => h) (.inl ⟨rfl, fun _ => by go_simp; rfl⟩) ?_
  try simp only [Act.put, List.setIfInBounds_toArray, List.set_cons_succ, List.set_cons_zero]
  refine order_pure (i := 6) rfl (by kernel_rfl) (fun _ _ _ h => h) (.inl ⟨rfl, fun _ => by go_simp; rfl⟩) ?_
  try simp only [Act.put, List.setIfInBounds_toArray, List.set_cons_succ, List.set_cons_zero]
  refine order_held (i := 7) rfl (by kernel_rfl) (fun _ _ _ h => h) (.inl ⟨rfl, fun W hW => by
    have q0 : W.cell? ⟨b, 0, none⟩ = some (.slice (some ⟨g, 0, none⟩) L.length c) := hW.1.cell 0
    go_simp; rfl⟩) HS ?_
  try simp only [Act.put, List.setIfInBounds_toArray, List.set_cons_succ, List.set_cons_zero]
  refine order_pure (i := 8) rfl (by kernel_rfl) (fun _ _ _ h => h) (.inl ⟨rfl, fun _ => by go_simp; rfl⟩) ?_
  try simp only [Act.put, List.setIfInBounds_toArray, List.set_cons_succ, List.set_cons_zero]
  refine order_pure (i := 9) rfl (by kernel_rfl) (fun _ _ _ h => h) (.inl ⟨rfl, fun _ => by go_simp; rfl⟩) ?_
  try simp only [Act.put, List.setIfInBounds_toArray, List.set_cons_succ, List.set_cons_zero]
  refine order_pure (i := 10) rfl (by kernel_rfl) (fun _ _ _ h => h) (.inl ⟨rfl, fun _ => by go_simp; rfl⟩) ?_
  try simp only [Act.put, List.setIfInBounds_toArray, List.set_cons_succ, List.set_cons_zero]
  refine order_done (by kernel_rfl) ?_
  have HS0 := hide HS; clear HS
  go_wp2_with fail
  have hnle : ¬ L.length ≤ i := by omega
  refine order_begin (fun W => Blk W b 61 #[.slice (some ⟨g, 0, none⟩) L.length c, .int .i64 i, .bool true] ∧ Blk W g 33 cur) (fun j => !(j == 11)) (by kernel_rfl) 12 rfl ?_
  have HS := (And.intro HS0.out.1.drew HS0.out.2.drew); clear HS0
  have HK1 := hide HK0.out.drew.drew
  have HT1 := hide HT0.out.drew.drew
  clear HT0
  generalize (w.alloc (.cells zeroT 33)).drew.drew = W1 at *
  refine order_pure (i := 0) rfl (by kernel_rfl) (fun _ _ _ h => h) (.inl ⟨rfl, fun _ => by go_simp; rfl⟩) ?_
  try simp only [Act.put, List.setIfInBounds_toArray, List.set_cons_succ, List.set_cons_zero]
  refine order_pure (i := 1) rfl (by kernel_rfl) (fun _ _ _ h => h) (.inl ⟨rfl, fun _ => by go_simp; rfl⟩) ?_
  try simp only [Act.put, List.setIfInBounds_toArray, List.set_cons_succ, List.set_cons_zero]
  refine order_pure (i := 2) rfl (by kernel_rfl) (fun _ _ _ h => h) (.inl ⟨rfl, fun _ => by go_simp; rfl⟩) ?_
  try simp only [Act.put, List.setIfInBounds_toArray, List.set_cons_succ, List.set_cons_zero]
  refine order_held (i := 3) rfl (by kernel_rfl) (fun _ _ _ h => h) (.inl ⟨rfl, fun W hW => by
    have q0 : W.cell? ⟨b, 0, none⟩ = some (.slice (some ⟨g, 0, none⟩) L.length c) := hW.1.cell 0
    go_simp; rfl⟩) HS ?_
  try simp only [Act.put, List.setIfInBounds_toArray, List.set_cons_succ, List.set_cons_zero]
  refine order_pure (i := 4) rfl (by kernel_rfl) (fun _ _ _ h => h) (.inl ⟨rfl, fun _ => by go_simp; rfl⟩) ?_
  try simp only [Act.put, List.setIfInBounds_toArray, List.set_cons_succ, List.set_cons_zero]
  refine order_pure (i := 5) rfl (by kernel_rfl) (fun _ _ _ h => h) (.inl ⟨rfl, fun _ => by go_simp; rfl⟩) ?_
  try simp only [Act.put, List.setIfInBounds_toArray, List.set_cons_succ, List.set_cons_zero]
  refine order_pure (i := 6) rfl (by kernel_rfl) (fun _ _ _ h => h) (.inl ⟨rfl, fun _ => by go_simp; rfl⟩) ?_
  try simp only [Act.put, List.setIfInBounds_toArray, List.set_cons_succ, List.set_cons_zero]
  refine order_held (i := 7) rfl (by kernel_rfl) (fun _ _ _ h => h) (.inl ⟨rfl, fun W hW => by
    have q0 : W.cell? ⟨b, 1, none⟩ = some (.int .i64 i) := hW.1.cell 1
    go_simp; rfl⟩) HS ?_
  try simp only [Act.put, List.setIfInBounds_toArray, List.set_cons_succ, List.set_cons_zero]
  have hil : i < L.length := by omega
  refine order_pure (i := 8) rfl (by kernel_rfl) (fun _ _ _ h => h) (.inl ⟨rfl, fun _ => by go_simp; rfl⟩) ?_
  try simp only [Act.put, List.setIfInBounds_toArray, List.set_cons_succ, List.set_cons_zero]
  obtain ⟨e0, e1, e2, e3, e4, e5, e6⟩ := HE.out
  refine order_held (i := 9) rfl (by kernel_rfl) (fun _ _ _ h => h) (.inl ⟨rfl, fun W hW => by
    have q0 : W.cell? ⟨g, i * 7, none⟩ = some (.int .u8 kd) := (hW.2.cell _).trans e0
    have q1 : W.cell? ⟨g, i * 7 + 1, none⟩ = some (.bool ng) := (hW.2.cell _).trans e1
    have q2 : W.cell? ⟨g, i * 7 + 2, none⟩ = some (.slice la ln lc) := (hW.2.cell _).trans e2
    have q3 : W.cell? ⟨g, i * 7 + 3, none⟩ = some (.string tx) := (hW.2.cell _).trans e3
    have q4 : W.cell? ⟨g, i * 7 + 4, none⟩ = some (.int .i64 nm) := (hW.2.cell _).trans e4
    have q5 : W.cell? ⟨g, i * 7 + 5, none⟩ = some (.slice ia im ic) := (hW.2.cell _).trans e5
    have q6 : W.cell? ⟨g, i * 7 + 6, none⟩ = some (.slice ta tn tc) := (hW.2.cell _).trans e6
    go_simp; rfl⟩) HS ?_
  try simp only [Act.put, List.setIfInBounds_toArray, List.set_cons_succ, List.set_cons_zero]
  clear e0 e1 e2 e3 e4 e5 e6
  refine order_one (i := 10) rfl (by kernel_rfl) (fun K hK => ?_)
  go_simp
  refine hK _ _ (fun _ hS => ⟨hS.1.alloc _, hS.2.alloc _⟩) ?_
  clear hK
  try simp only [Act.put, List.setIfInBounds_toArray, List.set_cons_succ, List.set_cons_zero]
  refine order_one (i := 11) rfl (by kernel_rfl) (fun K hK => ?_)
  go_simp
  refine hK _ _ (fun h => absurd h (by decide)) ?_
  clear hK
  try simp only [Act.put, List.setIfInBounds_toArray, List.set_cons_succ, List.set_cons_zero]
  refine order_done (by kernel_rfl) ?_
  have HB2 := hide (HS.1.alloc (.cells #[.int .u8 kd, .bool ng, .slice la ln lc, .string tx, .int .i64 nm, .slice ia im ic, .slice ta tn tc] 33))
  have HG2 := hide (HS.2.alloc (.cells #[.int .u8 kd, .bool ng, .slice la ln lc, .string tx, .int .i64 nm, .slice ia im ic, .slice ta tn tc] 33))
  have HK2 := hide (HK1.out.alloc (.cells #[.int .u8 kd, .bool ng, .slice la ln lc, .string tx, .int .i64 nm, .slice ia im ic, .slice ta tn tc] 33))
  have HT2 := hide (HT1.out.alloc (.cells #[.int .u8 kd, .bool ng, .slice la ln lc, .string tx, .int .i64 nm, .slice ia im ic, .slice ta tn tc] 33))
  have HL2 := hide (Blk.new W1 33 #[.int .u8 kd, .bool ng, .slice la ln lc, .string tx, .int .i64 nm, .slice ia im ic, .slice ta tn tc])
  have hsz1 : w.heap.size ≤ W1.heap.size := HK1.out.size
  have HM := hide hm
  have him : i + m < 1024 := by omega
  have hcm1 : i + 1 + m ≤ c := by omega
  clear HS hm
  generalize W1.alloc (.cells #[.int .u8 kd, .bool ng, .slice la ln lc, .string tx, .int .i64 nm, .slice ia im ic, .slice ta tn tc] 33) = W2 at *
  go_wp2_with fail
  refine order_begin (fun W => Blk W b 61 #[.slice (some ⟨g, 0, none⟩) L.length c, .int .i64 i, .bool true]) (fun _ => true) (by kernel_rfl) 26 rfl ?_
  have HS := HB2.out.drew
  refine order_pure (i := 0) rfl (by kernel_rfl) (fun _ _ _ h => h) (.inl ⟨rfl, fun _ => by go_simp; rfl⟩) ?_
  try simp only [Act.put, List.setIfInBounds_toArray, List.set_cons_succ, List.set_cons_zero]
  refine order_pure (i := 1) rfl (by kernel_rfl) (fun _ _ _ h => h) (.inl ⟨rfl, fun _ => by go_simp; rfl⟩) ?_
  try simp only [Act.put, List.setIfInBounds_toArray, List.set_cons_succ, List.set_cons_zero]
  refine order_pure (i := 2) rfl (by kernel_rfl) (fun _ _ _ h => h) (.inl ⟨rfl, fun _ => by go_simp; rfl⟩) ?_
  try simp only [Act.put, List.setIfInBounds_toArray, List.set_cons_succ, List.set_cons_zero]
  refine order_held (i := 3) rfl (by kernel_rfl) (fun _ _ _ h => h) (.inl ⟨rfl, fun W hW => by
    have q0 : W.cell? ⟨b, 1, none⟩ = some (.int .i64 i) := hW.cell 1
    go_simp; rfl⟩) HS ?_
  try simp only [Act.put, List.setIfInBounds_toArray, List.set_cons_succ, List.set_cons_zero]
  refine order_pure (i := 4) rfl (by kernel_rfl) (fun _ _ _ h => h) (.inl ⟨rfl, fun _ => by go_simp; rfl⟩) ?_
  try simp only [Act.put, List.setIfInBounds_toArray, List.set_cons_succ, List.set_cons_zero]
  refine order_pure (i := 5) rfl (by kernel_rfl) (fun _ _ _ h => h) (.inl ⟨rfl, fun _ => by go_simp; rfl⟩) ?_
  try simp only [Act.put, List.setIfInBounds_toArray, List.set_cons_succ, List.set_cons_zero]
  refine order_pure (i := 6) rfl (by kernel_rfl) (fun _ _ _ h => h) (.inl ⟨rfl, fun _ => by go_simp; rfl⟩) ?_
  try simp only [Act.put, List.setIfInBounds_toArray, List.set_cons_succ, List.set_cons_zero]
  refine order_held (i := 7) rfl (by kernel_rfl) (fun _ _ _ h => h) (.inl ⟨rfl, fun W hW => by
    have q0 : W.cell? ⟨b, 0, none⟩ = some (.slice (some ⟨g, 0, none⟩) L.length c) := hW.cell 0
    go_simp; rfl⟩) HS ?_
  try simp only [Act.put, List.setIfInBounds_toArray, List.set_cons_succ, List.set_cons_zero]
  refine order_pure (i := 8) rfl (by kernel_rfl) (fun _ _ _ h => h) (.inl ⟨rfl, fun _ => by go_simp; rfl⟩) ?_
  try simp only [Act.put, List.setIfInBounds_toArray, List.set_cons_succ, List.set_cons_zero]
  refine order_pure (i := 9) rfl (by kernel_rfl) (fun _ _ _ h => h) (.inl ⟨rfl, fun _ => by go_simp; rfl⟩) ?_
  try simp only [Act.put, List.setIfInBounds_toArray, List.set_cons_succ, List.set_cons_zero]
  refine order_pure (i := 10) rfl (by kernel_rfl) (fun _ _ _ h => h) (.inl ⟨rfl, fun _ => by go_simp; rfl⟩) ?_
  try simp only [Act.put, List.setIfInBounds_toArray, List.set_cons_succ, List.set_cons_zero]
  refine order_held (i := 11) rfl (by kernel_rfl) (fun _ _ _ h => h) (.inl ⟨rfl, fun W hW => by
    have q0 : W.cell? ⟨b, 1, none⟩ = some (.int .i64 i) := hW.cell 1
    go_simp; rfl⟩) HS ?_
  try simp only [Act.put, List.setIfInBounds_toArray, List.set_cons_succ, List.set_cons_zero]
  refine order_pure (i := 12) (v := .slice (some ⟨g, i * 7, none⟩) (L.length - i) (c - i)) rfl (by kernel_rfl) (fun _ _ _ h => h) (.inl ⟨rfl, fun W => ?_⟩) ?_
  · have hci : ¬ c = i := by omega
    have hil2 : i ≤ L.length := by omega
    go_simp
  try simp only [Act.put, List.setIfInBounds_toArray, List.set_cons_succ, List.set_cons_zero]
  refine order_pure (i := 13) rfl (by kernel_rfl) (fun _ _ _ h => h) (.inl ⟨rfl, fun _ => by go_simp; rfl⟩) ?_
  try simp only [Act.put, List.setIfInBounds_toArray, List.set_cons_succ, List.set_cons_zero]
  refine order_pure (i := 14) rfl (by kernel_rfl) (fun _ _ _ h => h) (.inl ⟨rfl, fun _ => by go_simp; rfl⟩) ?_
  try simp only [Act.put, List.setIfInBounds_toArray, List.set_cons_succ, List.set_cons_zero]
  refine order_pure (i := 15) rfl (by kernel_rfl) (fun _ _ _ h => h) (.inl ⟨rfl, fun _ => by go_simp; rfl⟩) ?_
  try simp only [Act.put, List.setIfInBounds_toArray, List.set_cons_succ, List.set_cons_zero]
  refine order_held (i := 16) rfl (by kernel_rfl) (fun _ _ _ h => h) (.inl ⟨rfl, fun W hW => by
    have q0 : W.cell? ⟨b, 0, none⟩ = some (.slice (some ⟨g, 0, none⟩) L.length c) := hW.cell 0
    go_simp; rfl⟩) HS ?_
  try simp only [Act.put, List.setIfInBounds_toArray, List.set_cons_succ, List.set_cons_zero]
  refine order_pure (i := 17) rfl (by kernel_rfl) (fun _ _ _ h => h) (.inl ⟨rfl, fun _ => by go_simp; rfl⟩) ?_
  try simp only [Act.put, List.setIfInBounds_toArray, List.set_cons_succ, List.set_cons_zero]
  refine order_pure (i := 18) rfl (by kernel_rfl) (fun _ _ _ h => h) (.inl ⟨rfl, fun _ => by go_simp; rfl⟩) ?_
  try simp only [Act.put, List.setIfInBounds_toArray, List.set_cons_succ, List.set_cons_zero]
  refine order_pure (i := 19) rfl (by kernel_rfl) (fun _ _ _ h => h) (.inl ⟨rfl, fun _ => by go_simp; rfl⟩) ?_
  try simp only [Act.put, List.setIfInBounds_toArray, List.set_cons_succ, List.set_cons_zero]
  refine order_held (i := 20) rfl (by kernel_rfl) (fun _ _ _ h => h) (.inl ⟨rfl, fun W hW => by
    have q0 : W.cell? ⟨b, 1, none⟩ = some (.int .i64 i) := hW.cell 1
    go_simp; rfl⟩) HS ?_
  try simp only [Act.put, List.setIfInBounds_toArray, List.set_cons_succ, List.set_cons_zero]
  have hwr : IntKind.i64.wrap ((i : Int) + 1) = (i : Int) + 1 := IntWalk.i64_in _ (by omega)
  have hw0 : (0 : Int) ≤ (i : Int) + 1 := by omega
  have hw1 : ((i : Int) + 1).toNat = i + 1 := by omega
  refine order_pure (i := 21) rfl (by kernel_rfl) (fun _ _ _ h => h) (.inl ⟨rfl, fun _ => by go_simp; rfl⟩) ?_
  try simp only [Act.put, List.setIfInBounds_toArray, List.set_cons_succ, List.set_cons_zero]
  refine order_pure (i := 22) (v := .slice (if c = i + 1 then some ⟨g, 0, none⟩ else some ⟨g, (i + 1) * 7, none⟩) (L.length - (i + 1)) (c - (i + 1))) rfl (by kernel_rfl) (fun _ _ _ h => h) (.inl ⟨rfl, fun W => ?_⟩) ?_
  · go_simp
    intro hlt
    omega
  try simp only [Act.put, List.setIfInBounds_toArray, List.set_cons_succ, List.set_cons_zero]
  clear hwr hw0 hw1
  obtain ⟨hclen, hcsrc, hcfit, hcone⟩ := take_facts H.out HM.out HCS.out HTK.out hnc
  refine order_one (i := 23) rfl (by kernel_rfl) (fun K hK => ?_)
  refine step_copy_blk _ rfl (.tmp 45) (.tmp 55) 25 25 rfl 33 33 _ Try.underlying25 hi0 7 hz1 g (i * 7) cur HG2.out.drew (L.length - i) (c - i) (L.length - (i + 1)) (c - (i + 1)) m _ rfl rfl ((cellsOf L).drop (i + 1)).flatten (by show min _ _ = _; have := HM.out; omega) hclen ?_ hcfit hcone ?_
  · intro h0
    refine ⟨⟨g, (i + 1) * 7, none⟩, if_neg (by have := HM.out; omega), rfl, fun j u hu => (HG2.out.drew.cell _).trans (hcsrc j u hu)⟩
  refine hK _ _ (fun _ hS => hS.keep ((Keeps.refl (fun k => k = g) _).row (.inl rfl) _) (fun e => HSEP.out e)) ?_
  clear hK
  have HB3 := hide (HB2.out.drew.keep ((Keeps.refl (fun k => k = g) W2.drew).row (g := g) (.inl rfl) (cur.toList.take (i * 7) ++ ((cellsOf L).drop (i + 1)).flatten ++ cur.toList.drop (i * 7 + ((cellsOf L).drop (i + 1)).flatten.length)).toArray) (fun e => HSEP.out e))
  have HG3 := hide (HG2.out.drew.row (cur.toList.take (i * 7) ++ ((cellsOf L).drop (i + 1)).flatten ++ cur.toList.drop (i * 7 + ((cellsOf L).drop (i + 1)).flatten.length)).toArray)
  have HK3 := hide ((Keeps.refl (fun k => k = g) W2.drew).row (g := g) (.inl rfl) (cur.toList.take (i * 7) ++ ((cellsOf L).drop (i + 1)).flatten ++ cur.toList.drop (i * 7 + ((cellsOf L).drop (i + 1)).flatten.length)).toArray)
  have hpt : w.heap.size < W1.heap.size := HT1.out.lt
  have HL3 := hide (HL2.out.drew.keep HK3.out (fun e => by omega))
  have HT3 := hide (HT2.out.drew.keep HK3.out (fun e => by omega))
  have HC := hide (And.intro hclen hcfit)
  clear hclen hcsrc hcfit hcone HS
  generalize W2.drew.setRow g (cur.toList.take (i * 7) ++ ((cellsOf L).drop (i + 1)).flatten ++ cur.toList.drop (i * 7 + ((cellsOf L).drop (i + 1)).flatten.length)).toArray = W3 at *
  generalize (if c = i + 1 then some (⟨g, 0, none⟩ : Addr) else some ⟨g, (i + 1) * 7, none⟩) = sp
  try simp only [Act.put, List.setIfInBounds_toArray, List.set_cons_succ, List.set_cons_zero]
  have hwm : IntKind.i64.wrap ((i : Int) + (m : Int)) = (i : Int) + (m : Int) := IntWalk.i64_in _ (by omega)
  refine order_pure (i := 24) rfl (by kernel_rfl) (fun _ _ _ h => h) (.inl ⟨rfl, fun _ => by go_simp; rfl⟩) ?_
  try simp only [Act.put, List.setIfInBounds_toArray, List.set_cons_succ, List.set_cons_zero]
  refine order_pure (i := 25) rfl (by kernel_rfl) (fun _ _ _ h => h) (.inl ⟨rfl, fun _ => by go_simp; rfl⟩) ?_
  try simp only [Act.put, List.setIfInBounds_toArray, List.set_cons_succ, List.set_cons_zero]
  clear hwm
  refine order_done (by kernel_rfl) ?_
  have k0 : W3.cell? ⟨b, 0, none⟩ = some (.slice (some ⟨g, 0, none⟩) L.length c) := HB3.out.cell 0
  have hci2 : ¬ c = i + m := by omega
  have himl : i + m ≤ L.length := by have := HM.out; omega
  have hone : L.length - (i + m) = 1 := by have := HM.out; omega
  have hfit2 : (i + m) * 7 + 7 ≤ (cur.toList.take (i * 7) ++ ((cellsOf L).drop (i + 1)).flatten ++ cur.toList.drop (i * 7 + ((cellsOf L).drop (i + 1)).flatten.length)).toArray.size := by
    have h1 := HC.out.1; have h2 := HC.out.2; have h3 := HCS.out; have h4 := HM.out
    simp only [List.size_toArray, List.length_append, List.length_take, List.length_drop, Array.length_toList]
    omega
  have HON := hide hone; have HF2 := hide hfit2
  clear hone hfit2
  generalize hC1 : (cur.toList.take (i * 7) ++ ((cellsOf L).drop (i + 1)).flatten ++ cur.toList.drop (i * 7 + ((cellsOf L).drop (i + 1)).flatten.length)).toArray = C1 at *
  have HC1 := hide hC1; clear hC1
  go_wp2_with (refine wpList_clear_blk _ rfl (.tmp 63) 25 rfl 33 33 Try.underlying25 (.agg zeroT) 7 zero33 rfl zero_ones g ((i + m) * 7) C1 HG3.out (L.length - (i + m)) (c - (i + m)) HON.out rfl HF2.out ?_; (have HB4 := hide (HB3.out.keep ((Keeps.refl (fun k => k = g) W3).row (g := g) (.inl rfl) (C1.toList.take ((i + m) * 7) ++ zeroT.toList ++ C1.toList.drop ((i + m) * 7 + 7)).toArray) (fun e => HSEP.out e))); (have HG4 := hide (HG3.out.row (C1.toList.take ((i + m) * 7) ++ zeroT.toList ++ C1.toList.drop ((i + m) * 7 + 7)).toArray)); (have HL4 := hide (HL3.out.keep ((Keeps.refl (fun k => k = g) W3).row (g := g) (.inl rfl) (C1.toList.take ((i + m) * 7) ++ zeroT.toList ++ C1.toList.drop ((i + m) * 7 + 7)).toArray) (fun e => by omega))); (have HT4 := hide (HT3.out.keep ((Keeps.refl (fun k => k = g) W3).row (g := g) (.inl rfl) (C1.toList.take ((i + m) * 7) ++ zeroT.toList ++ C1.toList.drop ((i + m) * 7 + 7)).toArray) (fun e => by omega))); (have HK4 := hide ((Keeps.refl (fun k => k = g) W3).row (g := g) (.inl rfl) (C1.toList.take ((i + m) * 7) ++ zeroT.toList ++ C1.toList.drop ((i + m) * 7 + 7)).toArray)); change wpList _ _ _ _ _ (W3.setRow g (C1.toList.take ((i + m) * 7) ++ zeroT.toList ++ C1.toList.drop ((i + m) * 7 + 7)).toArray); (generalize W3.setRow g (C1.toList.take ((i + m) * 7) ++ zeroT.toList ++ C1.toList.drop ((i + m) * 7 + 7)).toArray = W4 at *); clear k0; (have k0 : W4.cell? ⟨b, 0, none⟩ = some (.slice (some ⟨g, 0, none⟩) L.length c) := HB4.out.cell 0); (have k1 : W4.cell? ⟨b, 1, none⟩ = some (.int .i64 i) := HB4.out.cell 1); (have y0 := HB4.out.free 0); (have y1 := HB4.out.free 1); (have l0 : W4.cell? ⟨W1.heap.size, 0, none⟩ = some (.int .u8 kd) := HL4.out.cell 0); (have l1 : W4.cell? ⟨W1.heap.size, 1, none⟩ = some (.bool ng) := HL4.out.cell 1); (have l2 : W4.cell? ⟨W1.heap.size, 2, none⟩ = some (.slice la ln lc) := HL4.out.cell 2); (have l3 : W4.cell? ⟨W1.heap.size, 3, none⟩ = some (.string tx) := HL4.out.cell 3); (have l4 : W4.cell? ⟨W1.heap.size, 4, none⟩ = some (.int .i64 nm) := HL4.out.cell 4); (have l5 : W4.cell? ⟨W1.heap.size, 5, none⟩ = some (.slice ia im ic) := HL4.out.cell 5); (have l6 : W4.cell? ⟨W1.heap.size, 6, none⟩ = some (.slice ta tn tc) := HL4.out.cell 6); (have p0 : W4.cell? ⟨w.heap.size, 0, none⟩ = some (.int .u8 0) := HT4.out.cell 0); (have u0 : W4.frozen? ⟨w.heap.size, 0, none⟩ = false := HT4.out.free 0); (have p1 : W4.cell? ⟨w.heap.size, 1, none⟩ = some (.bool false) := HT4.out.cell 1); (have u1 : W4.frozen? ⟨w.heap.size, 1, none⟩ = false := HT4.out.free 1); (have p2 : W4.cell? ⟨w.heap.size, 2, none⟩ = some (.slice none 0 0) := HT4.out.cell 2); (have u2 : W4.frozen? ⟨w.heap.size, 2, none⟩ = false := HT4.out.free 2); (have p3 : W4.cell? ⟨w.heap.size, 3, none⟩ = some (.string ByteArray.empty) := HT4.out.cell 3); (have u3 : W4.frozen? ⟨w.heap.size, 3, none⟩ = false := HT4.out.free 3); (have p4 : W4.cell? ⟨w.heap.size, 4, none⟩ = some (.int .i64 0) := HT4.out.cell 4); (have u4 : W4.frozen? ⟨w.heap.size, 4, none⟩ = false := HT4.out.free 4); (have p5 : W4.cell? ⟨w.heap.size, 5, none⟩ = some (.slice none 0 0) := HT4.out.cell 5); (have u5 : W4.frozen? ⟨w.heap.size, 5, none⟩ = false := HT4.out.free 5); (have p6 : W4.cell? ⟨w.heap.size, 6, none⟩ = some (.slice none 0 0) := HT4.out.cell 6); (have u6 : W4.frozen? ⟨w.heap.size, 6, none⟩ = false := HT4.out.free 6))
  have HB6 := hide ((HB4.out.put 0 (.slice (some ⟨g, 0, none⟩) (i + m) c)).put 1 (.int .i64 0))
  have HK5 := hide (((Keeps.refl (fun k => k = b) W4).setCell (p := ⟨b, 0, none⟩) (.inl rfl) (.slice (some ⟨g, 0, none⟩) (i + m) c)).setCell (p := ⟨b, 1, none⟩) (.inl rfl) (.int .i64 0))
  clear k0 k1 y0 y1 l0 l1 l2 l3 l4 l5 l6 p0 p1 p2 p3 p4 p5 p6 u0 u1 u2 u3 u4 u5 u6
  generalize (W4.setCell ⟨b, 0, none⟩ (.slice (some ⟨g, 0, none⟩) (i + m) c)).setCell ⟨b, 1, none⟩ (.int .i64 0) = W5 at *
  have HT6 := hide ((HT4.out.keep HK5.out (fun e => by omega)).put7 (.int .u8 kd) (.bool ng) (.slice la ln lc) (.string tx) (.int .i64 nm) (.slice ia im ic) (.slice ta tn tc))
  have HK6 := hide ((((((((Keeps.refl (fun k => k = w.heap.size) W5).setCell (p := ⟨w.heap.size, 0, none⟩) (.inl rfl) (.int .u8 kd)).setCell (p := ⟨w.heap.size, 1, none⟩) (.inl rfl) (.bool ng)).setCell (p := ⟨w.heap.size, 2, none⟩) (.inl rfl) (.slice la ln lc)).setCell (p := ⟨w.heap.size, 3, none⟩) (.inl rfl) (.string tx)).setCell (p := ⟨w.heap.size, 4, none⟩) (.inl rfl) (.int .i64 nm)).setCell (p := ⟨w.heap.size, 5, none⟩) (.inl rfl) (.slice ia im ic)).setCell (p := ⟨w.heap.size, 6, none⟩) (.inl rfl) (.slice ta tn tc))
  generalize (((((((W5.setCell ⟨w.heap.size, 0, none⟩ (.int .u8 kd)).setCell ⟨w.heap.size, 1, none⟩ (.bool ng)).setCell ⟨w.heap.size, 2, none⟩ (.slice la ln lc)).setCell ⟨w.heap.size, 3, none⟩ (.string tx)).setCell ⟨w.heap.size, 4, none⟩ (.int .i64 nm)).setCell ⟨w.heap.size, 5, none⟩ (.slice ia im ic)).setCell ⟨w.heap.size, 6, none⟩ (.slice ta tn tc)) = wf at *
  have c0 : wf.cell? ⟨w.heap.size, 0, none⟩ = some (.int .u8 kd) := HT6.out.cell 0
  have c1 : wf.cell? ⟨w.heap.size, 1, none⟩ = some (.bool ng) := HT6.out.cell 1
  have c2 : wf.cell? ⟨w.heap.size, 2, none⟩ = some (.slice la ln lc) := HT6.out.cell 2
  have c3 : wf.cell? ⟨w.heap.size, 3, none⟩ = some (.string tx) := HT6.out.cell 3
  have c4 : wf.cell? ⟨w.heap.size, 4, none⟩ = some (.int .i64 nm) := HT6.out.cell 4
  have c5 : wf.cell? ⟨w.heap.size, 5, none⟩ = some (.slice ia im ic) := HT6.out.cell 5
  have c6 : wf.cell? ⟨w.heap.size, 6, none⟩ = some (.slice ta tn tc) := HT6.out.cell 6
  refine bodyPost_ret (v := .tuple #[.agg #[.int .u8 kd, .bool ng, .slice la ln lc, .string tx, .int .i64 nm, .slice ia im ic, .slice ta tn tc], .int .i64 0]) (by simp [results, Try.results16, go_sem, c0, c1, c2, c3, c4, c5, c6]) rfl ?_
  have hbg2 : ¬ g = b := fun e => HSEP.out e.symm
  have k1 : Keeps (boxFp b (.slice (some ⟨g, 0, none⟩) L.length c)) w W3 := HK2.out.drew.trans' HK3.out (fun _ _ h => h.elim) (fun k _ e => .inr (by rw [e]; rfl))
  have k2 : Keeps (boxFp b (.slice (some ⟨g, 0, none⟩) L.length c)) w W4 := k1.trans' HK4.out (fun _ _ h => h) (fun k _ e => .inr (by rw [e]; rfl))
  have k3 : Keeps (boxFp b (.slice (some ⟨g, 0, none⟩) L.length c)) w W5 := k2.trans' HK5.out (fun _ _ h => h) (fun k _ e => .inl e)
  have k4 : Keeps (boxFp b (.slice (some ⟨g, 0, none⟩) L.length c)) w wf := k3.trans' HK6.out (fun _ _ h => h) (fun k hk e => by omega)
  have hgf : Blk wf g 33 (C1.toList.take ((i + m) * 7) ++ zeroT.toList ++ C1.toList.drop ((i + m) * 7 + 7)).toArray := (HG4.out.keep HK5.out hbg2).keep HK6.out (fun e => by omega)
  have hbf : Blk wf b 61 #[.slice (some ⟨g, 0, none⟩) (i + m) c, .int .i64 0, .bool true] := HB6.out.keep HK6.out (fun e => by omega)
  obtain ⟨r1, r2⟩ := take_end H.out HX.out HM.out HCS.out HCM.out HTK.out hnc HC1.out k4 hbf hgf
  exact ⟨_, _, _, _, _, _, _, .slice (some ⟨g, 0, none⟩) (i + m) c, HXC.out, rfl, r1, k4, r2, rfl⟩
end Go.Proofs.Ytmkidkfofbnjgaa
namespace Go.Proofs.Ytmkidkfofbnjgaa
open Go.RowKit

def Told (w : World) (t : Tm) (v2 : Value) (e : Ending) (w' : World) : Prop :=
  ∃ v0 v1 v2' v3 v4 v5 v6, e = .returned (.tuple #[.agg #[v0, v1, v2', v3, v4, v5, v6], v2]) ∧ TermIn w' (Fresh w w') true [v0, v1, v2', v3, v4, v5, v6] t ∧ Keeps NoB w w'

set_option maxRecDepth 100000 in
set_option maxHeartbeats 600000 in
theorem next_yes (b : Nat) (sv : Value) (L : List Lt) (i : Nat) (x : Lt) (w : World) (h : BoxAt w b sv L i) (hx : L[i]? = some x) (hl : L.length ≤ 1024) :
    Calls Try.prog 26 #[.pointer (some ⟨b, 0, none⟩)] w (Told w x.t (.bool true)) := by
  have hi : i < L.length := (List.getElem?_eq_some_iff.1 hx).1
  obtain ⟨A, c, hsv, hnc, hA⟩ := ownsRow_mk h.row
  subst hsv
  obtain ⟨g, hA⟩ : ∃ g, A = some ⟨g, 0, none⟩ := by
    rcases h.row.2 with ⟨_, h0⟩ | ⟨g, cap, cur, hv, _⟩
    · omega
    · injection hv with hv; exact ⟨g, hv⟩
  subst hA
  have HX := hide hx; have H := hide h
  have hic : ¬ c = i := by omega
  have HS0 : Blk (w.alloc (.cells zeroT 33)).drew b 61 #[.slice (some ⟨g, 0, none⟩) L.length c, .int .i64 i, .bool true] := (h.blk.alloc _).drew
  have hK0 : Keeps NoB w (w.alloc (.cells zeroT 33)).drew := ((Keeps.refl NoB w).alloc _).drew
  have HT0 := hide (Blk.new w 33 zeroT)
  clear h hx hA
  go_enter Try.func26, Try.ntmps26
  go_wp2_with fail
  refine order_begin (fun W => Blk W b 61 #[.slice (some ⟨g, 0, none⟩) L.length c, .int .i64 i, .bool true]) (fun _ => true) (by kernel_rfl) 15 rfl ?_
  have HS := HS0; clear HS0
  refine order_pure (i := 0) rfl (by kernel_rfl) (fun _ _ _ h => h) (.inl ⟨rfl, fun _ => by go_simp; rfl⟩) ?_
  try simp only [Act.put, List.setIfInBounds_toArray, List.set_cons_succ, List.set_cons_zero]
  refine order_one (i := 1) rfl (by kernel_rfl) (fun K hK => ?_)
  go_simp
  refine (known_at b true _ (HS.cell 2)).mono ?_
  rintro e w' ⟨rfl, rfl⟩
  refine hK _ _ (fun _ h => h) ?_
  clear hK
  try simp only [Act.put, List.setIfInBounds_toArray, List.set_cons_succ, List.set_cons_zero]
  refine order_pure (i := 2) rfl (by kernel_rfl) (fun _ _ _ h => h) (.inl ⟨rfl, fun _ => by go_simp; rfl⟩) ?_
  try simp only [Act.put, List.setIfInBounds_toArray, List.set_cons_succ, List.set_cons_zero]
  refine order_pure (i := 3) rfl (by kernel_rfl) (fun _ _ _ h => h) (.inl ⟨rfl, fun _ => by go_simp; rfl⟩) ?_
  try simp only [Act.put, List.setIfInBounds_toArray, List.set_cons_succ, List.set_cons_zero]
  refine order_pure (i := 4) rfl (by kernel_rfl) (fun _ _ _ h => h) (.inl ⟨rfl, fun _ => by go_simp; rfl⟩) ?_
  try simp only [Act.put, List.setIfInBounds_toArray, List.set_cons_succ, List.set_cons_zero]
  refine order_pure (i := 5) rfl (by kernel_rfl) (fun _ _ _ h => h) (.inl ⟨rfl, fun _ => by go_simp; rfl⟩) ?_
  try simp only [Act.put, List.setIfInBounds_toArray, List.set_cons_succ, List.set_cons_zero]
  refine order_pure (i := 6) rfl (by kernel_rfl) (fun _ _ _ h => h) (.inl ⟨rfl, fun _ => by go_simp; rfl⟩) ?_
  try simp only [Act.put, List.setIfInBounds_toArray, List.set_cons_succ, List.set_cons_zero]
  refine order_held (i := 7) rfl (by kernel_rfl) (fun _ _ _ h => h) (.inl ⟨rfl, fun W hW => by
    have q0 : W.cell? ⟨b, 1, none⟩ = some (.int .i64 i) := hW.cell 1
    go_simp; rfl⟩) HS ?_
  try simp only [Act.put, List.setIfInBounds_toArray, List.set_cons_succ, List.set_cons_zero]
  refine order_pure (i := 8) rfl (by kernel_rfl) (fun _ _ _ h => h) (.inl ⟨rfl, fun _ => by go_simp; rfl⟩) ?_
  try simp only [Act.put, List.setIfInBounds_toArray, List.set_cons_succ, List.set_cons_zero]
  refine order_pure (i := 9) rfl (by kernel_rfl) (fun _ _ _ h => h) (.inl ⟨rfl, fun _ => by go_simp; rfl⟩) ?_
  try simp only [Act.put, List.setIfInBounds_toArray, List.set_cons_succ, List.set_cons_zero]
  refine order_pure (i := 10) rfl (by kernel_rfl) (fun _ _ _ h => h) (.inl ⟨rfl, fun _ => by go_simp; rfl⟩) ?_
  try simp only [Act.put, List.setIfInBounds_toArray, List.set_cons_succ, List.set_cons_zero]
  refine order_held (i := 11) rfl (by kernel_rfl) (fun _ _ _ h => h) (.inl ⟨rfl, fun W hW => by
    have q0 : W.cell? ⟨b, 0, none⟩ = some (.slice (some ⟨g, 0, none⟩) L.length c) := hW.cell 0
    go_simp; rfl⟩) HS ?_
  try simp only [Act.put, List.setIfInBounds_toArray, List.set_cons_succ, List.set_cons_zero]
  refine order_pure (i := 12) rfl (by kernel_rfl) (fun _ _ _ h => h) (.inl ⟨rfl, fun _ => by go_simp; rfl⟩) ?_
  try simp only [Act.put, List.setIfInBounds_toArray, List.set_cons_succ, List.set_cons_zero]
  refine order_pure (i := 13) rfl (by kernel_rfl) (fun _ _ _ h => h) (.inl ⟨rfl, fun _ => by go_simp; rfl⟩) ?_
  try simp only [Act.put, List.setIfInBounds_toArray, List.set_cons_succ, List.set_cons_zero]
  refine order_pure (i := 14) rfl (by kernel_rfl) (fun _ _ _ h => h) (.inl ⟨rfl, fun _ => by go_simp; rfl⟩) ?_
  try simp only [Act.put, List.setIfInBounds_toArray, List.set_cons_succ, List.set_cons_zero]
  refine order_done (by kernel_rfl) ?_
  have HSn := hide HS
  have HK0 := hide hK0
  clear HS hK0
  go_wp2_with fail
  refine order_begin (fun W => Blk W b 61 #[.slice (some ⟨g, 0, none⟩) L.length c, .int .i64 i, .bool true]) (fun j => !(j == 17 || j == 18)) (by kernel_rfl) 19 rfl ?_
  have HS := HSn.out.drew; clear HSn
  refine order_pure (i := 0) rfl (by kernel_rfl) (fun _ _ _ h => h) (.inl ⟨rfl, fun _ => by go_simp; rfl⟩) ?_
  try simp only [Act.put, List.setIfInBounds_toArray, List.set_cons_succ, List.set_cons_zero]
  refine order_pure (i := 1) rfl (by kernel_rfl) (fun _ _ _ h => h) (.inl ⟨rfl, fun _ => by go_simp; rfl⟩) ?_
  try simp only [Act.put, List.setIfInBounds_toArray, List.set_cons_succ, List.set_cons_zero]
  refine order_pure (i := 2) rfl (by kernel_rfl) (fun _ _ _ h => h) (.inl ⟨rfl, fun _ => by go_simp; rfl⟩) ?_
  try simp only [Act.put, List.setIfInBounds_toArray, List.set_cons_succ, List.set_cons_zero]
  refine order_held (i := 3) rfl (by kernel_rfl) (fun _ _ _ h => h) (.inl ⟨rfl, fun W hW => by
    have q0 : W.cell? ⟨b, 0, none⟩ = some (.slice (some ⟨g, 0, none⟩) L.length c) := hW.cell 0
    go_simp; rfl⟩) HS ?_
  try simp only [Act.put, List.setIfInBounds_toArray, List.set_cons_succ, List.set_cons_zero]
  refine order_pure (i := 4) rfl (by kernel_rfl) (fun _ _ _ h => h) (.inl ⟨rfl, fun _ => by go_simp; rfl⟩) ?_
  try simp only [Act.put, List.setIfInBounds_toArray, List.set_cons_succ, List.set_cons_zero]
  refine order_pure (i := 5) rfl (by kernel_rfl) (fun _ _ _ h => h) (.inl ⟨rfl, fun _ => by go_simp; rfl⟩) ?_
  try simp only [Act.put, List.setIfInBounds_toArray, List.set_cons_succ, List.set_cons_zero]
  refine order_pure (i := 6) rfl (by kernel_rfl) (fun _ _ _ h => h) (.inl ⟨rfl, fun _ => by go_simp; rfl⟩) ?_
  try simp only [Act.put, List.setIfInBounds_toArray, List.set_cons_succ, List.set_cons_zero]
  refine order_held (i := 7) rfl (by kernel_rfl) (fun _ _ _ h => h) (.inl ⟨rfl, fun W hW => by
    have q0 : W.cell? ⟨b, 1, none⟩ = some (.int .i64 i) := hW.cell 1
    go_simp; rfl⟩) HS ?_
  try simp only [Act.put, List.setIfInBounds_toArray, List.set_cons_succ, List.set_cons_zero]
  refine order_pure (i := 8) rfl (by kernel_rfl) (fun _ _ _ h => h) (.inl ⟨rfl, fun _ => by go_simp; rfl⟩) ?_
  try simp only [Act.put, List.setIfInBounds_toArray, List.set_cons_succ, List.set_cons_zero]
  refine order_pure (i := 9) rfl (by kernel_rfl) (fun _ _ _ h => h) (.inl ⟨rfl, fun _ => by go_simp; rfl⟩) ?_
  try simp only [Act.put, List.setIfInBounds_toArray, List.set_cons_succ, List.set_cons_zero]
  refine order_pure (i := 10) rfl (by kernel_rfl) (fun _ _ _ h => h) (.inl ⟨rfl, fun _ => by go_simp; rfl⟩) ?_
  try simp only [Act.put, List.setIfInBounds_toArray, List.set_cons_succ, List.set_cons_zero]
  refine order_held (i := 11) rfl (by kernel_rfl) (fun _ _ _ h => h) (.inl ⟨rfl, fun W hW => by
    have q0 : W.cell? ⟨b, 1, none⟩ = some (.int .i64 i) := hW.cell 1
    go_simp; rfl⟩) HS ?_
  try simp only [Act.put, List.setIfInBounds_toArray, List.set_cons_succ, List.set_cons_zero]
  have hwr : IntKind.i64.wrap ((i : Int) + 1) = (i : Int) + 1 := IntWalk.i64_in _ (by omega)
  have hw0 : (0 : Int) ≤ (i : Int) + 1 := by omega
  have hw1 : ((i : Int) + 1).toNat = i + 1 := by omega
  have hw2 : i + 1 ≤ c := by omega
  have hw3 : i ≤ i + 1 := by omega
  refine order_pure (i := 12) rfl (by kernel_rfl) (fun _ _ _ h => h) (.inl ⟨rfl, fun _ => by go_simp; rfl⟩) ?_
  try simp only [Act.put, List.setIfInBounds_toArray, List.set_cons_succ, List.set_cons_zero]
  refine order_pure (i := 13) (v := .slice (some ⟨g, i * 7, none⟩) 1 (c - i)) rfl (by kernel_rfl) (fun _ _ _ h => h) (.inl ⟨rfl, fun W => by go_simp; intro hlt; omega⟩) ?_
  try simp only [Act.put, List.setIfInBounds_toArray, List.set_cons_succ, List.set_cons_zero]
  have HWf := hide (And.intro hwr (And.intro hw0 (And.intro hw1 (And.intro hw2 hw3))))
  clear hwr hw0 hw1 hw2 hw3
  have HK1 := hide (HK0.out.drew)
  have HT1 := hide (HT0.out.drew.drew)
  clear HT0
  generalize (w.alloc (.cells zeroT 33)).drew.drew = W1 at *
  refine order_one (i := 14) rfl (by kernel_rfl) (fun K hK => ?_)
  go_simp
  refine (own_any [x.t] [x.cs] (some ⟨g, i * 7, none⟩) 1 (c - i) W1 (fun _ => True) true (row_at (H.out.fresh HK1.out).row H.out.lens HX.out) (TermsIn.one (TermIn.more (fun _ _ _ => trivial) _ _ ((H.out.fresh HK1.out).ok x (List.mem_of_getElem? HX.out)).1)) (Roomy.small (by omega) (by omega))).mono ?_
  rintro e w2 ⟨A5, c5, css5, m5, rfl, hc5, hm5, hn5, hr5, ht5, hbel5⟩
  obtain ⟨y, rfl⟩ : ∃ y, css5 = [y] := by
    have := ht5.lens.1
    match css5, this with
    | [y], _ => exact ⟨y, rfl⟩
  have ht5 : TermIn w2 (fun k => m5 ≤ k ∧ k < w2.heap.size) true y x.t := by unfold TermsIn at ht5; exact ht5.1
  obtain ⟨kd, ng, la, ln, lc, tx, nm, ia, im, ic, ta, tn, tc, rfl, heq⟩ := ht5.cells
  clear heq
  obtain ⟨_, hAd⟩ := hr5
  obtain ⟨⟨gb, go, sp⟩, rfl, hs, hB, hgl, hcells⟩ := hAd (by omega)
  simp only at hs
  subst hs
  have f0 : w2.cell? ⟨gb, go, none⟩ = some (.int .u8 kd) := (hcells 0 _ rfl).1
  have f1 : w2.cell? ⟨gb, go + 1, none⟩ = some (.bool ng) := (hcells 1 _ rfl).1
  have f2 : w2.cell? ⟨gb, go + 2, none⟩ = some (.slice la ln lc) := (hcells 2 _ rfl).1
  have f3 : w2.cell? ⟨gb, go + 3, none⟩ = some (.string tx) := (hcells 3 _ rfl).1
  have f4 : w2.cell? ⟨gb, go + 4, none⟩ = some (.int .i64 nm) := (hcells 4 _ rfl).1
  have f5 : w2.cell? ⟨gb, go + 5, none⟩ = some (.slice ia im ic) := (hcells 5 _ rfl).1
  have f6 : w2.cell? ⟨gb, go + 6, none⟩ = some (.slice ta tn tc) := (hcells 6 _ rfl).1
  have HF := hide (And.intro f0 (And.intro f1 (And.intro f2 (And.intro f3 (And.intro f4 (And.intro f5 f6))))))
  have HK5 := hide (Keeps.of_below hbel5 NoB)
  have HT5 := hide ht5
  have HB2 := hide (HT1.out.keep HK5.out id)
  have HM := hide (And.intro hm5 hn5)
  clear f0 f1 f2 f3 f4 f5 f6 hcells hB hAd ht5 hbel5 hm5 hn5 hc5
  refine hK _ _ (fun _ hS => hS.keep HK5.out id) ?_
  clear hK
  try simp only [Act.put, List.setIfInBounds_toArray, List.set_cons_succ, List.set_cons_zero]
  refine order_pure (i := 15) rfl (by kernel_rfl) (fun _ _ _ h => h) (.inl ⟨rfl, fun _ => by go_simp; rfl⟩) ?_
  try simp only [Act.put, List.setIfInBounds_toArray, List.set_cons_succ, List.set_cons_zero]
  obtain ⟨f0, f1, f2, f3, f4, f5, f6⟩ := HF.out
  refine order_one (i := 16) rfl (by kernel_rfl) (fun K hK => ?_)
  go_simp
  refine hK _ _ (fun _ hS => hS) ?_
  clear hK
  try simp only [Act.put, List.setIfInBounds_toArray, List.set_cons_succ, List.set_cons_zero]
  clear f0 f1 f2 f3 f4 f5 f6
  have s0 : w2.cell? ⟨w.heap.size, 0, none⟩ = some (.int .u8 0) := HB2.out.cell 0
  have s1 : w2.cell? ⟨w.heap.size, 1, none⟩ = some (.bool false) := HB2.out.cell 1
  have s2 : w2.cell? ⟨w.heap.size, 2, none⟩ = some (.slice none 0 0) := HB2.out.cell 2
  have s3 : w2.cell? ⟨w.heap.size, 3, none⟩ = some (.string ByteArray.empty) := HB2.out.cell 3
  have s4 : w2.cell? ⟨w.heap.size, 4, none⟩ = some (.int .i64 0) := HB2.out.cell 4
  have s5 : w2.cell? ⟨w.heap.size, 5, none⟩ = some (.slice none 0 0) := HB2.out.cell 5
  have s6 : w2.cell? ⟨w.heap.size, 6, none⟩ = some (.slice none 0 0) := HB2.out.cell 6
  have z0 := HB2.out.free 0
  have z1 := HB2.out.free 1
  have z2 := HB2.out.free 2
  have z3 := HB2.out.free 3
  have z4 := HB2.out.free 4
  have z5 := HB2.out.free 5
  have z6 := HB2.out.free 6
  refine order_one (i := 17) rfl (by kernel_rfl) (fun K hK => ?_)
  go_simp
  refine hK _ _ (fun h => absurd h (by decide)) ?_
  clear hK
  try simp only [Act.put, List.setIfInBounds_toArray, List.set_cons_succ, List.set_cons_zero]
  clear s0 s1 s2 s3 s4 s5 s6 z0 z1 z2 z3 z4 z5 z6
  have HBf := hide (HB2.out.put7 (.int .u8 kd) (.bool ng) (.slice la ln lc) (.string tx) (.int .i64 nm) (.slice ia im ic) (.slice ta tn tc))
  have HKf := hide ((((((((Keeps.refl (fun k => k = w.heap.size) w2).setCell (p := ⟨w.heap.size, 0, none⟩) (.inl rfl) (.int .u8 kd)).setCell (p := ⟨w.heap.size, 1, none⟩) (.inl rfl) (.bool ng)).setCell (p := ⟨w.heap.size, 2, none⟩) (.inl rfl) (.slice la ln lc)).setCell (p := ⟨w.heap.size, 3, none⟩) (.inl rfl) (.string tx)).setCell (p := ⟨w.heap.size, 4, none⟩) (.inl rfl) (.int .i64 nm)).setCell (p := ⟨w.heap.size, 5, none⟩) (.inl rfl) (.slice ia im ic)).setCell (p := ⟨w.heap.size, 6, none⟩) (.inl rfl) (.slice ta tn tc))
  generalize (((((((w2.setCell ⟨w.heap.size, 0, none⟩ (.int .u8 kd)).setCell ⟨w.heap.size, 1, none⟩ (.bool ng)).setCell ⟨w.heap.size, 2, none⟩ (.slice la ln lc)).setCell ⟨w.heap.size, 3, none⟩ (.string tx)).setCell ⟨w.heap.size, 4, none⟩ (.int .i64 nm)).setCell ⟨w.heap.size, 5, none⟩ (.slice ia im ic)).setCell ⟨w.heap.size, 6, none⟩ (.slice ta tn tc)) = wf at *
  refine order_pure (i := 18) rfl (by kernel_rfl) (fun _ _ _ h => h) (.inl ⟨rfl, fun _ => by go_simp; rfl⟩) ?_
  try simp only [Act.put, List.setIfInBounds_toArray, List.set_cons_succ, List.set_cons_zero]
  refine order_done (by kernel_rfl) ?_
  go_wp2
  have c0 : wf.cell? ⟨w.heap.size, 0, none⟩ = some (.int .u8 kd) := HBf.out.cell 0
  have c1 : wf.cell? ⟨w.heap.size, 1, none⟩ = some (.bool ng) := HBf.out.cell 1
  have c2 : wf.cell? ⟨w.heap.size, 2, none⟩ = some (.slice la ln lc) := HBf.out.cell 2
  have c3 : wf.cell? ⟨w.heap.size, 3, none⟩ = some (.string tx) := HBf.out.cell 3
  have c4 : wf.cell? ⟨w.heap.size, 4, none⟩ = some (.int .i64 nm) := HBf.out.cell 4
  have c5 : wf.cell? ⟨w.heap.size, 5, none⟩ = some (.slice ia im ic) := HBf.out.cell 5
  have c6 : wf.cell? ⟨w.heap.size, 6, none⟩ = some (.slice ta tn tc) := HBf.out.cell 6
  refine bodyPost_ret (v := .tuple #[.agg #[.int .u8 kd, .bool ng, .slice la ln lc, .string tx, .int .i64 nm, .slice ia im ic, .slice ta tn tc], .bool true]) (by simp [results, Try.results26, go_sem, c0, c1, c2, c3, c4, c5, c6]) rfl ?_
  have hlt := HT1.out.lt
  obtain ⟨hm5, hn5⟩ := HM.out
  have hsf := HKf.out.size
  exact ⟨_, _, _, _, _, _, _, rfl, TermIn.more (fun k _ hk => ⟨by have := hk.1; omega, by have := hk.2; omega⟩) _ _ (TermIn.keep HKf.out (fun k hk e => by have := hk.1; omega) _ _ HT5.out), (HK1.out.trans' HK5.out (fun _ _ => id) (fun _ _ => id) : Keeps NoB w w2).trans' HKf.out (fun _ _ => id) (fun k hk e => by omega)⟩
end Go.Proofs.Ytmkidkfofbnjgaa
namespace Go.Proofs.Ytmkidkfofbnjgaa
open Go.RowKit

def PutPost (w : World) (b : Nat) (sv : Value) (L : List Lt) (i : Nat) (t : Tm) (e : Ending) (w' : World) : Prop :=
  ∃ sv' x, e = .returned (.int .i64 0) ∧ x.t = t ∧ w.heap.size ≤ x.lo ∧ BoxAt w' b sv' (L ++ [x]) i ∧ Keeps (boxFp b sv) w w' ∧ (sv'.ownBlock = sv.ownBlock ∨ ∃ g, sv'.ownBlock = some g ∧ w.heap.size ≤ g)

theorem put_end {w W1 w2 w3 w4 : World} {b : Nat} {A A3 A5 : Option Addr} {c c3 m5 : Nat} {L : List Lt} {i : Nat} {t : Tm} {css5 : List (List Value)} (h : BoxAt w b (.slice A L.length c) L i) (hl : L.length < 1024)
    (hk2 : Keeps NoB w w2) (ho : m5 ≤ w2.heap.size ∧ W1.heap.size ≤ m5 ∧ Reads w2 (fun k => W1.heap.size ≤ k ∧ k < m5) true 7 A5 1 (List.flatten css5) ∧ TermsIn w2 (fun k => m5 ≤ k ∧ k < w2.heap.size) true css5 [t])
    (hk3 : Keeps (boxFp b (.slice A L.length c)) w2 w3) (hk4 : Keeps (fun x => x = b) w3 w4) (hown : w3.ownsRow 0 33 7 (.slice A3 (L.length + 1) c3) (L.length + 1) ((cellsOf L).flatten ++ css5.flatten))
    (hat : (Value.slice A3 (L.length + 1) c3).ownBlock = (Value.slice A L.length c).ownBlock ∨ (Value.slice A3 (L.length + 1) c3).ownBlock = some w2.heap.size)
    (hb4 : Blk w4 b 61 (#[.slice A L.length c, .int .i64 i, .bool true].setIfInBounds 0 (.slice A3 (L.length + 1) c3))) (hw1 : w.heap.size ≤ W1.heap.size) :
    PutPost w b (.slice A L.length c) L i t (.returned (.int .i64 0)) w4 := by
  obtain ⟨hm5, hn5, hr5, ht5⟩ := ho
  obtain ⟨x5, rfl⟩ : ∃ x, css5 = [x] := by
    have := ht5.lens.1
    match css5, this with
    | [x], _ => exact ⟨x, rfl⟩
  have ht5 : TermIn w2 (fun k => m5 ≤ k ∧ k < w2.heap.size) true x5 t := by unfold TermsIn at ht5; exact ht5.1
  have hbl := h.blk.lt
  have hgt : ∀ g, (Value.slice A L.length c).ownBlock = some g → g < w.heap.size := fun g hg => ownsRow_lt h.row hg
  have hs2 := hk2.size
  have hs3 := hk3.size
  have hs4 := hk4.size
  have hsep3 : (Value.slice A3 (L.length + 1) c3).ownBlock ≠ some b := by
    rcases hat with e | e <;> rw [e]
    · exact h.sep
    · intro e; injection e; omega
  have hk24 : Keeps (boxFp b (.slice A L.length c)) w2 w4 := hk3.trans' hk4 (fun _ _ h => h) (fun _ _ h => .inl h)
  have hk4' : Keeps (boxFp b (.slice A L.length c)) w w4 := hk2.trans' hk24 (fun _ _ h => h.elim) (fun _ _ h => h)
  have hx : TermIn w4 (fun k => m5 ≤ k ∧ k < w2.heap.size) true x5 t := TermIn.keep hk24 (fun k hB hf => by
    rcases hf with hf | hf
    · have := hB.1; omega
    · have := hgt _ hf; have := hB.1; omega) _ _ ht5
  refine ⟨.slice A3 (L.length + 1) c3, ⟨x5, t, m5, w2.heap.size⟩, rfl, rfl, by simp only; omega, ⟨hb4, ?_, ?_, ?_, ?_⟩, hk4', ?_⟩
  · have := ownsRow_keep hown hk4 (fun g hg e => hsep3 (by rw [hg, e]))
    simpa using this
  · intro y hy
    rcases List.mem_append.1 hy with hy | hy
    · exact (h.ok y hy).keep hk4' (fun k hf => by
        rcases hf with rfl | hf
        · exact (h.off y hy).1
        · exact (h.off y hy).2 k hf)
    · rw [List.mem_singleton] at hy
      subst hy
      exact ⟨hx, hm5, by simp only; omega⟩
  · intro y hy
    rcases List.mem_append.1 hy with hy | hy
    · refine ⟨(h.off y hy).1, fun g hg => ?_⟩
      rcases hat with e | e <;> rw [e] at hg
      · exact (h.off y hy).2 g hg
      · injection hg with hg
        have := (h.ok y hy).2.2
        exact .inr (by omega)
    · rw [List.mem_singleton] at hy
      subst hy
      refine ⟨.inl (by simp only; omega), fun g hg => ?_⟩
      rcases hat with e | e <;> rw [e] at hg
      · have := hgt g hg
        exact .inl (by simp only; omega)
      · injection hg with hg
        exact .inr (by simp only; omega)
  · rw [List.pairwise_append]
    refine ⟨h.apart, List.pairwise_singleton _ _, fun y hy z hz => ?_⟩
    rw [List.mem_singleton] at hz
    subst hz
    have := (h.ok y hy).2.2
    simp only
    omega
  · rcases hat with e | e
    · exact .inl e
    · exact .inr ⟨_, e, hs2⟩

set_option maxRecDepth 100000 in
set_option maxHeartbeats 1000000 in
theorem put_yes (b : Nat) (sv : Value) (L : List Lt) (i : Nat) (w : World) (h : BoxAt w b sv L i) (hl : L.length < 1024)
    (kd : Int) (ng : Bool) (la : Option Addr) (ln lc : Nat) (tx : ByteArray) (nm : Int) (ia : Option Addr) (im ic : Nat) (ta : Option Addr) (tn tc : Nat) (t : Tm) (B : Nat → Prop) (F : Bool)
    (ht : TermIn w B F [.int .u8 kd, .bool ng, .slice la ln lc, .string tx, .int .i64 nm, .slice ia im ic, .slice ta tn tc] t) :
    Calls Try.prog 10 #[.pointer (some ⟨b, 0, none⟩), .agg #[.int .u8 kd, .bool ng, .slice la ln lc, .string tx, .int .i64 nm, .slice ia im ic, .slice ta tn tc]] w (PutPost w b sv L i t) := by
  obtain ⟨i0, hi0, hz0, hz1, hz2⟩ := info_parts Try.info33
  obtain ⟨A, c, hsv, hnc, _⟩ := ownsRow_mk h.row
  subst hsv
  have H := hide h; have HT := hide ht
  have hk2 : w.cell? ⟨b, 2, none⟩ = some (.bool true) := h.blk.cell 2
  have hk0 : w.cell? ⟨b, 0, none⟩ = some (.slice A L.length c) := h.blk.cell 0
  have hbl : b < w.heap.size := h.blk.lt
  have hk2' : (w.alloc (.cells #[.int .u8 kd, .bool ng, .slice la ln lc, .string tx, .int .i64 nm, .slice ia im ic, .slice ta tn tc] 33)).cell? ⟨b, 2, none⟩ = some (.bool true) := (World.cell?_alloc_lt _ _ _ hbl).trans hk2
  clear h ht
  go_enter Try.func10, Try.ntmps10
  go_wp2_with (go_at_call 32; refine (known_at b true _ hk2').mono ?_; rintro e w' ⟨rfl, rfl⟩)
  have HS0 : Blk (w.alloc (.cells #[.int .u8 kd, .bool ng, .slice la ln lc, .string tx, .int .i64 nm, .slice ia im ic, .slice ta tn tc] 33)).drew b 61 #[.slice A L.length c, .int .i64 i, .bool true] ∧ Blk (w.alloc (.cells #[.int .u8 kd, .bool ng, .slice la ln lc, .string tx, .int .i64 nm, .slice ia im ic, .slice ta tn tc] 33)).drew w.heap.size 33 #[.int .u8 kd, .bool ng, .slice la ln lc, .string tx, .int .i64 nm, .slice ia im ic, .slice ta tn tc] := ⟨(H.out.blk.alloc _).drew, Blk.new w 33 _⟩
  have HK0 := hide ((((Keeps.refl NoB w).alloc (.cells #[.int .u8 kd, .bool ng, .slice la ln lc, .string tx, .int .i64 nm, .slice ia im ic, .slice ta tn tc] 33)).drew))
  refine order_begin (fun W => Blk W b 61 #[.slice A L.length c, .int .i64 i, .bool true] ∧ Blk W w.heap.size 33 #[.int .u8 kd, .bool ng, .slice la ln lc, .string tx, .int .i64 nm, .slice ia im ic, .slice ta tn tc]) (fun j => !(j == 11)) (by kernel_rfl) 12 rfl ?_
  clear hk2'
  generalize (w.alloc (.cells #[.int .u8 kd, .bool ng, .slice la ln lc, .string tx, .int .i64 nm, .slice ia im ic, .slice ta tn tc] 33)).drew = W0 at *
  have HS := HS0
  clear HS0
  refine order_pure (i := 0) rfl (by kernel_rfl) (fun _ _ _ h => h) (.inl ⟨rfl, fun _ => by go_simp; rfl⟩) ?_
  try simp only [Act.put, List.setIfInBounds_toArray, List.set_cons_succ, List.set_cons_zero]
  refine order_pure (i := 1) rfl (by kernel_rfl) (fun _ _ _ h => h) (.inl ⟨rfl, fun _ => by go_simp; rfl⟩) ?_
  try simp only [Act.put, List.setIfInBounds_toArray, List.set_cons_succ, List.set_cons_zero]
  refine order_pure (i := 2) rfl (by kernel_rfl) (fun _ _ _ h => h) (.inl ⟨rfl, fun _ => by go_simp; rfl⟩) ?_
  try simp only [Act.put, List.setIfInBounds_toArray, List.set_cons_succ, List.set_cons_zero]
  refine order_pure (i := 3) rfl (by kernel_rfl) (fun _ _ _ h => h) (.inl ⟨rfl, fun _ => by go_simp; rfl⟩) ?_
  try simp only [Act.put, List.setIfInBounds_toArray, List.set_cons_succ, List.set_cons_zero]
  refine order_held (i := 4) rfl (by kernel_rfl) (fun _ _ _ h => h) (.inl ⟨rfl, fun W hW => by
    have q0 : W.cell? ⟨b, 0, none⟩ = some (.slice A L.length c) := hW.1.cell 0
    go_simp; rfl⟩) HS ?_
  try simp only [Act.put, List.setIfInBounds_toArray, List.set_cons_succ, List.set_cons_zero]
  refine order_held (i := 5) rfl (by kernel_rfl) (fun _ _ _ h => h) (.inl ⟨rfl, fun W hW => by
    have q0 : W.cell? ⟨w.heap.size, 0, none⟩ = some (.int .u8 kd) := hW.2.cell 0
    have q1 : W.cell? ⟨w.heap.size, 1, none⟩ = some (.bool ng) := hW.2.cell 1
    have q2 : W.cell? ⟨w.heap.size, 2, none⟩ = some (.slice la ln lc) := hW.2.cell 2
    have q3 : W.cell? ⟨w.heap.size, 3, none⟩ = some (.string tx) := hW.2.cell 3
    have q4 : W.cell? ⟨w.heap.size, 4, none⟩ = some (.int .i64 nm) := hW.2.cell 4
    have q5 : W.cell? ⟨w.heap.size, 5, none⟩ = some (.slice ia im ic) := hW.2.cell 5
    have q6 : W.cell? ⟨w.heap.size, 6, none⟩ = some (.slice ta tn tc) := hW.2.cell 6
    go_simp; rfl⟩) HS ?_
  try simp only [Act.put, List.setIfInBounds_toArray, List.set_cons_succ, List.set_cons_zero]
  refine order_one (i := 6) rfl (by kernel_rfl) (fun K hK => ?_)
  go_simp
  refine hK _ _ (fun _ hS => ⟨hS.1.alloc _, hS.2.alloc _⟩) ?_
  clear hK
  have HS1 : Blk (W0.alloc (.cells #[.int .u8 kd, .bool ng, .slice la ln lc, .string tx, .int .i64 nm, .slice ia im ic, .slice ta tn tc] 33)) b 61 #[.slice A L.length c, .int .i64 i, .bool true] ∧ Blk (W0.alloc (.cells #[.int .u8 kd, .bool ng, .slice la ln lc, .string tx, .int .i64 nm, .slice ia im ic, .slice ta tn tc] 33)) w.heap.size 33 #[.int .u8 kd, .bool ng, .slice la ln lc, .string tx, .int .i64 nm, .slice ia im ic, .slice ta tn tc] := ⟨HS.1.alloc _, HS.2.alloc _⟩
  have HK1 := hide (HK0.out.alloc (.cells #[.int .u8 kd, .bool ng, .slice la ln lc, .string tx, .int .i64 nm, .slice ia im ic, .slice ta tn tc] 33))
  have hrd : Reads (W0.alloc (.cells #[.int .u8 kd, .bool ng, .slice la ln lc, .string tx, .int .i64 nm, .slice ia im ic, .slice ta tn tc] 33)) (fun _ => True) false 7 (some ⟨W0.heap.size, 0, none⟩) 1 (List.flatten [[.int .u8 kd, .bool ng, .slice la ln lc, .string tx, .int .i64 nm, .slice ia im ic, .slice ta tn tc]]) := by
    refine ⟨rfl, fun _ => ⟨_, rfl, rfl, trivial, (Blk.new W0 33 #[.int .u8 kd, .bool ng, .slice la ln lc, .string tx, .int .i64 nm, .slice ia im ic, .slice ta tn tc]).lt, fun j u hu => ⟨?_, fun h => by cases h⟩⟩⟩
    simp only [Nat.zero_add]
    rw [(Blk.new W0 33 #[.int .u8 kd, .bool ng, .slice la ln lc, .string tx, .int .i64 nm, .slice ia im ic, .slice ta tn tc]).cell j]
    simpa using hu
  have HRD := hide hrd
  clear hrd
  generalize W0.alloc (.cells #[.int .u8 kd, .bool ng, .slice la ln lc, .string tx, .int .i64 nm, .slice ia im ic, .slice ta tn tc] 33) = W1 at *
  try simp only [Act.put, List.setIfInBounds_toArray, List.set_cons_succ, List.set_cons_zero]
  refine order_one (i := 7) rfl (by kernel_rfl) (fun K hK => ?_)
  go_simp
  refine (own_any [t] [[.int .u8 kd, .bool ng, .slice la ln lc, .string tx, .int .i64 nm, .slice ia im ic, .slice ta tn tc]] (some ⟨W0.heap.size, 0, none⟩) 1 1 W1 (fun _ => True) false HRD.out (TermsIn.one (TermIn.more (fun _ _ _ => trivial) _ _ (TermIn.weak _ _ (TermIn.keep HK1.out (fun _ _ => id) _ _ HT.out)))) (Roomy.small (by omega) (by omega))).mono ?_
  rintro e w2 ⟨A5, c5, css5, m5, rfl, hc5, hm5, hn5, hr5, ht5, hbel5⟩
  have HO5 := hide (And.intro hm5 (And.intro hn5 (And.intro hr5 ht5)))
  have HK5 := hide (Keeps.of_below hbel5 NoB)
  clear hm5 hn5 hr5 ht5 hbel5
  refine hK _ _ (fun _ hS => ⟨hS.1.keep HK5.out id, hS.2.keep HK5.out id⟩) ?_
  clear hK
  have HS2 : Blk w2 b 61 #[.slice A L.length c, .int .i64 i, .bool true] ∧ Blk w2 w.heap.size 33 #[.int .u8 kd, .bool ng, .slice la ln lc, .string tx, .int .i64 nm, .slice ia im ic, .slice ta tn tc] := ⟨HS1.1.keep HK5.out id, HS1.2.keep HK5.out id⟩
  have HK2 := hide (HK1.out.trans' HK5.out (fun _ _ => id) (fun _ _ => id) : Keeps NoB w w2)
  try simp only [Act.put, List.setIfInBounds_toArray, List.set_cons_succ, List.set_cons_zero]
  refine order_one (i := 8) rfl (by kernel_rfl) (fun K hK => ?_)
  have hb2 := hide (H.out.fresh HK2.out)
  refine step_append_reads _ rfl (.tmp 20) (.tmp 23) 25 rfl 0 33 i0 _ 7 104 Try.underlying25 hi0 hz0 hz1 hz2 rfl (by omega) (.slice A L.length c) L.length (cellsOf L).flatten rfl hb2.out.row (fun k => W1.heap.size ≤ k ∧ k < m5) true A5 1 c5 css5.flatten rfl HO5.out.2.2.1 (TermsIn.ones _ _ HO5.out.2.2.2) (by unfold maxLen; omega) (Roomy.small (by omega) (by omega)) (Nat.zero_le _) ?_
  intro v3 w3 hown3 hg3 hat3
  obtain ⟨A3, c3, hv3, hnc3, _⟩ := ownsRow_mk hown3
  subst hv3
  have hsep := hb2.out.sep
  have HK3 := hide ((Keeps.refl (boxFp b (.slice A L.length c)) w2).grown hg3 (fun k h _ => .inr h))
  have hgt : ∀ g, (Value.slice A L.length c).ownBlock = some g → g < w.heap.size := fun g hg => ownsRow_lt H.out.row hg
  have HS3 : Blk w3 b 61 #[.slice A L.length c, .int .i64 i, .bool true] ∧ Blk w3 w.heap.size 33 #[.int .u8 kd, .bool ng, .slice la ln lc, .string tx, .int .i64 nm, .slice ia im ic, .slice ta tn tc] := by
    refine ⟨(hg3.block b HS2.1.lt (fun e => hsep e.symm)).trans HS2.1, (hg3.block _ HS2.2.lt (fun e => ?_)).trans HS2.2⟩
    have := hgt _ e.symm
    omega
  refine hK _ _ (fun _ _ => HS3) ?_
  clear hK
  have HO3 := hide (And.intro hown3 hat3)
  have HSEP := hide hsep
  have HGT := hide hgt
  clear hown3 hg3 hat3 hsep hgt
  try simp only [Act.put, List.setIfInBounds_toArray, List.set_cons_succ, List.set_cons_zero]
  refine order_pure (i := 9) rfl (by kernel_rfl) (fun _ _ _ h => h) (.inl ⟨rfl, fun _ => by go_simp; rfl⟩) ?_
  try simp only [Act.put, List.setIfInBounds_toArray, List.set_cons_succ, List.set_cons_zero]
  refine order_pure (i := 10) rfl (by kernel_rfl) (fun _ _ _ h => h) (.inl ⟨rfl, fun _ => by go_simp; rfl⟩) ?_
  try simp only [Act.put, List.setIfInBounds_toArray, List.set_cons_succ, List.set_cons_zero]
  have s2 : w3.cell? ⟨b, 0, none⟩ = some (.slice A L.length c) := HS3.1.cell 0
  have t2 : w3.frozen? ⟨b, 0, none⟩ = false := HS3.1.free 0
  refine order_one (i := 11) rfl (by kernel_rfl) (fun K hK => ?_)
  go_simp
  refine hK _ _ (fun h => absurd h (by decide)) ?_
  clear hK
  try simp only [Act.put, List.setIfInBounds_toArray, List.set_cons_succ, List.set_cons_zero]
  clear s2 t2
  have HB4 := hide (HS3.1.put 0 (.slice A3 (L.length + 1) c3))
  have HK4 := hide ((Keeps.refl (fun x => x = b) w3).setCell (p := ⟨b, 0, none⟩) (.inl rfl) (.slice A3 (L.length + 1) c3))
  generalize w3.setCell ⟨b, 0, none⟩ (.slice A3 (L.length + 1) c3) = w4 at *
  refine order_done (by kernel_rfl) ?_
  go_wp2
  go_ret
  show PutPost w b (.slice A L.length c) L i t (.returned (.int .i64 0)) w4
  exact put_end H.out hl HK2.out HO5.out HK3.out HK4.out HO3.out.1 HO3.out.2 HB4.out HK1.out.size
end Go.Proofs.Ytmkidkfofbnjgaa
namespace Go.Proofs.Ytmkidkfofbnjgaa
open Go.RowKit

/-- A term without limbs, items and tail. -/
abbrev flatT (k : Int) (s : ByteArray) (n : Int) : Tm := .mk k false [] s n [] []
abbrev flatC (k : Int) (s : ByteArray) (n : Int) : List Value := [.int .u8 k, .bool false, .slice none 0 0, .string s, .int .i64 n, .slice none 0 0, .slice none 0 0]

theorem flat_in (w : World) (B : Nat → Prop) (F : Bool) (k : Int) (s : ByteArray) (n : Int) : TermIn w B F (flatC k s n) (flatT k s n) := by
  unfold TermIn
  exact ⟨none, 0, 0, none, 0, 0, none, 0, 0, [], [], rfl, ⟨Roomy.small (by omega) (by omega), Roomy.small (by omega) (by omega), Roomy.small (by omega) (by omega)⟩, Reads.zero _ _ _ _ _, Reads.zero _ _ _ _ _, by unfold TermsIn; trivial, Reads.zero _ _ _ _ _, by unfold TermsIn; trivial⟩

theorem flat_form {w : World} {B : Nat → Prop} {F : Bool} {k : Int} {s : ByteArray} {n : Int} {v0 v1 v2 v3 v4 v5 v6 : Value} (h : TermIn w B F [v0, v1, v2, v3, v4, v5, v6] (flatT k s n)) :
    ∃ la lc ia ic ta tc, v0 = .int .u8 k ∧ v1 = .bool false ∧ v2 = .slice la 0 lc ∧ v3 = .string s ∧ v4 = .int .i64 n ∧ v5 = .slice ia 0 ic ∧ v6 = .slice ta 0 tc := by
  unfold TermIn at h
  obtain ⟨la, ln, lc, ia, im, ic, ta, tn, tc, css, dss, e, _, h1, h2, h3, h4, h5⟩ := h
  simp only [List.cons.injEq, and_true] at e
  obtain ⟨e0, e1, e2, e3, e4, e5, e6⟩ := e
  have hln : ln = 0 := by have := h1.1; simp at this; omega
  have hc : css = [] := by have := h3.lens.1; simpa using this
  have hd : dss = [] := by have := h5.lens.1; simpa using this
  subst hc hd
  have him : im = 0 := by have := h2.1; simp at this; omega
  have htn : tn = 0 := by have := h4.1; simp at this; omega
  subst hln him htn
  exact ⟨la, lc, ia, ic, ta, tc, e0, e1, e2, e3, e4, e5, e6⟩

theorem letter_any (s : ByteArray) (w : World) : Calls Try.prog 12 #[.string s] w fun e w' => e = .returned (.agg #[.int .u8 2, .bool false, .slice none 0 0, .string s, .int .i64 0, .slice none 0 0, .slice none 0 0]) ∧ Keeps NoB w w' := by
  go_enter Try.func12, Try.ntmps12
  go_wp2
  exact bodyPost_ret (v := .agg #[.int .u8 2, .bool false, .slice none 0 0, .string s, .int .i64 0, .slice none 0 0, .slice none 0 0]) (by simp [results, Try.results12, go_sem]) rfl ⟨rfl, (Keeps.refl NoB w).alloc _⟩

def AllPost (w : World) (L : List Lt) (e : Ending) (w' : World) : Prop := OwnPost w L.length (L.map (·.t)) e w'

theorem terms_of {w : World} : ∀ {L : List Lt}, (∀ x ∈ L, x.ok w) → TermsIn w (fun _ => True) true (cellsOf L) (L.map (·.t))
  | [], _ => by unfold cellsOf TermsIn; trivial
  | x :: L, h => by
    show TermsIn w _ true (x.cs :: cellsOf L) (x.t :: L.map (·.t))
    unfold TermsIn
    exact ⟨TermIn.more (fun _ _ _ => trivial) _ _ (h x List.mem_cons_self).1, terms_of (fun y hy => h y (List.mem_cons_of_mem _ hy))⟩

theorem all_box (b : Nat) (sv : Value) (L : List Lt) (i : Nat) (w : World) (h : BoxAt w b sv L i) (hl : L.length ≤ 1024) :
    Calls Try.prog 24 #[.pointer (some ⟨b, 0, none⟩)] w (AllPost w L) := by
  obtain ⟨A, c, hsv, hnc, _⟩ := ownsRow_mk h.row
  subst hsv
  have hk2 : w.cell? ⟨b, 2, none⟩ = some (.bool true) := h.blk.cell 2
  have hk0 : w.cell? ⟨b, 0, none⟩ = some (.slice A L.length c) := h.blk.cell 0
  have H := hide h; clear h
  go_enter Try.func24, Try.ntmps24
  go_wp2_with (first | (go_at_call 32; refine (known_at b true _ hk2).mono ?_; rintro e w' ⟨rfl, rfl⟩) | (go_at_call 33; refine (own_any (L.map (·.t)) (cellsOf L) A L.length c w (fun _ => True) true ((Reads.of_own H.out.row).more (fun _ _ _ => trivial)) (terms_of H.out.ok) (Roomy.small (by omega) (by omega))).mono ?_; rintro e w' ⟨A', c', css', m', rfl, h1, h2, h3, h4, h5, h6⟩; have HR := hide (And.intro h1 (And.intro h2 (And.intro h3 (And.intro h4 (And.intro h5 h6))))); clear h1 h2 h3 h4 h5 h6))
  go_ret
  obtain ⟨h1, h2, h3, h4, h5, h6⟩ := HR.out
  exact ⟨A', c', css', m', rfl, h1, h2, h3, h4, h5, h6⟩
end Go.Proofs.Ytmkidkfofbnjgaa
