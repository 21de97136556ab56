/- (*clock.Clock).Set: one more that waits. -/
import Derived.Test.YtaiphjgklfioeaaInsert
namespace Go.Proofs.Ytaiphjgklfioeaa
open Go.RowKit

/-- The program's clock: block b, and its row. -/
structure ClockAt (w : World) (b : Nat) (A : Option Addr) (c : Nat) (s : St) : Prop where
  blk : Blk w b 47 #[.int .i64 s.now, .bool true, .slice A s.L.length c]
  row : Slab w 53 2 A s.L.length c (prs s.L)
  good : s.Good
/-- The blocks that the clock itself writes. -/
def clkFp (b : Nat) (A : Option Addr) (k : Nat) : Prop := k = b ∨ rowB A k

theorem ClockAt.sep {w : World} {b c : Nat} {A : Option Addr} {s : St} (h : ClockAt w b A c s) : ¬ rowB A b := h.row.ne h.blk (by decide)
theorem ClockAt.keep {w w' : World} {b c : Nat} {A : Option Addr} {s : St} {fp : Nat → Prop} (h : ClockAt w b A c s) (hk : Keeps fp w w') (hf : ∀ k, clkFp b A k → ¬ fp k) : ClockAt w' b A c s :=
  ⟨h.blk.keep hk (hf b (.inl rfl)), h.row.keep hk (fun k hk => hf k (.inr hk)), h.good⟩
theorem ClockAt.fresh {w w' : World} {b c : Nat} {A : Option Addr} {s : St} (h : ClockAt w b A c s) (hk : Keeps NoB w w') : ClockAt w' b A c s := h.keep hk (fun _ _ => id)

def SetPost (w : World) (b : Nat) (A : Option Addr) (s s' : St) (r : Bool) (e : Ending) (w' : World) : Prop :=
  ∃ A' c', e = .returned (.bool r) ∧ ClockAt w' b A' c' s' ∧ Keeps (clkFp b A) w w' ∧ Moved w A A'

theorem set_nil (pid after : Int) (w : World) : Calls Try.prog 11 #[.pointer none, .int .i64 pid, .int .i64 after] w fun e w' => e = .returned (.bool false) ∧ w = w' := by
  go_enter Try.func11, Try.ntmps11
  go_wp2_with (go_at_call 20; refine (known_nil _).mono ?_; rintro e w' ⟨rfl, rfl⟩)
  go_ret
  exact ⟨rfl, rfl⟩
theorem set_unmade (b : Nat) (pid after : Int) (w : World) (h : w.cell? ⟨b, 1, none⟩ = some (.bool false)) : Calls Try.prog 11 #[.pointer (some ⟨b, 0, none⟩), .int .i64 pid, .int .i64 after] w fun e w' => e = .returned (.bool false) ∧ w = w' := by
  go_enter Try.func11, Try.ntmps11
  go_wp2_with (go_at_call 20; refine (known_at b false _ h).mono ?_; rintro e w' ⟨rfl, rfl⟩)
  go_ret
  exact ⟨rfl, rfl⟩

theorem set_no_end {w w' : World} {b c : Nat} {A : Option Addr} {s : St} {pid after : Int} (h : ClockAt w b A c s) (hk : Keeps NoB w w') (hn : s.setOk pid after = false) : SetPost w b A s (s.set pid after) (s.setOk pid after) (.returned (.bool false)) w' := by
  have : s.set pid after = s := by unfold St.set; simp [hn]
  rw [hn, this]
  exact ⟨A, c, rfl, h.fresh hk, hk.mono (fun _ _ h => h.elim), Moved.same _ _⟩

set_option maxRecDepth 100000 in
theorem set_yes_end {w w2 w3 w4 : World} {b c i : Nat} {A A' : Option Addr} {c' : Nat} {s : St} {pid after : Int} (h : ClockAt w b A c s) (hy : s.setOk pid after = true) (hk2 : Keeps NoB w w2) (hi1 : ∀ k (h : k < s.L.length), k < i → wlt s.L[k] (s.now + after, pid)) (hi2 : ∀ k (h : k < s.L.length), i ≤ k → ¬ wlt s.L[k] (s.now + after, pid))
    (hs : Slab w3 53 2 A' (s.L.length + 1) c' (prs (s.L.take i ++ (s.now + after, pid) :: s.L.drop i))) (hk3 : Keeps (rowB A) w2 w3) (hm : Moved w2 A A') (hw : w3.setCell ⟨b, 2, none⟩ (.slice A' (s.L.length + 1) c') = w4) : SetPost w b A s (s.set pid after) (s.setOk pid after) (.returned (.bool true)) w4 := by
  subst hw
  have e : s.set pid after = ⟨s.now, ins (s.now + after, pid) s.L⟩ := by unfold St.set; rw [if_pos hy]
  have hb2 : Blk w2 b 47 #[.int .i64 s.now, .bool true, .slice A s.L.length c] := h.blk.keep hk2 id
  have hb3 := hb2.keep hk3 h.sep
  have hb4 := hb3.put 2 (.slice A' (s.L.length + 1) c')
  have hk4 : Keeps (fun k => k = b) w3 (w3.setCell ⟨b, 2, none⟩ (.slice A' (s.L.length + 1) c')) := (Keeps.refl (fun k => k = b) w3).setCell (p := ⟨b, 2, none⟩) (.inl rfl) _
  have hsep : ¬ rowB A' b := hs.ne hb3 (by decide)
  have hg := h.good.set pid after
  rw [hy, e]
  rw [e] at hg
  refine ⟨A', c', rfl, ⟨?_, ?_, hg⟩, ?_, ?_⟩
  · show Blk _ b 47 #[.int .i64 s.now, .bool true, .slice A' (ins _ s.L).length c']
    rw [ins_len]; exact hb4
  · show Slab _ 53 2 A' (ins _ s.L).length c' (prs (ins _ s.L))
    rw [ins_len, ins_split hi1 hi2]
    exact hs.keep hk4 (fun k hk e => by subst e; exact hsep hk)
  · exact ((hk2.trans' hk3 (fun _ _ h => h.elim) (fun _ _ h => h) : Keeps (rowB A) w w3).trans' hk4 (fun _ _ h => .inr h) (fun _ _ h => .inl h))
  · exact fun k hk => (hm k hk).imp id (fun h => Nat.le_trans hk2.size h)

set_option maxRecDepth 100000 in
set_option maxHeartbeats 1000000 in
theorem set_any (b c : Nat) (A : Option Addr) (s : St) (pid after : Int) (w : World) (h : ClockAt w b A c s) (hl : s.L.length ≤ 1000000) :
    Calls Try.prog 11 #[.pointer (some ⟨b, 0, none⟩), .int .i64 pid, .int .i64 after] w (SetPost w b A s (s.set pid after) (s.setOk pid after)) := by
  have k1 : w.cell? ⟨b, 1, none⟩ = some (.bool true) := h.blk.cell 1
  have H := hide h
  have hnlo := h.good.lo; have hnhi := h.good.hi
  clear h
  by_cases ha : after < 0
  · have HN := hide (set_no_end (pid := pid) (after := after) H.out (Keeps.refl NoB w) (by unfold St.setOk; simp; intro h; omega))
    clear hnlo hnhi
    go_enter Try.func11, Try.ntmps11
    go_wp2_with (go_at_call 20; refine (known_at b true _ k1).mono ?_; rintro e w' ⟨rfl, rfl⟩)
    go_ret
    exact HN.out
  have ha0 : 0 ≤ after := by omega
  clear ha
  by_cases hb : lastT < after
  · have hb' : (1099511627776 : Int) < after := hb
    have HN := hide (set_no_end (pid := pid) (after := after) H.out (Keeps.refl NoB w) (by unfold St.setOk; simp; intro h h2; unfold lastT at h2; omega))
    clear hnlo hnhi hb
    go_enter Try.func11, Try.ntmps11
    go_wp2_with (go_at_call 20; refine (known_at b true _ k1).mono ?_; rintro e w' ⟨rfl, rfl⟩)
    go_ret
    exact HN.out
  have hb' : after ≤ (1099511627776 : Int) := by unfold lastT at hb; omega
  have hnhi' : s.now ≤ (1099511627776 : Int) := hnhi
  clear hb hnhi
  have HR := hide H.out.row.reads
  by_cases hp : pid ∈ pidsOf s.L
  · have hf := find_yes b A s.L.length c s.L pid w _ _ (H.out.blk.cell 2) HR.out (by omega) hp
    have HN := hide (fun w' hk => set_no_end (w' := w') (pid := pid) (after := after) H.out hk (by unfold St.setOk; simp only [decide_eq_false_iff_not]; exact fun h => h.2.2 hp))
    have hz : (0 : Int) ≤ (findPid pid s.L : Nat) := by omega
    clear hp
    go_enter Try.func11, Try.ntmps11
    go_wp2_with (first
      | (go_at_call 20; refine (known_at b true _ k1).mono ?_; rintro e w' ⟨rfl, rfl⟩)
      | (go_at_call 21; refine hf.mono ?_; rintro e w' ⟨rfl, hk⟩; (have HK := hide hk); clear hk))
    go_ret
    exact HN.out _ HK.out
  · have hf := find_no b A s.L.length c s.L pid w _ _ (H.out.blk.cell 2) HR.out (by omega) hp
    have HY := hide (show s.setOk pid after = true from by unfold St.setOk; exact decide_eq_true ⟨ha0, hb', hp⟩)
    have c0 : w.cell? ⟨b, 0, none⟩ = some (.int .i64 s.now) := H.out.blk.cell 0
    clear hp
    go_enter Try.func11, Try.ntmps11
    go_wp2_with (first
      | (go_at_call 20; refine (known_at b true _ k1).mono ?_; rintro e w' ⟨rfl, rfl⟩)
      | (go_at_call 21; refine hf.mono ?_; rintro e w1 ⟨rfl, hk⟩; (have c0' : w1.cell? ⟨b, 0, none⟩ = some (.int .i64 s.now) := hk.cell id c0); (have HK := hide hk); clear hk))
    have hk2 : Keeps NoB w (w1.alloc (.cells #[.int .i64 (s.now + after), .int .i64 pid] 53)) := HK.out.alloc _
    have hv2 := Blk.new w1 53 #[.int .i64 (s.now + after), .int .i64 pid]
    have HV2 := hide hv2
    have HB2 := hide (H.out.blk.keep hk2 id); have HS2 := hide (H.out.row.fresh hk2); have HK2 := hide hk2
    have hvA : ¬ rowB A w1.heap.size := fun h => by have := H.out.row.lt h; have := HK.out.size; omega
    have HVA := hide hvA
    clear hk2 hv2 c0 c0' k1 hf hvA
    generalize w1.alloc (.cells #[.int .i64 (s.now + after), .int .i64 pid] 53) = w2 at *
    generalize w1.heap.size = vb at *
    refine order_begin (fun W => Keeps NoB w2 W) (fun _ => true) (by kernel_rfl) 11 rfl ?_
    have HS : Keeps NoB w2 w2.drew := (Keeps.refl _ _).drew
    refine order_pure (i := 0) rfl (by kernel_rfl) (fun _ _ _ h => h) (.inl ⟨rfl, fun _ => by go_simp; rfl⟩) ?_
    try simp only [Act.put, List.setIfInBounds_toArray, List.set_cons_succ, List.set_cons_zero]
    refine order_pure (i := 1) rfl (by kernel_rfl) (fun _ _ _ h => h) (.inl ⟨rfl, fun _ => by go_simp; rfl⟩) ?_
    try simp only [Act.put, List.setIfInBounds_toArray, List.set_cons_succ, List.set_cons_zero]
    refine order_pure (i := 2) rfl (by kernel_rfl) (fun _ _ _ h => h) (.inl ⟨rfl, fun _ => by go_simp; rfl⟩) ?_
    try simp only [Act.put, List.setIfInBounds_toArray, List.set_cons_succ, List.set_cons_zero]
    refine order_held (i := 3) rfl (by kernel_rfl) (fun _ _ _ h => h) (.inl ⟨rfl, fun W hW => by
      have q0 : W.cell? ⟨b, 2, none⟩ = some (.slice A s.L.length c) := hW.cell id (HB2.out.cell 2)
      go_simp; rfl⟩) HS ?_
    try simp only [Act.put, List.setIfInBounds_toArray, List.set_cons_succ, List.set_cons_zero]
    refine order_held (i := 4) rfl (by kernel_rfl) (fun _ _ _ h => h) (.inl ⟨rfl, fun W hW => by
      have q0 : W.cell? ⟨vb, 0, none⟩ = some (.int .i64 (s.now + after)) := hW.cell id (HV2.out.cell 0)
      have q1 : W.cell? ⟨vb, 1, none⟩ = some (.int .i64 pid) := hW.cell id (HV2.out.cell 1)
      go_simp; rfl⟩) HS ?_
    try simp only [Act.put, List.setIfInBounds_toArray, List.set_cons_succ, List.set_cons_zero]
    refine order_one (i := 5) rfl (by kernel_rfl) (fun K hK => ?_)
    go_simp
    refine (search_any A s.L.length c s.L (s.now + after) pid _ _ _ (HS2.out.fresh HS).reads (by omega) H.out.good.up).mono ?_
    rintro e w3 ⟨i, q, hi, rfl, hi1, hi2, hk⟩
    have hk3 : Keeps NoB w2 w3 := HS.trans' hk (fun _ _ => id) (fun _ _ => id)
    have HI := hide (And.intro hi1 hi2)
    have HI0 := hide hi
    refine hK _ _ (fun _ _ => hk3) ?_
    have HB3 := hide (HB2.out.keep hk3 id); have HS3 := hide (HS2.out.fresh hk3); have HV3 := hide (HV2.out.keep hk3 id)
    have HK3 := hide (HK2.out.trans' hk3 (fun _ _ => id) (fun _ _ => id) : Keeps NoB w w3)
    clear hK hi1 hi2 hk hk3 HS HB2 HS2 HV2 HK2 hi
    try simp only [Act.put, List.setIfInBounds_toArray, List.set_cons_succ, List.set_cons_zero]
    refine order_pure (i := 6) rfl (by kernel_rfl) (fun _ _ _ h => h) (.inl ⟨rfl, fun _ => by go_simp; rfl⟩) ?_
    try simp only [Act.put, List.setIfInBounds_toArray, List.set_cons_succ, List.set_cons_zero]
    refine order_pure (i := 7) rfl (by kernel_rfl) (fun _ _ _ h => h) (.inl ⟨rfl, fun _ => by go_simp; rfl⟩) ?_
    try simp only [Act.put, List.setIfInBounds_toArray, List.set_cons_succ, List.set_cons_zero]
    refine order_pure (i := 8) rfl (by kernel_rfl) (fun _ _ _ h => h) (.inl ⟨rfl, fun _ => by go_simp; rfl⟩) ?_
    try simp only [Act.put, List.setIfInBounds_toArray, List.set_cons_succ, List.set_cons_zero]
    refine order_pure (i := 9) rfl (by kernel_rfl) (fun _ _ _ h => h) (.inl ⟨rfl, fun _ => by go_simp; rfl⟩) ?_
    try simp only [Act.put, List.setIfInBounds_toArray, List.set_cons_succ, List.set_cons_zero]
    refine order_pure (i := 10) rfl (by kernel_rfl) (fun _ _ _ h => h) (.inl ⟨rfl, fun _ => by go_simp; rfl⟩) ?_
    try simp only [Act.put, List.setIfInBounds_toArray, List.set_cons_succ, List.set_cons_zero]
    refine order_done (by kernel_rfl) ?_
    go_wp2_with fail
    refine order_begin (fun W => Keeps NoB w3 W) (fun j => !(j == 8 || j == 11)) (by kernel_rfl) 12 rfl ?_
    have HS : Keeps NoB w3 w3.drew := (Keeps.refl _ _).drew
    refine order_pure (i := 0) rfl (by kernel_rfl) (fun _ _ _ h => h) (.inl ⟨rfl, fun _ => by go_simp; rfl⟩) ?_
    try simp only [Act.put, List.setIfInBounds_toArray, List.set_cons_succ, List.set_cons_zero]
    refine order_pure (i := 1) rfl (by kernel_rfl) (fun _ _ _ h => h) (.inl ⟨rfl, fun _ => by go_simp; rfl⟩) ?_
    try simp only [Act.put, List.setIfInBounds_toArray, List.set_cons_succ, List.set_cons_zero]
    refine order_pure (i := 2) rfl (by kernel_rfl) (fun _ _ _ h => h) (.inl ⟨rfl, fun _ => by go_simp; rfl⟩) ?_
    try simp only [Act.put, List.setIfInBounds_toArray, List.set_cons_succ, List.set_cons_zero]
    refine order_pure (i := 3) rfl (by kernel_rfl) (fun _ _ _ h => h) (.inl ⟨rfl, fun _ => by go_simp; rfl⟩) ?_
    try simp only [Act.put, List.setIfInBounds_toArray, List.set_cons_succ, List.set_cons_zero]
    refine order_held (i := 4) rfl (by kernel_rfl) (fun _ _ _ h => h) (.inl ⟨rfl, fun W hW => by
      have q0 : W.cell? ⟨b, 2, none⟩ = some (.slice A s.L.length c) := hW.cell id (HB3.out.cell 2)
      go_simp; rfl⟩) HS ?_
    try simp only [Act.put, List.setIfInBounds_toArray, List.set_cons_succ, List.set_cons_zero]
    refine order_pure (i := 5) rfl (by kernel_rfl) (fun _ _ _ h => h) (.inl ⟨rfl, fun _ => by go_simp; rfl⟩) ?_
    try simp only [Act.put, List.setIfInBounds_toArray, List.set_cons_succ, List.set_cons_zero]
    refine order_held (i := 6) rfl (by kernel_rfl) (fun _ _ _ h => h) (.inl ⟨rfl, fun W hW => by
      have q0 : W.cell? ⟨vb, 0, none⟩ = some (.int .i64 (s.now + after)) := hW.cell id (HV3.out.cell 0)
      have q1 : W.cell? ⟨vb, 1, none⟩ = some (.int .i64 pid) := hW.cell id (HV3.out.cell 1)
      go_simp; rfl⟩) HS ?_
    try simp only [Act.put, List.setIfInBounds_toArray, List.set_cons_succ, List.set_cons_zero]
    refine order_one (i := 7) rfl (by kernel_rfl) (fun K hK => ?_)
    go_simp
    have hk4 : Keeps NoB w3 (w3.alloc (.cells #[.int .i64 (s.now + after), .int .i64 pid] 53)).drew := ((Keeps.refl NoB w3).alloc (.cells #[.int .i64 (s.now + after), .int .i64 pid] 53)).drew
    refine hK _ _ (fun _ _ => hk4) ?_
    have HV4 := hide (Blk.new w3 53 #[.int .i64 (s.now + after), .int .i64 pid]).drew
    have HB4 := hide (HB3.out.keep hk4 id); have HS4 := hide (HS3.out.fresh hk4)
    have HK4 := hide (HK3.out.trans' hk4 (fun _ _ => id) (fun _ _ => id) : Keeps NoB w (w3.alloc (.cells #[.int .i64 (s.now + after), .int .i64 pid] 53)).drew)
    have HVA4 := hide (show ¬ rowB A w3.heap.size from fun h => by have := H.out.row.lt h; have := HK3.out.size; omega)
    clear hK HS hk4 HB3 HS3 HV3
    try simp only [Act.put, List.setIfInBounds_toArray, List.set_cons_succ, List.set_cons_zero]
    refine order_one (i := 8) rfl (by kernel_rfl) (fun K hK => ?_)
    go_simp
    generalize (w3.alloc (.cells #[.int .i64 (s.now + after), .int .i64 pid] 53)).drew = w4 at *
    refine (insert_any A s.L.length c i w3.heap.size s.L (s.now + after) pid w4 HS4.out HI0.out (by omega) HV4.out HVA4.out).mono ?_
    rintro e w5 ⟨A', c', rfl, hs5, hk5, hm5⟩
    refine hK _ _ (fun h => absurd h (by decide)) ?_
    have hb5 := HB4.out.keep hk5 H.out.sep
    have s1 : w5.cell? ⟨b, 2, none⟩ = some (.slice A s.L.length c) := hb5.cell 2
    have s2 : w5.frozen? ⟨b, 2, none⟩ = false := hb5.free 2
    have H5 := hide (fun w6 => set_yes_end (w4 := w6) H.out HY.out HK4.out HI.out.1 HI.out.2 hs5 hk5 hm5)
    clear hK hs5 hk5 hm5 hb5
    try simp only [Act.put, List.setIfInBounds_toArray, List.set_cons_succ, List.set_cons_zero]
    refine order_pure (i := 9) rfl (by kernel_rfl) (fun _ _ _ h => h) (.inl ⟨rfl, fun _ => by go_simp; rfl⟩) ?_
    try simp only [Act.put, List.setIfInBounds_toArray, List.set_cons_succ, List.set_cons_zero]
    refine order_pure (i := 10) rfl (by kernel_rfl) (fun _ _ _ h => h) (.inl ⟨rfl, fun _ => by go_simp; rfl⟩) ?_
    try simp only [Act.put, List.setIfInBounds_toArray, List.set_cons_succ, List.set_cons_zero]
    refine order_one (i := 11) rfl (by kernel_rfl) (fun K hK => ?_)
    go_simp
    refine hK _ _ (fun h => absurd h (by decide)) ?_
    clear hK
    try simp only [Act.put, List.setIfInBounds_toArray, List.set_cons_succ, List.set_cons_zero]
    refine order_done (by kernel_rfl) ?_
    go_wp2_with fail
    go_ret
    exact H5.out _ rfl
end Go.Proofs.Ytaiphjgklfioeaa
