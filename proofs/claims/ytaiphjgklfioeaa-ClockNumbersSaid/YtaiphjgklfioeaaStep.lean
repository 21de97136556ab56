/- One step, by the program and by the document: the answers are the same. -/
import Derived.Test.YtaiphjgklfioeaaRefWaits
import Derived.Test.YtaiphjgklfioeaaPartsLaw
import Derived.Deep.CutRange
import Derived.Deep.CutBlock
import Derived.Deep.DeepCutAuto
namespace Go.Proofs.Ytaiphjgklfioeaa
open Go.RowKit

/-- The document's clock, behind w. -/
structure RRun (w w' : World) (r : Nat) (B : Option Addr) (f : Nat) (now : Int) (R : List Wt) : Prop where
  at' : RefAt w' r B f now R
  hr : w.heap.size ≤ r
  hB : ∀ k, rowB B k → w.heap.size ≤ k

section
variable {w w' w'' : World} {b c r f f' : Nat} {A B B' : Option Addr} {s : St} {now now' : Int} {R R' : List Wt}
theorem apart_clk (h : ClockAt w b A c s) (hr : RefAt w r B f now R) (k : Nat) (h1 : clkFp b A k) (h2 : clkFp r B k) : False := by
  rcases h1 with e | h1
  · rcases h2 with e2 | h2
    · subst e; subst e2; have := (Blk.one h.blk hr.blk).1; exact absurd this (by decide)
    · subst e; exact hr.row.ne h.blk (by decide) h2
  · rcases h2 with e2 | h2
    · subst e2; exact h.row.ne hr.blk (by decide) h1
    · exact h.row.apart hr.row (by decide) k h1 h2
theorem RRun.fresh (h : RRun w w' r B f now R) (k : Keeps NoB w' w'') : RRun w w'' r B f now R := ⟨h.at'.fresh k, h.hr, h.hB⟩
theorem RRun.keepClk (h : RRun w w' r B f now R) (hc : ClockAt w' b A c s) (k : Keeps (clkFp b A) w' w'') : RRun w w'' r B f now R :=
  ⟨h.at'.keep k (fun j h1 h2 => apart_clk hc h.at' j h2 h1), h.hr, h.hB⟩
theorem RRun.turn (h : RRun w w' r B f now R) (hs : w.heap.size ≤ w'.heap.size) (hr : RefAt w'' r B' f' now' R') (hm : Moved w' B B') : RRun w w'' r B' f' now' R' :=
  ⟨hr, h.hr, fun k hk => (hm k hk).elim (h.hB k) (fun e => Nat.le_trans hs e)⟩
theorem Run.keepRef (h : Run w w' b A c s) (hr : RRun w w' r B f now R) (k : Keeps (clkFp r B) w' w'') : Run w w'' b A c s :=
  ⟨h.at'.keep k (fun j h1 h2 => apart_clk h.at' hr.at' j h1 h2), h.keep.trans' k (fun _ _ => id) (fun j hj hf => by
    rcases hf with e | hf
    · have := hr.hr; omega
    · have := hr.hB j hf; omega), h.hb, h.hg⟩
end

theorem setOk_perm {s : St} {R : List Wt} (hp : R.Perm s.L) (pid after : Int) : St.setOk ⟨s.now, R⟩ pid after = s.setOk pid after := by
  unfold St.setOk
  rw [decide_eq_decide]
  simp only
  rw [pids_perm hp pid]
theorem set_perm {s : St} {R : List Wt} (hp : R.Perm s.L) (pid after : Int) : (if s.setOk pid after = true then R ++ [(s.now + after, pid)] else R).Perm (s.set pid after).L := by
  unfold St.set
  by_cases h : s.setOk pid after = true
  · rw [if_pos h, if_pos h]
    exact ((List.perm_append_singleton _ _).trans (List.Perm.cons _ hp)).trans perm_ins.symm
  · rw [if_neg h, if_neg h]; exact hp
theorem set_now (s : St) (pid after : Int) : (s.set pid after).now = s.now := by unfold St.set; split <;> rfl

/-- Both clocks, alike. -/
structure Both (w w' : World) (b : Nat) (A : Option Addr) (c : Nat) (r : Nat) (B : Option Addr) (f : Nat) (s : St) (R : List Wt) : Prop where
  one : Run w w' b A c s
  ref : RRun w w' r B f s.now R
  perm : R.Perm s.L
theorem Both.fresh {w w' w'' : World} {b c r f : Nat} {A B : Option Addr} {s : St} {R : List Wt} (h : Both w w' b A c r B f s R) (k : Keeps NoB w' w'') : Both w w'' b A c r B f s R := ⟨h.one.fresh k, h.ref.fresh k, h.perm⟩

def StepPost (w : World) (b r : Nat) (m : Nat) (e : Ending) (w' : World) : Prop :=
  ∃ A c B f s R, e = .returned (.bool true) ∧ Both w w' b A c r B f s R ∧ s.L.length ≤ m

set_option maxRecDepth 100000 in
set_option maxHeartbeats 4000000 in
theorem step_any (b c r f : Nat) (A B : Option Addr) (s : St) (R : List Wt) (op pid n : Int) (w w1 : World) (h : Both w w1 b A c r B f s R) (hl : s.L.length ≤ 1000) :
    Calls Try.prog 15 #[.pointer (some ⟨b, 0, none⟩), .pointer (some ⟨r, 0, none⟩), .agg #[.int .i64 op, .int .i64 pid, .int .i64 n]] w1 (StepPost w b r (s.L.length + 1)) := by
  have H := hide (h.fresh ((Keeps.refl NoB w1).alloc (.cells #[.int .i64 op, .int .i64 pid, .int .i64 n] 28)))
  have HX := hide (Blk.new w1 28 #[.int .i64 op, .int .i64 pid, .int .i64 n])
  have hRl : R.length ≤ 1000 := by rw [h.perm.length_eq]; exact hl
  clear h
  go_enter Try.func15, Try.ntmps15
  go_upto_block 0 with
    first
    | (go_at_call 10
       refine (pick_any op 7 (by omega) (by omega) _).mono ?_
       rintro e w' ⟨rfl, rfl⟩)
    | fail
  generalize w1.alloc (.cells #[.int .i64 op, .int .i64 pid, .int .i64 n] 28) = w2 at *
  generalize w1.heap.size = x at *
  clear w1
  have hr0 : 0 ≤ op % 7 := Int.emod_nonneg _ (by omega)
  generalize op % 7 = q at *
  have x0 : w2.cell? ⟨x, 2, none⟩ = some (.int .i64 n) := HX.out.cell 2
  rcases (by omega : q = 0 ∨ q = 1 ∨ q = 2 ∨ 3 ≤ q) with rfl | rfl | rfl | hq3
  · obtain ⟨ok, hok⟩ : ∃ ok, s.tickOk n = ok := ⟨_, rfl⟩
    have HOK := hide hok
    obtain ⟨ts, hts⟩ : ∃ ts, s.told n = ts := ⟨_, rfl⟩
    have HTS := hide hts
    obtain ⟨tl, htl⟩ : ∃ tl, ts.length = tl := ⟨_, rfl⟩
    have HTL := hide htl
    have hr := fun W h => rtick_any r f B s R n W h H.out.perm H.out.one.at'.good (by omega)
    have HRT := hide hr
    have htl2 : tl ≤ 1000 := by have := s.told_len n; rw [hts, htl] at this; omega
    have hbo : (ok == ok) = true := by simp
    clear hok hts htl hr
    go_wp2_with fail
    refine (tick_to b c A s (s.tick n) ts tl ok n _ H.out.one.at' (by omega) HOK.out rfl HTS.out HTL.out).mono ?_
    rintro e w3 ⟨A', c', X, xc, rfl, h1, h2, h3, hx, _⟩
    have HR3 := hide (H.out.one.turn h1 h2 h3)
    have HF3 := hide (H.out.ref.keepClk H.out.one.at' h2)
    have HX3 := hide (HX.out.keep h2 (fun hf => by
      rcases hf with e | hf
      · subst e; have := (Blk.one HX.out H.out.one.at'.blk).1; exact absurd this (by decide)
      · exact H.out.one.at'.row.ne HX.out (by decide) hf))
    have HSX := hide hx
    have x1 : w3.cell? ⟨x, 2, none⟩ = some (.int .i64 n) := HX3.out.cell 2
    clear h1 h2 h3 hx x0
    go_wp2_with fail
    have hrt := HRT.out _ HF3.out.at'
    unfold RTickPost at hrt
    rw [HTS.out, HOK.out, HTL.out] at hrt
    refine hrt.mono ?_
    rintro e w4 ⟨B', f', R', Y, yc, rfl, h1, hp, h2, h3, hy, _⟩
    have HFIN := hide (show Both w w4 b A' c' r B' f' (s.tick n) R' from ⟨HR3.out.keepRef HF3.out h2, HF3.out.turn HR3.out.keep.size h1 h3, hp⟩)
    have HSX := hide (HF3.out.at'.leaves HSX.out h2)
    have HSY := hide (show Slab w4 3 1 Y tl yc (ints ts) from HTL.out ▸ hy)
    clear h1 h2 h3 hy hrt x1 hp
    go_wp2_with fail
    refine (same_yes X Y tl xc tl yc ts w4 _ _ _ _ HSX.out.reads HSY.out.reads (Roomy.small (by omega) (by omega))).mono ?_
    rintro e w5 ⟨rfl, hk⟩
    have HFIN := hide (HFIN.out.fresh hk)
    clear hk
    go_wp2_with fail
    go_ret
    exact ⟨A', c', B', f', _, _, rfl, HFIN.out, Nat.le_succ_of_le (s.tick_len n)⟩
  · obtain ⟨ok, hok⟩ : ∃ ok, s.tickOk n = ok := ⟨_, rfl⟩
    have HOK := hide hok
    obtain ⟨ts, hts⟩ : ∃ ts, s.told n = ts := ⟨_, rfl⟩
    have HTS := hide hts
    obtain ⟨tl, htl⟩ : ∃ tl, ts.length = tl := ⟨_, rfl⟩
    have HTL := hide htl
    have hr := fun W h => rtick_any r f B s R n W h H.out.perm H.out.one.at'.good (by omega)
    have HRT := hide hr
    have htl2 : tl ≤ 1000 := by have := s.told_len n; rw [hts, htl] at this; omega
    have hbo : (ok == ok) = true := by simp
    clear hok hts htl hr
    go_wp2_with fail
    refine (tick_to b c A s (s.tick n) ts tl ok n _ H.out.one.at' (by omega) HOK.out rfl HTS.out HTL.out).mono ?_
    rintro e w3 ⟨A', c', X, xc, rfl, h1, h2, h3, hx, _⟩
    have HR3 := hide (H.out.one.turn h1 h2 h3)
    have HF3 := hide (H.out.ref.keepClk H.out.one.at' h2)
    have HX3 := hide (HX.out.keep h2 (fun hf => by
      rcases hf with e | hf
      · subst e; have := (Blk.one HX.out H.out.one.at'.blk).1; exact absurd this (by decide)
      · exact H.out.one.at'.row.ne HX.out (by decide) hf))
    have HSX := hide hx
    have x1 : w3.cell? ⟨x, 2, none⟩ = some (.int .i64 n) := HX3.out.cell 2
    clear h1 h2 h3 hx x0
    go_wp2_with fail
    have hrt := HRT.out _ HF3.out.at'
    unfold RTickPost at hrt
    rw [HTS.out, HOK.out, HTL.out] at hrt
    refine hrt.mono ?_
    rintro e w4 ⟨B', f', R', Y, yc, rfl, h1, hp, h2, h3, hy, _⟩
    have HFIN := hide (show Both w w4 b A' c' r B' f' (s.tick n) R' from ⟨HR3.out.keepRef HF3.out h2, HF3.out.turn HR3.out.keep.size h1 h3, hp⟩)
    have HSX := hide (HF3.out.at'.leaves HSX.out h2)
    have HSY := hide (show Slab w4 3 1 Y tl yc (ints ts) from HTL.out ▸ hy)
    clear h1 h2 h3 hy hrt x1 hp
    go_wp2_with fail
    refine (same_yes X Y tl xc tl yc ts w4 _ _ _ _ HSX.out.reads HSY.out.reads (Roomy.small (by omega) (by omega))).mono ?_
    rintro e w5 ⟨rfl, hk⟩
    have HFIN := hide (HFIN.out.fresh hk)
    clear hk
    go_wp2_with fail
    go_ret
    exact ⟨A', c', B', f', _, _, rfl, HFIN.out, Nat.le_succ_of_le (s.tick_len n)⟩
  · clear x0
    go_wp2_with fail
    have HS0 := hide (show Blk w2.drew x 28 #[.int .i64 op, .int .i64 pid, .int .i64 n] from HX.out.drew)
    refine order_begin (fun W => Blk W x 28 #[.int .i64 op, .int .i64 pid, .int .i64 n]) (fun _ => true) (by kernel_rfl) 10 rfl ?_
    have HS := HS0.out
    refine order_pure (i := 0) rfl (by kernel_rfl) (fun _ _ _ h => h) (.inl ⟨rfl, fun _ => by go_simp; rfl⟩) ?_
    try simp only [Act.put, List.setIfInBounds_toArray, List.set_cons_succ, List.set_cons_zero]
    refine order_pure (i := 1) rfl (by kernel_rfl) (fun _ _ _ h => h) (.inl ⟨rfl, fun _ => by go_simp; rfl⟩) ?_
    try simp only [Act.put, List.setIfInBounds_toArray, List.set_cons_succ, List.set_cons_zero]
    refine order_held (i := 2) rfl (by kernel_rfl) (fun _ _ _ h => h) (.inl ⟨rfl, fun W hW => by
      have q0 : W.cell? ⟨x, 1, none⟩ = some (.int .i64 pid) := hW.cell 1
      go_simp; rfl⟩) HS ?_
    try simp only [Act.put, List.setIfInBounds_toArray, List.set_cons_succ, List.set_cons_zero]
    refine order_pure (i := 4) rfl (by kernel_rfl) (fun _ _ _ h => h) (.inl ⟨rfl, fun _ => by go_simp; rfl⟩) ?_
    try simp only [Act.put, List.setIfInBounds_toArray, List.set_cons_succ, List.set_cons_zero]
    refine order_pure (i := 5) rfl (by kernel_rfl) (fun _ _ _ h => h) (.inl ⟨rfl, fun _ => by go_simp; rfl⟩) ?_
    try simp only [Act.put, List.setIfInBounds_toArray, List.set_cons_succ, List.set_cons_zero]
    refine order_held (i := 6) rfl (by kernel_rfl) (fun _ _ _ h => h) (.inl ⟨rfl, fun W hW => by
      have q0 : W.cell? ⟨x, 1, none⟩ = some (.int .i64 pid) := hW.cell 1
      go_simp; rfl⟩) HS ?_
    try simp only [Act.put, List.setIfInBounds_toArray, List.set_cons_succ, List.set_cons_zero]
    obtain ⟨ok, hok⟩ : ∃ ok, s.dropOk pid = ok := ⟨_, rfl⟩
    have HOK := hide hok
    have HOK2 := hide (show decide (pid ∈ pidsOf R) = ok from by rw [← hok]; unfold St.dropOk; rw [decide_eq_decide]; exact pids_perm H.out.perm pid)
    clear hok
    have H1 := hide (H.out.fresh (Keeps.refl NoB w2).drew)
    refine order_one (i := 3) rfl (by kernel_rfl) (fun K hK => ?_)
    go_simp
    refine (drop_to b c A s (s.drop pid) ok pid _ H1.out.one.at' (by omega) HOK.out rfl).mono ?_
    rintro e w3 ⟨A', c', rfl, h1, h2, h3⟩
    have hS3 : Blk w3 x 28 #[.int .i64 op, .int .i64 pid, .int .i64 n] := HS.keep h2 (fun hf => by
      rcases hf with e | hf
      · subst e; have := (Blk.one HS H1.out.one.at'.blk).1; exact absurd this (by decide)
      · exact H1.out.one.at'.row.ne HS (by decide) hf)
    refine hK _ _ (fun _ _ => hS3) ?_
    have HR3 := hide (H1.out.one.turn h1 h2 h3)
    have HF3 := hide (H1.out.ref.keepClk H1.out.one.at' h2)
    clear hK HS h1 h2 h3
    try simp only [Act.put, List.setIfInBounds_toArray, List.set_cons_succ, List.set_cons_zero]
    refine order_one (i := 7) rfl (by kernel_rfl) (fun K hK => ?_)
    go_simp
    have hd := rdrop_any r f B s.now pid R _ HF3.out.at' (by omega)
    rw [HOK2.out] at hd
    refine hd.mono ?_
    rintro e w4 ⟨B', f', rfl, h1, h2, h3⟩
    have hS4 : Blk w4 x 28 #[.int .i64 op, .int .i64 pid, .int .i64 n] := hS3.keep h2 (fun hf => by
      rcases hf with e | hf
      · subst e; have := (Blk.one hS3 HF3.out.at'.blk).1; exact absurd this (by decide)
      · exact HF3.out.at'.row.ne hS3 (by decide) hf)
    refine hK _ _ (fun _ _ => hS4) ?_
    have HFIN := hide (show Both w w4 b A' c' r B' f' (s.drop pid) (dropPid pid R) from ⟨HR3.out.keepRef HF3.out h2, HF3.out.turn HR3.out.keep.size h1 h3, perm_drops H1.out.perm H1.out.one.at'.good.once pid⟩)
    clear hK h1 h2 h3 hd hS3 hS4
    try simp only [Act.put, List.setIfInBounds_toArray, List.set_cons_succ, List.set_cons_zero]
    have hoo : (ok == ok) = true := by simp
    refine order_pure (i := 8) rfl (by kernel_rfl) (fun _ _ _ h => h) (.inl ⟨rfl, fun _ => by go_simp; rfl⟩) ?_
    try simp only [Act.put, List.setIfInBounds_toArray, List.set_cons_succ, List.set_cons_zero]
    refine order_pure (i := 9) rfl (by kernel_rfl) (fun _ _ _ h => h) (.inl ⟨rfl, fun _ => by go_simp; rfl⟩) ?_
    try simp only [Act.put, List.setIfInBounds_toArray, List.set_cons_succ, List.set_cons_zero]
    refine order_done (by kernel_rfl) ?_
    go_wp2_with fail
    go_ret
    exact ⟨A', c', B', f', _, _, rfl, HFIN.out, Nat.le_succ_of_le (s.drop_len pid)⟩
  · have hne0 : (q == 0) = false := by simp; omega
    have hne1 : (q == 1) = false := by simp; omega
    have hne2 : (q == 2) = false := by simp; omega
    clear x0
    go_wp2_with fail
    have HS0 := hide (show Blk w2.drew x 28 #[.int .i64 op, .int .i64 pid, .int .i64 n] from HX.out.drew)
    refine order_begin (fun W => Blk W x 28 #[.int .i64 op, .int .i64 pid, .int .i64 n]) (fun _ => true) (by kernel_rfl) 14 rfl ?_
    have HS := HS0.out
    refine order_pure (i := 0) rfl (by kernel_rfl) (fun _ _ _ h => h) (.inl ⟨rfl, fun _ => by go_simp; rfl⟩) ?_
    try simp only [Act.put, List.setIfInBounds_toArray, List.set_cons_succ, List.set_cons_zero]
    refine order_pure (i := 1) rfl (by kernel_rfl) (fun _ _ _ h => h) (.inl ⟨rfl, fun _ => by go_simp; rfl⟩) ?_
    try simp only [Act.put, List.setIfInBounds_toArray, List.set_cons_succ, List.set_cons_zero]
    refine order_held (i := 2) rfl (by kernel_rfl) (fun _ _ _ h => h) (.inl ⟨rfl, fun W hW => by
      have q0 : W.cell? ⟨x, 1, none⟩ = some (.int .i64 pid) := hW.cell 1
      go_simp; rfl⟩) HS ?_
    try simp only [Act.put, List.setIfInBounds_toArray, List.set_cons_succ, List.set_cons_zero]
    refine order_pure (i := 3) rfl (by kernel_rfl) (fun _ _ _ h => h) (.inl ⟨rfl, fun _ => by go_simp; rfl⟩) ?_
    try simp only [Act.put, List.setIfInBounds_toArray, List.set_cons_succ, List.set_cons_zero]
    refine order_held (i := 4) rfl (by kernel_rfl) (fun _ _ _ h => h) (.inl ⟨rfl, fun W hW => by
      have q0 : W.cell? ⟨x, 2, none⟩ = some (.int .i64 n) := hW.cell 2
      go_simp; rfl⟩) HS ?_
    try simp only [Act.put, List.setIfInBounds_toArray, List.set_cons_succ, List.set_cons_zero]
    refine order_pure (i := 6) rfl (by kernel_rfl) (fun _ _ _ h => h) (.inl ⟨rfl, fun _ => by go_simp; rfl⟩) ?_
    try simp only [Act.put, List.setIfInBounds_toArray, List.set_cons_succ, List.set_cons_zero]
    refine order_pure (i := 7) rfl (by kernel_rfl) (fun _ _ _ h => h) (.inl ⟨rfl, fun _ => by go_simp; rfl⟩) ?_
    try simp only [Act.put, List.setIfInBounds_toArray, List.set_cons_succ, List.set_cons_zero]
    refine order_held (i := 8) rfl (by kernel_rfl) (fun _ _ _ h => h) (.inl ⟨rfl, fun W hW => by
      have q0 : W.cell? ⟨x, 1, none⟩ = some (.int .i64 pid) := hW.cell 1
      go_simp; rfl⟩) HS ?_
    try simp only [Act.put, List.setIfInBounds_toArray, List.set_cons_succ, List.set_cons_zero]
    refine order_pure (i := 9) rfl (by kernel_rfl) (fun _ _ _ h => h) (.inl ⟨rfl, fun _ => by go_simp; rfl⟩) ?_
    try simp only [Act.put, List.setIfInBounds_toArray, List.set_cons_succ, List.set_cons_zero]
    refine order_held (i := 10) rfl (by kernel_rfl) (fun _ _ _ h => h) (.inl ⟨rfl, fun W hW => by
      have q0 : W.cell? ⟨x, 2, none⟩ = some (.int .i64 n) := hW.cell 2
      go_simp; rfl⟩) HS ?_
    try simp only [Act.put, List.setIfInBounds_toArray, List.set_cons_succ, List.set_cons_zero]
    obtain ⟨ok, hok⟩ : ∃ ok, s.setOk pid n = ok := ⟨_, rfl⟩
    have HOK := hide hok
    have HOK2 := hide (show St.setOk ⟨s.now, R⟩ pid n = ok from by rw [← hok]; exact setOk_perm H.out.perm pid n)
    have HPM := hide (set_perm H.out.perm pid n)
    have HPM := hide (show (if ok = true then R ++ [(s.now + n, pid)] else R).Perm (s.set pid n).L from hok ▸ HPM.out)
    clear hok
    have H1 := hide (H.out.fresh (Keeps.refl NoB w2).drew)
    refine order_one (i := 5) rfl (by kernel_rfl) (fun K hK => ?_)
    go_simp
    refine (set_to b c A s (s.set pid n) ok pid n _ H1.out.one.at' (by omega) HOK.out rfl).mono ?_
    rintro e w3 ⟨A', c', rfl, h1, h2, h3⟩
    have hS3 : Blk w3 x 28 #[.int .i64 op, .int .i64 pid, .int .i64 n] := HS.keep h2 (fun hf => by
      rcases hf with e | hf
      · subst e; have := (Blk.one HS H1.out.one.at'.blk).1; exact absurd this (by decide)
      · exact H1.out.one.at'.row.ne HS (by decide) hf)
    refine hK _ _ (fun _ _ => hS3) ?_
    have HR3 := hide (H1.out.one.turn h1 h2 h3)
    have HF3 := hide (H1.out.ref.keepClk H1.out.one.at' h2)
    clear hK HS h1 h2 h3
    try simp only [Act.put, List.setIfInBounds_toArray, List.set_cons_succ, List.set_cons_zero]
    refine order_one (i := 11) rfl (by kernel_rfl) (fun K hK => ?_)
    go_simp
    have hd := rset_any r f B s.now pid n R _ HF3.out.at' (by omega) H1.out.one.at'.good.lo H1.out.one.at'.good.hi
    rw [HOK2.out] at hd
    refine hd.mono ?_
    rintro e w4 ⟨B', f', rfl, h1, h2, h3⟩
    have hS4 : Blk w4 x 28 #[.int .i64 op, .int .i64 pid, .int .i64 n] := hS3.keep h2 (fun hf => by
      rcases hf with e | hf
      · subst e; have := (Blk.one hS3 HF3.out.at'.blk).1; exact absurd this (by decide)
      · exact HF3.out.at'.row.ne hS3 (by decide) hf)
    refine hK _ _ (fun _ _ => hS4) ?_
    have HFIN := hide (show Both w w4 b A' c' r B' f' (s.set pid n) (if ok = true then R ++ [(s.now + n, pid)] else R) from ⟨HR3.out.keepRef HF3.out h2, by rw [set_now]; exact HF3.out.turn HR3.out.keep.size h1 h3, HPM.out⟩)
    clear hK h1 h2 h3 hd hS3 hS4
    try simp only [Act.put, List.setIfInBounds_toArray, List.set_cons_succ, List.set_cons_zero]
    have hoo : (ok == ok) = true := by simp
    refine order_pure (i := 12) rfl (by kernel_rfl) (fun _ _ _ h => h) (.inl ⟨rfl, fun _ => by go_simp; rfl⟩) ?_
    try simp only [Act.put, List.setIfInBounds_toArray, List.set_cons_succ, List.set_cons_zero]
    refine order_pure (i := 13) rfl (by kernel_rfl) (fun _ _ _ h => h) (.inl ⟨rfl, fun _ => by go_simp; rfl⟩) ?_
    try simp only [Act.put, List.setIfInBounds_toArray, List.set_cons_succ, List.set_cons_zero]
    refine order_done (by kernel_rfl) ?_
    go_wp2_with fail
    go_ret
    exact ⟨A', c', B', f', _, _, rfl, HFIN.out, s.set_len pid n⟩
end Go.Proofs.Ytaiphjgklfioeaa
