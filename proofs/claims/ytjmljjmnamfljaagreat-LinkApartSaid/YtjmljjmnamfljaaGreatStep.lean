/- Links and the document's, side by side: one step. -/
import Derived.Test.YtjmljjmnamfljaaGreatRef5
namespace Go.Proofs.YtjmljjmnamfljaaGreat
set_option maxRecDepth 100000
open Go.RowKit Go.Maps

set_option maxRecDepth 100000 in
set_option maxHeartbeats 2000000 in
theorem mons_self (A A' : Option Addr) (n c c' : Nat) (M : List Mon) (w : World) (B B' : Nat → Prop) (F F' : Bool) (hx : Reads w B F 3 A n (mons M)) (hy : Reads w B' F' 3 A' n (mons M)) (hn : n ≤ 1000000) : Calls Tryz.prog 23 #[.slice A n c, .slice A' n c'] w (TrueK w) := by
  have HX := hide hx; have HY := hide hy
  have hl : M.length = n := by have := hx.1; rw [mons_len] at this; omega
  have HL := hide hl
  clear hx hy hl
  go_enter Tryz.func23, Tryz.ntmps23
  go_wp2_with fail
  go_loopg [5] n (fun g s5 wx => ∃ k : Nat, k ≤ n ∧ g = n - k ∧ s5 = .int .i64 k ∧ Keeps NoB w wx)
  case atStart => exact ⟨0, Nat.zero_le _, rfl, rfl, Keeps.refl _ _⟩
  case round =>
    obtain ⟨k, hk, rfl, rfl, hkp⟩ := hrel
    have HKP := hide hkp
    clear hkp
    have hk0 : (0 : Int) ≤ k := by omega
    by_cases hkn : k < n
    · have hkz : (k : Int) < n := by omega
      obtain ⟨x, hx⟩ : ∃ x, M[k]? = some x := ⟨_, List.getElem?_eq_getElem (by have := HL.out; omega)⟩
      obtain ⟨g, o, hA, p0, p1, p2⟩ := mon_reads (HX.out.keep HKP.out (fun _ _ => id)) hx
      obtain ⟨g', o', hA', p3, p4, p5⟩ := mon_reads (HY.out.keep HKP.out (fun _ _ => id)) hx
      subst hA hA'
      obtain ⟨r, wh, wm⟩ := x
      simp only at p0 p1 p2 p3 p4 p5
      clear hx
      go_wp2_with fail
      go_quiet (fail)
      go_wp2_with fail
      go_roundg (n - (k + 1))
      case measure => omega
      case rel => exact ⟨k + 1, by omega, rfl, by go_num, HKP.out.drewN _⟩
    · obtain rfl : k = n := by omega
      have hkz : ¬ (k : Int) < k := by omega
      go_wp2_with fail
      go_ret
      exact ⟨rfl, HKP.out⟩

def RStep (w : World) (r : Nat) (A B : Option Addr) (n : Nat) (ok : Bool) (L' : LK) (M' : List Mon) (e : Ending) (w' : World) : Prop :=
  ∃ A' c' B' d' P', e = .returned (.bool ok) ∧ RefAt w' r A' c' B' d' P' M' ∧ Rel P' L' ∧ P'.length ≤ n ∧ Keeps (refFp r A B) w w' ∧ Moved w A A' ∧ Moved w B B'
section
variable {w : World} {r c d : Nat} {A B : Option Addr} {P : List Pr} {L : LK} {M : List Mon}
theorem canR_canL {a b : Int} (h : Rel P L) (g : Good L) : canR a b P = canL a b L := by
  rw [Bool.eq_iff_iff, canR_iff, canL_iff]
  constructor
  · rintro ⟨h1, h2⟩; exact ⟨h1, fun e => h2 ((h.pair g h1).2 e)⟩
  · rintro ⟨h1, h2⟩; exact ⟨h1, fun e => h2 ((h.pair g h1).1 e)⟩
theorem slink (a b : Int) (h : RefAt w r A c B d P M) (hr : Rel P L) (g : Good L) (hP : P.length ≤ 1000000) : Calls Tryz.prog 29 #[.pointer (some ⟨r, 0, none⟩), .int .i64 a, .int .i64 b] w (RStep w r A B (P.length + 1) (canL a b L) (goL a b L) M) := by
  refine (rlink_any w r c d A B P M a b h hP).mono ?_
  rintro e w' ⟨A', c', B', d', rfl, h1, h2, h3, h4⟩
  rw [canR_canL hr g]
  refine ⟨A', c', B', d', _, rfl, h1, ?_, ?_, h2, h3, h4⟩
  · unfold linkR goL
    rw [canR_canL hr g]
    split
    · rename_i e
      obtain ⟨e1, e2⟩ := canL_iff.1 e
      exact hr.link g e1 e2
    · exact hr
  · unfold linkR
    split
    · rw [List.length_append]; exact Nat.le_refl _
    · omega
theorem sunlink (a b : Int) (h : RefAt w r A c B d P M) (hr : Rel P L) (g : Good L) (hP : P.length ≤ 1000000) : Calls Tryz.prog 25 #[.pointer (some ⟨r, 0, none⟩), .int .i64 a, .int .i64 b] w (RStep w r A B (P.length + 1) (canU a b L) (goU a b L) M) := by
  cases e : canU a b L with
  | true =>
    have hin := canU_iff.1 e
    have hab : a ≠ b := fun e => g.irr a (e ▸ hin)
    refine (runlink_yes w r c d A B P M a b h hP ((hr.pair g hab).2 hin)).mono ?_
    rintro e' w' ⟨i, A', c', rfl, hi, h1, h2, h3⟩
    exact ⟨A', c', B, d, _, rfl, h1, by unfold goU; rw [if_pos e]; exact hr.unlink g hab hi, by have := List.length_eraseIdx_le P i; omega, h2, h3, Moved.same _ _⟩
  | false =>
    have hno := not_of_ne canU_iff e
    refine (runlink_no w r c d A B P M a b h hP (fun hm => by
      by_cases hab : a = b
      · subst hab; exact hr.self hm
      · exact hno ((hr.pair g hab).1 hm))).mono ?_
    rintro e' w' ⟨A', c', B', d', rfl, h1, h2, h3, h4⟩
    exact ⟨A', c', B', d', P, rfl, h1, by unfold goU; rw [if_neg (by rw [e]; decide)]; exact hr, by omega, h2, h3, h4⟩
theorem swatch (x y z : Int) (h : RefAt w r A c B d P M) (hr : Rel P L) (hM : M.length ≤ 1000000) (hu : UpM M) : Calls Tryz.prog 28 #[.pointer (some ⟨r, 0, none⟩), .int .i64 x, .int .i64 y, .int .i64 z] w (RStep w r A B (P.length + 1) (canW x M) L (goW ⟨x, y, z⟩ M)) := by
  refine (rwatch_any w r c d A B P M x y z h hM hu).mono ?_
  rintro e w' ⟨A', c', B', d', rfl, h1, h2, h3, h4⟩
  exact ⟨A', c', B', d', P, rfl, h1, hr, by omega, h2, h3, h4⟩
theorem sunwatch (x y : Int) (h : RefAt w r A c B d P M) (hr : Rel P L) (hM : M.length ≤ 1000000) (hu : UpM M) : Calls Tryz.prog 27 #[.pointer (some ⟨r, 0, none⟩), .int .i64 x, .int .i64 y] w (RStep w r A B (P.length + 1) (canX x y M) L (goX x y M)) := by
  refine (runwatch_any w r c d A B P M x y h hM hu).mono ?_
  rintro e w' ⟨A', c', B', d', rfl, h1, h2, h3, h4⟩
  exact ⟨A', c', B', d', P, rfl, h1, hr, by omega, h2, h3, h4⟩
theorem RefAt.off {k : Nat} {t : TypeId} {cs : Array Value} (h : RefAt w r A c B d P M) (hk : Blk w k t cs) (h1 : t ≠ 41) (h2 : t ≠ 106) (h3 : t ≠ 108) : ¬ refFp r A B k := by
  rintro (e | e | e)
  · subst e; exact h1 (Blk.one hk h.blk).1
  · exact h.one.ne hk (Ne.symm h2) e
  · exact h.two.ne hk (Ne.symm h3) e
end
/-- Both, since the world w. -/
structure Two (w wx : World) (b m1 m2 N : Nat) (r : Nat) (A : Option Addr) (c : Nat) (B : Option Addr) (d : Nat) (P : List Pr) (L : LK) (M : List Mon) : Prop where
  run : Run w wx b m1 m2 N L M
  ref : RefAt wx r A c B d P M
  rel : Rel P L
  hr : w.heap.size ≤ r
  hA : ∀ k, rowB A k → w.heap.size ≤ k
  hB : ∀ k, rowB B k → w.heap.size ≤ k
section
variable {w wx wy wz : World} {b m1 m2 N N' r c d : Nat} {A B : Option Addr} {P : List Pr} {L L' : LK} {M M' : List Mon}
theorem Two.fresh (h : Two w wx b m1 m2 N r A c B d P L M) (k : Keeps NoB wx wy) : Two w wy b m1 m2 N r A c B d P L M := ⟨h.run.fresh k, h.ref.fresh k, h.rel, h.hr, h.hA, h.hB⟩
theorem Two.low (h : Two w wx b m1 m2 N r A c B d P L M) (k : Nat) (hk : refFp r A B k) : w.heap.size ≤ k := by
  rcases hk with e | e | e
  · rw [e]; exact h.hr
  · exact h.hA k e
  · exact h.hB k e
/-- First the program's links turn, then the document's. -/
theorem Two.both {A' B' : Option Addr} {c' d' : Nat} {P' : List Pr} (h : Two w wx b m1 m2 N r A c B d P L M) (h1 : LinksAt wy w.heap.size b m1 m2 N' L' M') (h2 : Keeps (FP wx w.heap.size) wx wy)
    (g1 : RefAt wz r A' c' B' d' P' M') (g2 : Rel P' L') (g3 : Keeps (refFp r A B) wy wz) (g4 : Moved wy A A') (g5 : Moved wy B B') : Two w wz b m1 m2 N' r A' c' B' d' P' L' M' := by
  have hrun := h.run.turn h2 h1
  have href := h.ref.keep h2 (fun k hk e => by obtain ⟨t, cs, hc⟩ := h.ref.cells k hk; exact FP.blk hc e)
  have hkw : Keeps NoB w wz := hrun.keep.trans' g3 (fun _ _ => id) (fun k hk e => by have := h.low k e; omega)
  have hs := hrun.keep.size
  refine ⟨⟨hrun.at'.cells g3 (fun k hk => href.cells k hk) (href.off hrun.at'.blk (by decide) (by decide) (by decide)), hkw⟩, g1, g2, h.hr, fun k hk => (g4 k hk).elim (h.hA k) (fun e => Nat.le_trans hs e), fun k hk => (g5 k hk).elim (h.hB k) (fun e => Nat.le_trans hs e)⟩
theorem Two.mid (h : Two w wx b m1 m2 N r A c B d P L M) (h2 : Keeps (FP wx w.heap.size) wx wy) : RefAt wy r A c B d P M :=
  h.ref.keep h2 (fun k hk e => by obtain ⟨t, cs, hc⟩ := h.ref.cells k hk; exact FP.blk hc e)
end
/-- Rows and structs of other types stay. -/
def Off (w w' : World) : Prop := ∀ k t cs, Blk w k t cs → t ≠ 41 → t ≠ 106 → t ≠ 108 → Blk w' k t cs
theorem Off.noB {w w' : World} (h : Keeps NoB w w') : Off w w' := fun _ _ _ hb _ _ _ => hb.keep h id
theorem Off.fp {w w' : World} {B : Nat} (h : Keeps (FP w B) w w') : Off w w' := fun _ _ _ hb _ _ _ => hb.keep h (FP.blk hb)
theorem Off.ref {w w' : World} {r c d : Nat} {A B : Option Addr} {P : List Pr} {M : List Mon} (hr : RefAt w r A c B d P M) (h : Keeps (refFp r A B) w w') : Off w w' := fun _ _ _ hb h1 h2 h3 => hb.keep h (hr.off hb h1 h2 h3)
theorem Off.trans {a b c : World} (h : Off a b) (k : Off b c) : Off a c := fun i t cs hb h1 h2 h3 => k i t cs (h i t cs hb h1 h2 h3) h1 h2 h3
def StepPost (w wx : World) (b m1 m2 N r n m : Nat) (e : Ending) (w' : World) : Prop :=
  ∃ N' A' c' B' d' P' L' M', e = .returned (.bool true) ∧ Two w w' b m1 m2 N' r A' c' B' d' P' L' M' ∧ N' ≤ N + 4 ∧ P'.length ≤ n + 1 ∧ M'.length ≤ m + 1 ∧ Off wx w'
set_option maxRecDepth 100000 in
set_option maxHeartbeats 8000000 in
theorem step_any (w wx : World) (b m1 m2 N r c d : Nat) (A B : Option Addr) (P : List Pr) (L : LK) (M : List Mon) (op xa xb xr : Int) (h : Two w wx b m1 m2 N r A c B d P L M) (hN : N ≤ 100000) (hP : P.length ≤ 100000) (hM : M.length ≤ 100000) (ha : IntOk xa) (hb : IntOk xb) (hr : IntOk xr) :
    Calls Tryz.prog 11 #[.pointer (some ⟨b, 0, none⟩), .pointer (some ⟨r, 0, none⟩), .agg #[.int .i64 op, .int .i64 xa, .int .i64 xb, .int .i64 xr]] wx (StepPost w wx b m1 m2 N r P.length M.length) := by
  have hka : Keeps NoB wx (wx.alloc (.cells #[.int .i64 op, .int .i64 xa, .int .i64 xb, .int .i64 xr] 44)) := (Keeps.refl NoB wx).alloc _
  have HT := hide (h.fresh hka)
  have HOF := hide (Off.noB hka)
  have HX := hide (Blk.new wx 44 #[.int .i64 op, .int .i64 xa, .int .i64 xb, .int .i64 xr])
  have HOK := hide (And.intro ha (And.intro hb hr))
  obtain ⟨r9, hr9⟩ : ∃ r9, op % 9 = r9 := ⟨_, rfl⟩
  have h90 : 0 ≤ r9 := hr9 ▸ Int.emod_nonneg _ (by omega)
  have h91 : r9 < 9 := hr9 ▸ Int.emod_lt_of_pos _ (by omega)
  have HR9 := hide hr9
  clear h hka ha hb hr hr9
  rcases (by omega : r9 = 0 ∨ r9 = 1 ∨ r9 = 2 ∨ r9 = 3 ∨ r9 = 4 ∨ r9 = 5 ∨ 5 < r9) with rfl | rfl | rfl | rfl | rfl | rfl | h9
  · have x1 : (wx.alloc (.cells #[.int .i64 op, .int .i64 xa, .int .i64 xb, .int .i64 xr] 44)).cell? ⟨wx.heap.size, 1, none⟩ = some (.int .i64 xa) := HX.out.cell 1
    obtain ⟨l, hl⟩ : ∃ l, L xa = l := ⟨_, rfl⟩
    obtain ⟨T, hT⟩ : ∃ T, toldM xa M = T := ⟨_, rfl⟩
    have HLL := hide hl; have HTT := hide hT
    have hll : l.length ≤ P.length := by rw [← hl, ← ofR_eq HT.out.rel HT.out.run.at'.good xa]; exact ofR_len _ _
    have hTl : T.length ≤ M.length := hT ▸ toldM_len _ _
    clear hl hT
    go_enter Tryz.func11, Tryz.ntmps11
    go_wp2_with
      first
      | (go_at_call 21
         refine (pick_any op 9 (by omega) (by omega) _).mono ?_
         rintro e w' ⟨rfl, rfl⟩
         rw [HR9.out]
         generalize wx.alloc (.cells #[.int .i64 op, .int .i64 xa, .int .i64 xb, .int .i64 xr] 44) = w1 at *
         generalize wx.heap.size = xk at *)
      | (go_at_call 20
         refine (end_any w1 w.heap.size b m1 m2 N L M xa HT.out.run.at' HOK.out.1 (by omega) (by omega)).mono ?_
         rintro e w2 ⟨A1, c1, A2, c2, rfl, h1, h2, h3, h4, _, _⟩
         rw [HLL.out] at h1
         rw [HTT.out] at h2
         rw [HLL.out, HTT.out]
         have HX2 := hide (HX.out.keep h4 (FP.blk HX.out))
         have x2 : w2.cell? ⟨xk, 1, none⟩ = some (.int .i64 xa) := HX2.out.cell 1
         have HI2 := hide h1; have HM2 := hide h2; have HL2 := hide h3; have HK2 := hide h4
         have HR2 := hide (HT.out.mid h4)
         have HOF2 := hide (HOF.out.trans (Off.fp h4))
         clear h1 h2 h3 h4 x1)
      | (go_at_call 22
         refine (rend_any w2 r c d A B P L M xa HR2.out (by omega) (by omega) HT.out.rel HT.out.run.at'.good).mono ?_
         rintro e w3 ⟨X, cX, Y, cY, A', c', B', d', P', rfl, g1, g2, g3, g4, g5, g6, g7, g8⟩
         rw [HLL.out] at g1
         rw [HTT.out] at g2
         rw [HLL.out, HTT.out]
         have hi3 := HI2.out.keep g6 (fun k h1 h2 => by
           rcases h2 with e | e | e
           · subst e; exact HI2.out.ne HR2.out.blk (by decide) h1
           · exact Slab.apart HI2.out HR2.out.one (by decide) k h1 e
           · exact Slab.apart HI2.out HR2.out.two (by decide) k h1 e)
         have hm3 := HM2.out.keep g6 (fun k h1 h2 => by
           rcases h2 with e | e | e
           · subst e; exact HM2.out.ne HR2.out.blk (by decide) h1
           · exact Slab.apart HM2.out HR2.out.one (by decide) k h1 e
           · exact Slab.apart HM2.out HR2.out.two (by decide) k h1 e)
         have HI3 := hide hi3; have HM3 := hide hm3; have HJ3 := hide g1; have HN3 := hide g2
         have HF := hide (HT.out.both HL2.out HK2.out g3 g4 g6 g7 g8)
         have HPL := hide g5
         have HOF3 := hide (HOF2.out.trans (Off.ref HR2.out g6))
         clear g1 g2 g3 g4 g5 g6 g7 g8 hi3 hm3 HI2 HM2 HL2 HK2 HR2 x2)
      | (go_at_call 7
         refine (same_self A1 X l.length c1 cX l w3 _ _ _ _ HI3.out.reads HJ3.out.reads (Roomy.small (by omega) (by omega))).mono ?_
         rintro e w4 ⟨rfl, hk⟩
         have HOF4 := hide (HOF3.out.trans (Off.noB hk)); have HF4 := hide (HF.out.fresh hk); have HM4 := hide (HM3.out.fresh hk); have HN4 := hide (HN3.out.fresh hk)
         clear hk HF HM3 HN3)
      | (go_at_call 23
         refine (mons_self A2 Y T.length c2 cY T w4 _ _ _ _ HM4.out.reads HN4.out.reads (by omega)).mono ?_
         rintro e w5 ⟨rfl, hk⟩
         have HF5 := hide (HF4.out.fresh hk); have HOF5 := hide (HOF4.out.trans (Off.noB hk))
         clear hk HF4 HM4 HN4)
      | fail
    go_ret
    exact ⟨N, A', c', B', d', P', _, _, rfl, HF5.out, by omega, by have := HPL.out; omega, by have := endM_len xa M; omega, HOF5.out⟩
  · skip
    go_enter Tryz.func11, Tryz.ntmps11
    go_wp2_with
      first
      | (go_at_call 21
         refine (pick_any op 9 (by omega) (by omega) _).mono ?_
         rintro e w' ⟨rfl, rfl⟩
         rw [HR9.out])
      | fail
    generalize wx.alloc (.cells #[.int .i64 op, .int .i64 xa, .int .i64 xb, .int .i64 xr] 44) = w1 at *
    generalize wx.heap.size = xk at *
    refine order_begin (fun W => Blk W xk 44 #[.int .i64 op, .int .i64 xa, .int .i64 xb, .int .i64 xr]) (fun _ => true) (by kernel_rfl) 14 rfl ?_
    have HS := HX.out.keep (Keeps.refl NoB w1).drew id
    have HT2 := hide (HT.out.fresh (Keeps.refl NoB w1).drew)
    have HOF2 := hide (HOF.out.trans (Off.noB (Keeps.refl NoB w1).drew))
    clear HT HX HOF
    generalize w1.drew = w2 at *
    refine order_pure (i := 0) rfl (by kernel_rfl) (fun _ _ _ h => h) (.inl ⟨rfl, fun _ => by go_simp; rfl⟩) ?_
    try simp only [Act.put, List.setIfInBounds_toArray, List.set_cons_succ, List.set_cons_zero]
    refine order_pure (i := 1) rfl (by kernel_rfl) (fun _ _ _ h => h) (.inl ⟨rfl, fun _ => by go_simp; rfl⟩) ?_
    try simp only [Act.put, List.setIfInBounds_toArray, List.set_cons_succ, List.set_cons_zero]
    refine order_pure (i := 3) rfl (by kernel_rfl) (fun _ _ _ h => h) (.inl ⟨rfl, fun _ => by go_simp; rfl⟩) ?_
    try simp only [Act.put, List.setIfInBounds_toArray, List.set_cons_succ, List.set_cons_zero]
    refine order_pure (i := 6) rfl (by kernel_rfl) (fun _ _ _ h => h) (.inl ⟨rfl, fun _ => by go_simp; rfl⟩) ?_
    try simp only [Act.put, List.setIfInBounds_toArray, List.set_cons_succ, List.set_cons_zero]
    refine order_pure (i := 7) rfl (by kernel_rfl) (fun _ _ _ h => h) (.inl ⟨rfl, fun _ => by go_simp; rfl⟩) ?_
    try simp only [Act.put, List.setIfInBounds_toArray, List.set_cons_succ, List.set_cons_zero]
    refine order_pure (i := 9) rfl (by kernel_rfl) (fun _ _ _ h => h) (.inl ⟨rfl, fun _ => by go_simp; rfl⟩) ?_
    try simp only [Act.put, List.setIfInBounds_toArray, List.set_cons_succ, List.set_cons_zero]
    refine order_held (i := 2) rfl (by kernel_rfl) (fun _ _ _ h => h) (.inl ⟨rfl, fun W hW => by
      have q0 : W.cell? ⟨xk, 1, none⟩ = some (.int .i64 xa) := hW.cell 1
      go_simp; rfl⟩) HS ?_
    try simp only [Act.put, List.setIfInBounds_toArray, List.set_cons_succ, List.set_cons_zero]
    refine order_held (i := 4) rfl (by kernel_rfl) (fun _ _ _ h => h) (.inl ⟨rfl, fun W hW => by
      have q0 : W.cell? ⟨xk, 2, none⟩ = some (.int .i64 xb) := hW.cell 2
      go_simp; rfl⟩) HS ?_
    try simp only [Act.put, List.setIfInBounds_toArray, List.set_cons_succ, List.set_cons_zero]
    refine order_held (i := 8) rfl (by kernel_rfl) (fun _ _ _ h => h) (.inl ⟨rfl, fun W hW => by
      have q0 : W.cell? ⟨xk, 1, none⟩ = some (.int .i64 xa) := hW.cell 1
      go_simp; rfl⟩) HS ?_
    try simp only [Act.put, List.setIfInBounds_toArray, List.set_cons_succ, List.set_cons_zero]
    refine order_held (i := 10) rfl (by kernel_rfl) (fun _ _ _ h => h) (.inl ⟨rfl, fun W hW => by
      have q0 : W.cell? ⟨xk, 2, none⟩ = some (.int .i64 xb) := hW.cell 2
      go_simp; rfl⟩) HS ?_
    try simp only [Act.put, List.setIfInBounds_toArray, List.set_cons_succ, List.set_cons_zero]
    refine order_one (i := 5) rfl (by kernel_rfl) (fun K hK => ?_)
    go_simp
    refine (unlink_any w2 w.heap.size b m1 m2 N L M xa xb HT2.out.run.at' HOK.out.1 HOK.out.2.1).mono ?_
    rintro e w3 ⟨rfl, h1, h2⟩
    have HS3 := HS.keep h2 (FP.blk HS)
    refine hK _ _ (fun _ _ => HS3) ?_
    have HL3 := hide h1; have HK3 := hide h2
    have HR3 := hide (HT2.out.mid h2)
    have HOF3 := hide (HOF2.out.trans (Off.fp h2))
    clear hK h1 h2 HS HOF2
    try simp only [Act.put, List.setIfInBounds_toArray, List.set_cons_succ, List.set_cons_zero]
    refine order_one (i := 11) rfl (by kernel_rfl) (fun K hK => ?_)
    go_simp
    refine (sunlink xa xb HR3.out HT2.out.rel HT2.out.run.at'.good (by omega)).mono ?_
    rintro e w4 ⟨A', c', B', d', P', rfl, g1, g2, g3, g4, g5, g6⟩
    have HS4 := HS3.keep g4 (HR3.out.off HS3 (by decide) (by decide) (by decide))
    refine hK _ _ (fun _ _ => HS4) ?_
    have HF := hide (HT2.out.both HL3.out HK3.out g1 g2 g4 g5 g6)
    have HPL := hide g3
    have HOF4 := hide (HOF3.out.trans (Off.ref HR3.out g4))
    clear hK g1 g2 g3 g4 g5 g6 HL3 HK3 HR3 HS3 HS4
    try simp only [Act.put, List.setIfInBounds_toArray, List.set_cons_succ, List.set_cons_zero]
    refine order_pure (i := 12) rfl (by kernel_rfl) (fun _ _ _ h => h) (.inl ⟨rfl, fun _ => by go_simp; rfl⟩) ?_
    try simp only [Act.put, List.setIfInBounds_toArray, List.set_cons_succ, List.set_cons_zero]
    refine order_pure (i := 13) rfl (by kernel_rfl) (fun _ _ _ h => h) (.inl ⟨rfl, fun _ => by go_simp; rfl⟩) ?_
    try simp only [Act.put, List.setIfInBounds_toArray, List.set_cons_succ, List.set_cons_zero]
    refine order_done (by kernel_rfl) ?_
    go_wp2_with fail
    go_ret
    exact ⟨_, A', c', B', d', P', _, _, rfl, HF.out, by omega, HPL.out, by omega, HOF4.out⟩
  · skip
    go_enter Tryz.func11, Tryz.ntmps11
    go_wp2_with
      first
      | (go_at_call 21
         refine (pick_any op 9 (by omega) (by omega) _).mono ?_
         rintro e w' ⟨rfl, rfl⟩
         rw [HR9.out])
      | fail
    generalize wx.alloc (.cells #[.int .i64 op, .int .i64 xa, .int .i64 xb, .int .i64 xr] 44) = w1 at *
    generalize wx.heap.size = xk at *
    refine order_begin (fun W => Blk W xk 44 #[.int .i64 op, .int .i64 xa, .int .i64 xb, .int .i64 xr]) (fun _ => true) (by kernel_rfl) 14 rfl ?_
    have HS := HX.out.keep (Keeps.refl NoB w1).drew id
    have HT2 := hide (HT.out.fresh (Keeps.refl NoB w1).drew)
    have HOF2 := hide (HOF.out.trans (Off.noB (Keeps.refl NoB w1).drew))
    clear HT HX HOF
    generalize w1.drew = w2 at *
    refine order_pure (i := 0) rfl (by kernel_rfl) (fun _ _ _ h => h) (.inl ⟨rfl, fun _ => by go_simp; rfl⟩) ?_
    try simp only [Act.put, List.setIfInBounds_toArray, List.set_cons_succ, List.set_cons_zero]
    refine order_pure (i := 1) rfl (by kernel_rfl) (fun _ _ _ h => h) (.inl ⟨rfl, fun _ => by go_simp; rfl⟩) ?_
    try simp only [Act.put, List.setIfInBounds_toArray, List.set_cons_succ, List.set_cons_zero]
    refine order_pure (i := 3) rfl (by kernel_rfl) (fun _ _ _ h => h) (.inl ⟨rfl, fun _ => by go_simp; rfl⟩) ?_
    try simp only [Act.put, List.setIfInBounds_toArray, List.set_cons_succ, List.set_cons_zero]
    refine order_pure (i := 6) rfl (by kernel_rfl) (fun _ _ _ h => h) (.inl ⟨rfl, fun _ => by go_simp; rfl⟩) ?_
    try simp only [Act.put, List.setIfInBounds_toArray, List.set_cons_succ, List.set_cons_zero]
    refine order_pure (i := 7) rfl (by kernel_rfl) (fun _ _ _ h => h) (.inl ⟨rfl, fun _ => by go_simp; rfl⟩) ?_
    try simp only [Act.put, List.setIfInBounds_toArray, List.set_cons_succ, List.set_cons_zero]
    refine order_pure (i := 9) rfl (by kernel_rfl) (fun _ _ _ h => h) (.inl ⟨rfl, fun _ => by go_simp; rfl⟩) ?_
    try simp only [Act.put, List.setIfInBounds_toArray, List.set_cons_succ, List.set_cons_zero]
    refine order_held (i := 2) rfl (by kernel_rfl) (fun _ _ _ h => h) (.inl ⟨rfl, fun W hW => by
      have q0 : W.cell? ⟨xk, 3, none⟩ = some (.int .i64 xr) := hW.cell 3
      go_simp; rfl⟩) HS ?_
    try simp only [Act.put, List.setIfInBounds_toArray, List.set_cons_succ, List.set_cons_zero]
    refine order_held (i := 4) rfl (by kernel_rfl) (fun _ _ _ h => h) (.inl ⟨rfl, fun W hW => by
      have q0 : W.cell? ⟨xk, 1, none⟩ = some (.int .i64 xa) := hW.cell 1
      go_simp; rfl⟩) HS ?_
    try simp only [Act.put, List.setIfInBounds_toArray, List.set_cons_succ, List.set_cons_zero]
    refine order_held (i := 8) rfl (by kernel_rfl) (fun _ _ _ h => h) (.inl ⟨rfl, fun W hW => by
      have q0 : W.cell? ⟨xk, 3, none⟩ = some (.int .i64 xr) := hW.cell 3
      go_simp; rfl⟩) HS ?_
    try simp only [Act.put, List.setIfInBounds_toArray, List.set_cons_succ, List.set_cons_zero]
    refine order_held (i := 10) rfl (by kernel_rfl) (fun _ _ _ h => h) (.inl ⟨rfl, fun W hW => by
      have q0 : W.cell? ⟨xk, 1, none⟩ = some (.int .i64 xa) := hW.cell 1
      go_simp; rfl⟩) HS ?_
    try simp only [Act.put, List.setIfInBounds_toArray, List.set_cons_succ, List.set_cons_zero]
    refine order_one (i := 5) rfl (by kernel_rfl) (fun K hK => ?_)
    go_simp
    refine (unwatch_any w2 w.heap.size b m1 m2 N L M xr xa HT2.out.run.at' HOK.out.2.2).mono ?_
    rintro e w3 ⟨rfl, h1, h2⟩
    have HS3 := HS.keep h2 (FP.blk HS)
    refine hK _ _ (fun _ _ => HS3) ?_
    have HL3 := hide h1; have HK3 := hide h2
    have HR3 := hide (HT2.out.mid h2)
    have HOF3 := hide (HOF2.out.trans (Off.fp h2))
    clear hK h1 h2 HS HOF2
    try simp only [Act.put, List.setIfInBounds_toArray, List.set_cons_succ, List.set_cons_zero]
    refine order_one (i := 11) rfl (by kernel_rfl) (fun K hK => ?_)
    go_simp
    refine (sunwatch xr xa HR3.out HT2.out.rel (by omega) HT2.out.run.at'.up).mono ?_
    rintro e w4 ⟨A', c', B', d', P', rfl, g1, g2, g3, g4, g5, g6⟩
    have HS4 := HS3.keep g4 (HR3.out.off HS3 (by decide) (by decide) (by decide))
    refine hK _ _ (fun _ _ => HS4) ?_
    have HF := hide (HT2.out.both HL3.out HK3.out g1 g2 g4 g5 g6)
    have HPL := hide g3
    have HOF4 := hide (HOF3.out.trans (Off.ref HR3.out g4))
    clear hK g1 g2 g3 g4 g5 g6 HL3 HK3 HR3 HS3 HS4
    try simp only [Act.put, List.setIfInBounds_toArray, List.set_cons_succ, List.set_cons_zero]
    refine order_pure (i := 12) rfl (by kernel_rfl) (fun _ _ _ h => h) (.inl ⟨rfl, fun _ => by go_simp; rfl⟩) ?_
    try simp only [Act.put, List.setIfInBounds_toArray, List.set_cons_succ, List.set_cons_zero]
    refine order_pure (i := 13) rfl (by kernel_rfl) (fun _ _ _ h => h) (.inl ⟨rfl, fun _ => by go_simp; rfl⟩) ?_
    try simp only [Act.put, List.setIfInBounds_toArray, List.set_cons_succ, List.set_cons_zero]
    refine order_done (by kernel_rfl) ?_
    go_wp2_with fail
    go_ret
    exact ⟨_, A', c', B', d', P', _, _, rfl, HF.out, by omega, HPL.out, by have := goX_len xr xa M; omega, HOF4.out⟩
  · skip
    go_enter Tryz.func11, Tryz.ntmps11
    go_wp2_with
      first
      | (go_at_call 21
         refine (pick_any op 9 (by omega) (by omega) _).mono ?_
         rintro e w' ⟨rfl, rfl⟩
         rw [HR9.out])
      | fail
    generalize wx.alloc (.cells #[.int .i64 op, .int .i64 xa, .int .i64 xb, .int .i64 xr] 44) = w1 at *
    generalize wx.heap.size = xk at *
    refine order_begin (fun W => Blk W xk 44 #[.int .i64 op, .int .i64 xa, .int .i64 xb, .int .i64 xr]) (fun _ => true) (by kernel_rfl) 18 rfl ?_
    have HS := HX.out.keep (Keeps.refl NoB w1).drew id
    have HT2 := hide (HT.out.fresh (Keeps.refl NoB w1).drew)
    have HOF2 := hide (HOF.out.trans (Off.noB (Keeps.refl NoB w1).drew))
    clear HT HX HOF
    generalize w1.drew = w2 at *
    refine order_pure (i := 0) rfl (by kernel_rfl) (fun _ _ _ h => h) (.inl ⟨rfl, fun _ => by go_simp; rfl⟩) ?_
    try simp only [Act.put, List.setIfInBounds_toArray, List.set_cons_succ, List.set_cons_zero]
    refine order_pure (i := 1) rfl (by kernel_rfl) (fun _ _ _ h => h) (.inl ⟨rfl, fun _ => by go_simp; rfl⟩) ?_
    try simp only [Act.put, List.setIfInBounds_toArray, List.set_cons_succ, List.set_cons_zero]
    refine order_pure (i := 3) rfl (by kernel_rfl) (fun _ _ _ h => h) (.inl ⟨rfl, fun _ => by go_simp; rfl⟩) ?_
    try simp only [Act.put, List.setIfInBounds_toArray, List.set_cons_succ, List.set_cons_zero]
    refine order_pure (i := 5) rfl (by kernel_rfl) (fun _ _ _ h => h) (.inl ⟨rfl, fun _ => by go_simp; rfl⟩) ?_
    try simp only [Act.put, List.setIfInBounds_toArray, List.set_cons_succ, List.set_cons_zero]
    refine order_pure (i := 8) rfl (by kernel_rfl) (fun _ _ _ h => h) (.inl ⟨rfl, fun _ => by go_simp; rfl⟩) ?_
    try simp only [Act.put, List.setIfInBounds_toArray, List.set_cons_succ, List.set_cons_zero]
    refine order_pure (i := 9) rfl (by kernel_rfl) (fun _ _ _ h => h) (.inl ⟨rfl, fun _ => by go_simp; rfl⟩) ?_
    try simp only [Act.put, List.setIfInBounds_toArray, List.set_cons_succ, List.set_cons_zero]
    refine order_pure (i := 11) rfl (by kernel_rfl) (fun _ _ _ h => h) (.inl ⟨rfl, fun _ => by go_simp; rfl⟩) ?_
    try simp only [Act.put, List.setIfInBounds_toArray, List.set_cons_succ, List.set_cons_zero]
    refine order_pure (i := 13) rfl (by kernel_rfl) (fun _ _ _ h => h) (.inl ⟨rfl, fun _ => by go_simp; rfl⟩) ?_
    try simp only [Act.put, List.setIfInBounds_toArray, List.set_cons_succ, List.set_cons_zero]
    refine order_held (i := 2) rfl (by kernel_rfl) (fun _ _ _ h => h) (.inl ⟨rfl, fun W hW => by
      have q0 : W.cell? ⟨xk, 3, none⟩ = some (.int .i64 xr) := hW.cell 3
      go_simp; rfl⟩) HS ?_
    try simp only [Act.put, List.setIfInBounds_toArray, List.set_cons_succ, List.set_cons_zero]
    refine order_held (i := 4) rfl (by kernel_rfl) (fun _ _ _ h => h) (.inl ⟨rfl, fun W hW => by
      have q0 : W.cell? ⟨xk, 1, none⟩ = some (.int .i64 xa) := hW.cell 1
      go_simp; rfl⟩) HS ?_
    try simp only [Act.put, List.setIfInBounds_toArray, List.set_cons_succ, List.set_cons_zero]
    refine order_held (i := 6) rfl (by kernel_rfl) (fun _ _ _ h => h) (.inl ⟨rfl, fun W hW => by
      have q0 : W.cell? ⟨xk, 2, none⟩ = some (.int .i64 xb) := hW.cell 2
      go_simp; rfl⟩) HS ?_
    try simp only [Act.put, List.setIfInBounds_toArray, List.set_cons_succ, List.set_cons_zero]
    refine order_held (i := 10) rfl (by kernel_rfl) (fun _ _ _ h => h) (.inl ⟨rfl, fun W hW => by
      have q0 : W.cell? ⟨xk, 3, none⟩ = some (.int .i64 xr) := hW.cell 3
      go_simp; rfl⟩) HS ?_
    try simp only [Act.put, List.setIfInBounds_toArray, List.set_cons_succ, List.set_cons_zero]
    refine order_held (i := 12) rfl (by kernel_rfl) (fun _ _ _ h => h) (.inl ⟨rfl, fun W hW => by
      have q0 : W.cell? ⟨xk, 1, none⟩ = some (.int .i64 xa) := hW.cell 1
      go_simp; rfl⟩) HS ?_
    try simp only [Act.put, List.setIfInBounds_toArray, List.set_cons_succ, List.set_cons_zero]
    refine order_held (i := 14) rfl (by kernel_rfl) (fun _ _ _ h => h) (.inl ⟨rfl, fun W hW => by
      have q0 : W.cell? ⟨xk, 2, none⟩ = some (.int .i64 xb) := hW.cell 2
      go_simp; rfl⟩) HS ?_
    try simp only [Act.put, List.setIfInBounds_toArray, List.set_cons_succ, List.set_cons_zero]
    refine order_one (i := 7) rfl (by kernel_rfl) (fun K hK => ?_)
    go_simp
    refine (watch_any w2 w.heap.size b m1 m2 N L M ⟨xr, xa, xb⟩ HT2.out.run.at' ⟨HOK.out.2.2, HOK.out.1, HOK.out.2.1⟩ (by omega)).mono ?_
    rintro e w3 ⟨rfl, h1, h2⟩
    have HS3 := HS.keep h2 (FP.blk HS)
    refine hK _ _ (fun _ _ => HS3) ?_
    have HL3 := hide h1; have HK3 := hide h2
    have HR3 := hide (HT2.out.mid h2)
    have HOF3 := hide (HOF2.out.trans (Off.fp h2))
    clear hK h1 h2 HS HOF2
    try simp only [Act.put, List.setIfInBounds_toArray, List.set_cons_succ, List.set_cons_zero]
    refine order_one (i := 15) rfl (by kernel_rfl) (fun K hK => ?_)
    go_simp
    refine (swatch xr xa xb HR3.out HT2.out.rel (by omega) HT2.out.run.at'.up).mono ?_
    rintro e w4 ⟨A', c', B', d', P', rfl, g1, g2, g3, g4, g5, g6⟩
    have HS4 := HS3.keep g4 (HR3.out.off HS3 (by decide) (by decide) (by decide))
    refine hK _ _ (fun _ _ => HS4) ?_
    have HF := hide (HT2.out.both HL3.out HK3.out g1 g2 g4 g5 g6)
    have HPL := hide g3
    have HOF4 := hide (HOF3.out.trans (Off.ref HR3.out g4))
    clear hK g1 g2 g3 g4 g5 g6 HL3 HK3 HR3 HS3 HS4
    try simp only [Act.put, List.setIfInBounds_toArray, List.set_cons_succ, List.set_cons_zero]
    refine order_pure (i := 16) rfl (by kernel_rfl) (fun _ _ _ h => h) (.inl ⟨rfl, fun _ => by go_simp; rfl⟩) ?_
    try simp only [Act.put, List.setIfInBounds_toArray, List.set_cons_succ, List.set_cons_zero]
    refine order_pure (i := 17) rfl (by kernel_rfl) (fun _ _ _ h => h) (.inl ⟨rfl, fun _ => by go_simp; rfl⟩) ?_
    try simp only [Act.put, List.setIfInBounds_toArray, List.set_cons_succ, List.set_cons_zero]
    refine order_done (by kernel_rfl) ?_
    go_wp2_with fail
    go_ret
    exact ⟨_, A', c', B', d', P', _, _, rfl, HF.out, by omega, HPL.out, goW_len _ _, HOF4.out⟩
  · skip
    go_enter Tryz.func11, Tryz.ntmps11
    go_wp2_with
      first
      | (go_at_call 21
         refine (pick_any op 9 (by omega) (by omega) _).mono ?_
         rintro e w' ⟨rfl, rfl⟩
         rw [HR9.out])
      | fail
    generalize wx.alloc (.cells #[.int .i64 op, .int .i64 xa, .int .i64 xb, .int .i64 xr] 44) = w1 at *
    generalize wx.heap.size = xk at *
    refine order_begin (fun W => Blk W xk 44 #[.int .i64 op, .int .i64 xa, .int .i64 xb, .int .i64 xr]) (fun _ => true) (by kernel_rfl) 18 rfl ?_
    have HS := HX.out.keep (Keeps.refl NoB w1).drew id
    have HT2 := hide (HT.out.fresh (Keeps.refl NoB w1).drew)
    have HOF2 := hide (HOF.out.trans (Off.noB (Keeps.refl NoB w1).drew))
    clear HT HX HOF
    generalize w1.drew = w2 at *
    refine order_pure (i := 0) rfl (by kernel_rfl) (fun _ _ _ h => h) (.inl ⟨rfl, fun _ => by go_simp; rfl⟩) ?_
    try simp only [Act.put, List.setIfInBounds_toArray, List.set_cons_succ, List.set_cons_zero]
    refine order_pure (i := 1) rfl (by kernel_rfl) (fun _ _ _ h => h) (.inl ⟨rfl, fun _ => by go_simp; rfl⟩) ?_
    try simp only [Act.put, List.setIfInBounds_toArray, List.set_cons_succ, List.set_cons_zero]
    refine order_pure (i := 3) rfl (by kernel_rfl) (fun _ _ _ h => h) (.inl ⟨rfl, fun _ => by go_simp; rfl⟩) ?_
    try simp only [Act.put, List.setIfInBounds_toArray, List.set_cons_succ, List.set_cons_zero]
    refine order_pure (i := 5) rfl (by kernel_rfl) (fun _ _ _ h => h) (.inl ⟨rfl, fun _ => by go_simp; rfl⟩) ?_
    try simp only [Act.put, List.setIfInBounds_toArray, List.set_cons_succ, List.set_cons_zero]
    refine order_pure (i := 8) rfl (by kernel_rfl) (fun _ _ _ h => h) (.inl ⟨rfl, fun _ => by go_simp; rfl⟩) ?_
    try simp only [Act.put, List.setIfInBounds_toArray, List.set_cons_succ, List.set_cons_zero]
    refine order_pure (i := 9) rfl (by kernel_rfl) (fun _ _ _ h => h) (.inl ⟨rfl, fun _ => by go_simp; rfl⟩) ?_
    try simp only [Act.put, List.setIfInBounds_toArray, List.set_cons_succ, List.set_cons_zero]
    refine order_pure (i := 11) rfl (by kernel_rfl) (fun _ _ _ h => h) (.inl ⟨rfl, fun _ => by go_simp; rfl⟩) ?_
    try simp only [Act.put, List.setIfInBounds_toArray, List.set_cons_succ, List.set_cons_zero]
    refine order_pure (i := 13) rfl (by kernel_rfl) (fun _ _ _ h => h) (.inl ⟨rfl, fun _ => by go_simp; rfl⟩) ?_
    try simp only [Act.put, List.setIfInBounds_toArray, List.set_cons_succ, List.set_cons_zero]
    refine order_held (i := 2) rfl (by kernel_rfl) (fun _ _ _ h => h) (.inl ⟨rfl, fun W hW => by
      have q0 : W.cell? ⟨xk, 3, none⟩ = some (.int .i64 xr) := hW.cell 3
      go_simp; rfl⟩) HS ?_
    try simp only [Act.put, List.setIfInBounds_toArray, List.set_cons_succ, List.set_cons_zero]
    refine order_held (i := 4) rfl (by kernel_rfl) (fun _ _ _ h => h) (.inl ⟨rfl, fun W hW => by
      have q0 : W.cell? ⟨xk, 1, none⟩ = some (.int .i64 xa) := hW.cell 1
      go_simp; rfl⟩) HS ?_
    try simp only [Act.put, List.setIfInBounds_toArray, List.set_cons_succ, List.set_cons_zero]
    refine order_held (i := 6) rfl (by kernel_rfl) (fun _ _ _ h => h) (.inl ⟨rfl, fun W hW => by
      have q0 : W.cell? ⟨xk, 2, none⟩ = some (.int .i64 xb) := hW.cell 2
      go_simp; rfl⟩) HS ?_
    try simp only [Act.put, List.setIfInBounds_toArray, List.set_cons_succ, List.set_cons_zero]
    refine order_held (i := 10) rfl (by kernel_rfl) (fun _ _ _ h => h) (.inl ⟨rfl, fun W hW => by
      have q0 : W.cell? ⟨xk, 3, none⟩ = some (.int .i64 xr) := hW.cell 3
      go_simp; rfl⟩) HS ?_
    try simp only [Act.put, List.setIfInBounds_toArray, List.set_cons_succ, List.set_cons_zero]
    refine order_held (i := 12) rfl (by kernel_rfl) (fun _ _ _ h => h) (.inl ⟨rfl, fun W hW => by
      have q0 : W.cell? ⟨xk, 1, none⟩ = some (.int .i64 xa) := hW.cell 1
      go_simp; rfl⟩) HS ?_
    try simp only [Act.put, List.setIfInBounds_toArray, List.set_cons_succ, List.set_cons_zero]
    refine order_held (i := 14) rfl (by kernel_rfl) (fun _ _ _ h => h) (.inl ⟨rfl, fun W hW => by
      have q0 : W.cell? ⟨xk, 2, none⟩ = some (.int .i64 xb) := hW.cell 2
      go_simp; rfl⟩) HS ?_
    try simp only [Act.put, List.setIfInBounds_toArray, List.set_cons_succ, List.set_cons_zero]
    refine order_one (i := 7) rfl (by kernel_rfl) (fun K hK => ?_)
    go_simp
    refine (watch_any w2 w.heap.size b m1 m2 N L M ⟨xr, xa, xb⟩ HT2.out.run.at' ⟨HOK.out.2.2, HOK.out.1, HOK.out.2.1⟩ (by omega)).mono ?_
    rintro e w3 ⟨rfl, h1, h2⟩
    have HS3 := HS.keep h2 (FP.blk HS)
    refine hK _ _ (fun _ _ => HS3) ?_
    have HL3 := hide h1; have HK3 := hide h2
    have HR3 := hide (HT2.out.mid h2)
    have HOF3 := hide (HOF2.out.trans (Off.fp h2))
    clear hK h1 h2 HS HOF2
    try simp only [Act.put, List.setIfInBounds_toArray, List.set_cons_succ, List.set_cons_zero]
    refine order_one (i := 15) rfl (by kernel_rfl) (fun K hK => ?_)
    go_simp
    refine (swatch xr xa xb HR3.out HT2.out.rel (by omega) HT2.out.run.at'.up).mono ?_
    rintro e w4 ⟨A', c', B', d', P', rfl, g1, g2, g3, g4, g5, g6⟩
    have HS4 := HS3.keep g4 (HR3.out.off HS3 (by decide) (by decide) (by decide))
    refine hK _ _ (fun _ _ => HS4) ?_
    have HF := hide (HT2.out.both HL3.out HK3.out g1 g2 g4 g5 g6)
    have HPL := hide g3
    have HOF4 := hide (HOF3.out.trans (Off.ref HR3.out g4))
    clear hK g1 g2 g3 g4 g5 g6 HL3 HK3 HR3 HS3 HS4
    try simp only [Act.put, List.setIfInBounds_toArray, List.set_cons_succ, List.set_cons_zero]
    refine order_pure (i := 16) rfl (by kernel_rfl) (fun _ _ _ h => h) (.inl ⟨rfl, fun _ => by go_simp; rfl⟩) ?_
    try simp only [Act.put, List.setIfInBounds_toArray, List.set_cons_succ, List.set_cons_zero]
    refine order_pure (i := 17) rfl (by kernel_rfl) (fun _ _ _ h => h) (.inl ⟨rfl, fun _ => by go_simp; rfl⟩) ?_
    try simp only [Act.put, List.setIfInBounds_toArray, List.set_cons_succ, List.set_cons_zero]
    refine order_done (by kernel_rfl) ?_
    go_wp2_with fail
    go_ret
    exact ⟨_, A', c', B', d', P', _, _, rfl, HF.out, by omega, HPL.out, goW_len _ _, HOF4.out⟩
  · skip
    go_enter Tryz.func11, Tryz.ntmps11
    go_wp2_with
      first
      | (go_at_call 21
         refine (pick_any op 9 (by omega) (by omega) _).mono ?_
         rintro e w' ⟨rfl, rfl⟩
         rw [HR9.out])
      | fail
    generalize wx.alloc (.cells #[.int .i64 op, .int .i64 xa, .int .i64 xb, .int .i64 xr] 44) = w1 at *
    generalize wx.heap.size = xk at *
    refine order_begin (fun W => Blk W xk 44 #[.int .i64 op, .int .i64 xa, .int .i64 xb, .int .i64 xr]) (fun _ => true) (by kernel_rfl) 18 rfl ?_
    have HS := HX.out.keep (Keeps.refl NoB w1).drew id
    have HT2 := hide (HT.out.fresh (Keeps.refl NoB w1).drew)
    have HOF2 := hide (HOF.out.trans (Off.noB (Keeps.refl NoB w1).drew))
    clear HT HX HOF
    generalize w1.drew = w2 at *
    refine order_pure (i := 0) rfl (by kernel_rfl) (fun _ _ _ h => h) (.inl ⟨rfl, fun _ => by go_simp; rfl⟩) ?_
    try simp only [Act.put, List.setIfInBounds_toArray, List.set_cons_succ, List.set_cons_zero]
    refine order_pure (i := 1) rfl (by kernel_rfl) (fun _ _ _ h => h) (.inl ⟨rfl, fun _ => by go_simp; rfl⟩) ?_
    try simp only [Act.put, List.setIfInBounds_toArray, List.set_cons_succ, List.set_cons_zero]
    refine order_pure (i := 3) rfl (by kernel_rfl) (fun _ _ _ h => h) (.inl ⟨rfl, fun _ => by go_simp; rfl⟩) ?_
    try simp only [Act.put, List.setIfInBounds_toArray, List.set_cons_succ, List.set_cons_zero]
    refine order_pure (i := 5) rfl (by kernel_rfl) (fun _ _ _ h => h) (.inl ⟨rfl, fun _ => by go_simp; rfl⟩) ?_
    try simp only [Act.put, List.setIfInBounds_toArray, List.set_cons_succ, List.set_cons_zero]
    refine order_pure (i := 8) rfl (by kernel_rfl) (fun _ _ _ h => h) (.inl ⟨rfl, fun _ => by go_simp; rfl⟩) ?_
    try simp only [Act.put, List.setIfInBounds_toArray, List.set_cons_succ, List.set_cons_zero]
    refine order_pure (i := 9) rfl (by kernel_rfl) (fun _ _ _ h => h) (.inl ⟨rfl, fun _ => by go_simp; rfl⟩) ?_
    try simp only [Act.put, List.setIfInBounds_toArray, List.set_cons_succ, List.set_cons_zero]
    refine order_pure (i := 11) rfl (by kernel_rfl) (fun _ _ _ h => h) (.inl ⟨rfl, fun _ => by go_simp; rfl⟩) ?_
    try simp only [Act.put, List.setIfInBounds_toArray, List.set_cons_succ, List.set_cons_zero]
    refine order_pure (i := 13) rfl (by kernel_rfl) (fun _ _ _ h => h) (.inl ⟨rfl, fun _ => by go_simp; rfl⟩) ?_
    try simp only [Act.put, List.setIfInBounds_toArray, List.set_cons_succ, List.set_cons_zero]
    refine order_held (i := 2) rfl (by kernel_rfl) (fun _ _ _ h => h) (.inl ⟨rfl, fun W hW => by
      have q0 : W.cell? ⟨xk, 3, none⟩ = some (.int .i64 xr) := hW.cell 3
      go_simp; rfl⟩) HS ?_
    try simp only [Act.put, List.setIfInBounds_toArray, List.set_cons_succ, List.set_cons_zero]
    refine order_held (i := 4) rfl (by kernel_rfl) (fun _ _ _ h => h) (.inl ⟨rfl, fun W hW => by
      have q0 : W.cell? ⟨xk, 1, none⟩ = some (.int .i64 xa) := hW.cell 1
      go_simp; rfl⟩) HS ?_
    try simp only [Act.put, List.setIfInBounds_toArray, List.set_cons_succ, List.set_cons_zero]
    refine order_held (i := 6) rfl (by kernel_rfl) (fun _ _ _ h => h) (.inl ⟨rfl, fun W hW => by
      have q0 : W.cell? ⟨xk, 2, none⟩ = some (.int .i64 xb) := hW.cell 2
      go_simp; rfl⟩) HS ?_
    try simp only [Act.put, List.setIfInBounds_toArray, List.set_cons_succ, List.set_cons_zero]
    refine order_held (i := 10) rfl (by kernel_rfl) (fun _ _ _ h => h) (.inl ⟨rfl, fun W hW => by
      have q0 : W.cell? ⟨xk, 3, none⟩ = some (.int .i64 xr) := hW.cell 3
      go_simp; rfl⟩) HS ?_
    try simp only [Act.put, List.setIfInBounds_toArray, List.set_cons_succ, List.set_cons_zero]
    refine order_held (i := 12) rfl (by kernel_rfl) (fun _ _ _ h => h) (.inl ⟨rfl, fun W hW => by
      have q0 : W.cell? ⟨xk, 1, none⟩ = some (.int .i64 xa) := hW.cell 1
      go_simp; rfl⟩) HS ?_
    try simp only [Act.put, List.setIfInBounds_toArray, List.set_cons_succ, List.set_cons_zero]
    refine order_held (i := 14) rfl (by kernel_rfl) (fun _ _ _ h => h) (.inl ⟨rfl, fun W hW => by
      have q0 : W.cell? ⟨xk, 2, none⟩ = some (.int .i64 xb) := hW.cell 2
      go_simp; rfl⟩) HS ?_
    try simp only [Act.put, List.setIfInBounds_toArray, List.set_cons_succ, List.set_cons_zero]
    refine order_one (i := 7) rfl (by kernel_rfl) (fun K hK => ?_)
    go_simp
    refine (watch_any w2 w.heap.size b m1 m2 N L M ⟨xr, xa, xb⟩ HT2.out.run.at' ⟨HOK.out.2.2, HOK.out.1, HOK.out.2.1⟩ (by omega)).mono ?_
    rintro e w3 ⟨rfl, h1, h2⟩
    have HS3 := HS.keep h2 (FP.blk HS)
    refine hK _ _ (fun _ _ => HS3) ?_
    have HL3 := hide h1; have HK3 := hide h2
    have HR3 := hide (HT2.out.mid h2)
    have HOF3 := hide (HOF2.out.trans (Off.fp h2))
    clear hK h1 h2 HS HOF2
    try simp only [Act.put, List.setIfInBounds_toArray, List.set_cons_succ, List.set_cons_zero]
    refine order_one (i := 15) rfl (by kernel_rfl) (fun K hK => ?_)
    go_simp
    refine (swatch xr xa xb HR3.out HT2.out.rel (by omega) HT2.out.run.at'.up).mono ?_
    rintro e w4 ⟨A', c', B', d', P', rfl, g1, g2, g3, g4, g5, g6⟩
    have HS4 := HS3.keep g4 (HR3.out.off HS3 (by decide) (by decide) (by decide))
    refine hK _ _ (fun _ _ => HS4) ?_
    have HF := hide (HT2.out.both HL3.out HK3.out g1 g2 g4 g5 g6)
    have HPL := hide g3
    have HOF4 := hide (HOF3.out.trans (Off.ref HR3.out g4))
    clear hK g1 g2 g3 g4 g5 g6 HL3 HK3 HR3 HS3 HS4
    try simp only [Act.put, List.setIfInBounds_toArray, List.set_cons_succ, List.set_cons_zero]
    refine order_pure (i := 16) rfl (by kernel_rfl) (fun _ _ _ h => h) (.inl ⟨rfl, fun _ => by go_simp; rfl⟩) ?_
    try simp only [Act.put, List.setIfInBounds_toArray, List.set_cons_succ, List.set_cons_zero]
    refine order_pure (i := 17) rfl (by kernel_rfl) (fun _ _ _ h => h) (.inl ⟨rfl, fun _ => by go_simp; rfl⟩) ?_
    try simp only [Act.put, List.setIfInBounds_toArray, List.set_cons_succ, List.set_cons_zero]
    refine order_done (by kernel_rfl) ?_
    go_wp2_with fail
    go_ret
    exact ⟨_, A', c', B', d', P', _, _, rfl, HF.out, by omega, HPL.out, goW_len _ _, HOF4.out⟩
  · have hn0 : (r9 == 0) = false := by simp; omega
    have hn1 : (r9 == 1) = false := by simp; omega
    have hn2 : (r9 == 2) = false := by simp; omega
    have hn3 : (r9 == 3) = false := by simp; omega
    have hn4 : (r9 == 4) = false := by simp; omega
    have hn5 : (r9 == 5) = false := by simp; omega
    go_enter Tryz.func11, Tryz.ntmps11
    go_wp2_with
      first
      | (go_at_call 21
         refine (pick_any op 9 (by omega) (by omega) _).mono ?_
         rintro e w' ⟨rfl, rfl⟩
         rw [HR9.out])
      | fail
    generalize wx.alloc (.cells #[.int .i64 op, .int .i64 xa, .int .i64 xb, .int .i64 xr] 44) = w1 at *
    generalize wx.heap.size = xk at *
    refine order_begin (fun W => Blk W xk 44 #[.int .i64 op, .int .i64 xa, .int .i64 xb, .int .i64 xr]) (fun _ => true) (by kernel_rfl) 14 rfl ?_
    have HS := HX.out.keep (Keeps.refl NoB w1).drew id
    have HT2 := hide (HT.out.fresh (Keeps.refl NoB w1).drew)
    have HOF2 := hide (HOF.out.trans (Off.noB (Keeps.refl NoB w1).drew))
    clear HT HX HOF
    generalize w1.drew = w2 at *
    refine order_pure (i := 0) rfl (by kernel_rfl) (fun _ _ _ h => h) (.inl ⟨rfl, fun _ => by go_simp; rfl⟩) ?_
    try simp only [Act.put, List.setIfInBounds_toArray, List.set_cons_succ, List.set_cons_zero]
    refine order_pure (i := 1) rfl (by kernel_rfl) (fun _ _ _ h => h) (.inl ⟨rfl, fun _ => by go_simp; rfl⟩) ?_
    try simp only [Act.put, List.setIfInBounds_toArray, List.set_cons_succ, List.set_cons_zero]
    refine order_pure (i := 3) rfl (by kernel_rfl) (fun _ _ _ h => h) (.inl ⟨rfl, fun _ => by go_simp; rfl⟩) ?_
    try simp only [Act.put, List.setIfInBounds_toArray, List.set_cons_succ, List.set_cons_zero]
    refine order_pure (i := 6) rfl (by kernel_rfl) (fun _ _ _ h => h) (.inl ⟨rfl, fun _ => by go_simp; rfl⟩) ?_
    try simp only [Act.put, List.setIfInBounds_toArray, List.set_cons_succ, List.set_cons_zero]
    refine order_pure (i := 7) rfl (by kernel_rfl) (fun _ _ _ h => h) (.inl ⟨rfl, fun _ => by go_simp; rfl⟩) ?_
    try simp only [Act.put, List.setIfInBounds_toArray, List.set_cons_succ, List.set_cons_zero]
    refine order_pure (i := 9) rfl (by kernel_rfl) (fun _ _ _ h => h) (.inl ⟨rfl, fun _ => by go_simp; rfl⟩) ?_
    try simp only [Act.put, List.setIfInBounds_toArray, List.set_cons_succ, List.set_cons_zero]
    refine order_held (i := 2) rfl (by kernel_rfl) (fun _ _ _ h => h) (.inl ⟨rfl, fun W hW => by
      have q0 : W.cell? ⟨xk, 1, none⟩ = some (.int .i64 xa) := hW.cell 1
      go_simp; rfl⟩) HS ?_
    try simp only [Act.put, List.setIfInBounds_toArray, List.set_cons_succ, List.set_cons_zero]
    refine order_held (i := 4) rfl (by kernel_rfl) (fun _ _ _ h => h) (.inl ⟨rfl, fun W hW => by
      have q0 : W.cell? ⟨xk, 2, none⟩ = some (.int .i64 xb) := hW.cell 2
      go_simp; rfl⟩) HS ?_
    try simp only [Act.put, List.setIfInBounds_toArray, List.set_cons_succ, List.set_cons_zero]
    refine order_held (i := 8) rfl (by kernel_rfl) (fun _ _ _ h => h) (.inl ⟨rfl, fun W hW => by
      have q0 : W.cell? ⟨xk, 1, none⟩ = some (.int .i64 xa) := hW.cell 1
      go_simp; rfl⟩) HS ?_
    try simp only [Act.put, List.setIfInBounds_toArray, List.set_cons_succ, List.set_cons_zero]
    refine order_held (i := 10) rfl (by kernel_rfl) (fun _ _ _ h => h) (.inl ⟨rfl, fun W hW => by
      have q0 : W.cell? ⟨xk, 2, none⟩ = some (.int .i64 xb) := hW.cell 2
      go_simp; rfl⟩) HS ?_
    try simp only [Act.put, List.setIfInBounds_toArray, List.set_cons_succ, List.set_cons_zero]
    refine order_one (i := 5) rfl (by kernel_rfl) (fun K hK => ?_)
    go_simp
    refine (link_any w2 w.heap.size b m1 m2 N L M xa xb HT2.out.run.at' HOK.out.1 HOK.out.2.1 (by omega) HT2.out.run.keep.size).mono ?_
    rintro e w3 ⟨rfl, h1, h2⟩
    have HS3 := HS.keep h2 (FP.blk HS)
    refine hK _ _ (fun _ _ => HS3) ?_
    have HL3 := hide h1; have HK3 := hide h2
    have HR3 := hide (HT2.out.mid h2)
    have HOF3 := hide (HOF2.out.trans (Off.fp h2))
    clear hK h1 h2 HS HOF2
    try simp only [Act.put, List.setIfInBounds_toArray, List.set_cons_succ, List.set_cons_zero]
    refine order_one (i := 11) rfl (by kernel_rfl) (fun K hK => ?_)
    go_simp
    refine (slink xa xb HR3.out HT2.out.rel HT2.out.run.at'.good (by omega)).mono ?_
    rintro e w4 ⟨A', c', B', d', P', rfl, g1, g2, g3, g4, g5, g6⟩
    have HS4 := HS3.keep g4 (HR3.out.off HS3 (by decide) (by decide) (by decide))
    refine hK _ _ (fun _ _ => HS4) ?_
    have HF := hide (HT2.out.both HL3.out HK3.out g1 g2 g4 g5 g6)
    have HPL := hide g3
    have HOF4 := hide (HOF3.out.trans (Off.ref HR3.out g4))
    clear hK g1 g2 g3 g4 g5 g6 HL3 HK3 HR3 HS3 HS4
    try simp only [Act.put, List.setIfInBounds_toArray, List.set_cons_succ, List.set_cons_zero]
    refine order_pure (i := 12) rfl (by kernel_rfl) (fun _ _ _ h => h) (.inl ⟨rfl, fun _ => by go_simp; rfl⟩) ?_
    try simp only [Act.put, List.setIfInBounds_toArray, List.set_cons_succ, List.set_cons_zero]
    refine order_pure (i := 13) rfl (by kernel_rfl) (fun _ _ _ h => h) (.inl ⟨rfl, fun _ => by go_simp; rfl⟩) ?_
    try simp only [Act.put, List.setIfInBounds_toArray, List.set_cons_succ, List.set_cons_zero]
    refine order_done (by kernel_rfl) ?_
    go_wp2_with fail
    go_ret
    exact ⟨_, A', c', B', d', P', _, _, rfl, HF.out, by omega, HPL.out, by omega, HOF4.out⟩
end Go.Proofs.YtjmljjmnamfljaaGreat
