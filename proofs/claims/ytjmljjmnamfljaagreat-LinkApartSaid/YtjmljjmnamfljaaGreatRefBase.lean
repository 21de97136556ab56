/- The document's links in memory; pair, find. -/
import Derived.Test.YtjmljjmnamfljaaGreatDos
import Derived.Test.YtjmljjmnamfljaaGreatRefLaw
import Derived.Laws.StructEq
import Derived.ChangeKeysEq
namespace Go.Proofs.YtjmljjmnamfljaaGreat
set_option maxRecDepth 100000
open Go.RowKit Go.Maps

theorem Tryz.info3 : (Tryz.prog.info? 3).map (fun i => (i.zero, i.size, i.bytes)) = some (some (.int .i64 0), 1, 8) := by kernel_rfl
theorem Tryz.info106 : (Tryz.prog.info? 106).map (fun i => (i.zero, i.size, i.bytes)) = some (some (.agg #[.int .i64 0, .int .i64 0]), 2, 16) := by kernel_rfl
theorem Tryz.info108 : (Tryz.prog.info? 108).map (fun i => (i.zero, i.size, i.bytes)) = some (some (.agg #[.int .i64 0, .int .i64 0, .int .i64 0]), 3, 24) := by kernel_rfl
/-- Pairs as cells. -/
def prs (P : List Pr) : List Value := P.flatMap fun x => [.int .i64 x.1, .int .i64 x.2]
theorem prs_cons (x : Pr) (P : List Pr) : prs (x :: P) = [.int .i64 x.1, .int .i64 x.2] ++ prs P := rfl
theorem prs_len : ∀ P : List Pr, (prs P).length = P.length * 2
  | [] => rfl
  | x :: P => by rw [prs_cons, List.length_append, prs_len P, List.length_cons]; simp; omega
theorem prs_append (L M : List Pr) : prs (L ++ M) = prs L ++ prs M := by unfold prs; rw [List.flatMap_append]
theorem prs_ones (L : List Pr) : ∀ u ∈ prs L, u.oneCell' = true := by
  intro u hu
  unfold prs at hu
  obtain ⟨x, _, hx⟩ := List.mem_flatMap.1 hu
  simp only [List.mem_cons, List.not_mem_nil, or_false] at hx
  rcases hx with rfl | rfl <;> rfl
theorem prs_at : ∀ {M : List Pr} {i : Nat} {x : Pr}, M[i]? = some x → (prs M)[i * 2]? = some (.int .i64 x.1) ∧ (prs M)[i * 2 + 1]? = some (.int .i64 x.2)
  | [], _, _, h => by simp at h
  | y :: M, 0, x, h => by
    obtain rfl : y = x := by simpa using h
    exact ⟨rfl, rfl⟩
  | y :: M, i + 1, x, h => by
    obtain ⟨h1, h2⟩ := prs_at (M := M) (i := i) (x := x) (by simpa using h)
    rw [prs_cons]
    refine ⟨?_, ?_⟩
    · rw [List.getElem?_append_right (by simp; omega), ← h1]; congr 1; simp; omega
    · rw [List.getElem?_append_right (by simp; omega), ← h2]; congr 1; simp; omega
theorem prs_take (P : List Pr) : ∀ k, prs (P.take k) = (prs P).take (k * 2) := by
  induction P with
  | nil => intro k; simp [prs]
  | cons x P ih =>
    intro k
    cases k with
    | zero => simp [prs]
    | succ k => rw [List.take_succ_cons, prs_cons, prs_cons, ih, show (k + 1) * 2 = k * 2 + 1 + 1 from by omega]; rfl
theorem prs_drop (P : List Pr) : ∀ k, prs (P.drop k) = (prs P).drop (k * 2) := by
  induction P with
  | nil => intro k; simp [prs]
  | cons x P ih =>
    intro k
    cases k with
    | zero => simp
    | succ k => rw [List.drop_succ_cons, prs_cons, ih, show (k + 1) * 2 = k * 2 + 1 + 1 from by omega]; rfl
theorem mons_take (P : List Mon) : ∀ k, mons (P.take k) = (mons P).take (k * 3) := by
  induction P with
  | nil => intro k; simp [mons]
  | cons x P ih =>
    intro k
    cases k with
    | zero => simp [mons]
    | succ k => rw [List.take_succ_cons, mons_cons, mons_cons, ih, show (k + 1) * 3 = k * 3 + 1 + 1 + 1 from by omega]; rfl
theorem mons_drop (P : List Mon) : ∀ k, mons (P.drop k) = (mons P).drop (k * 3) := by
  induction P with
  | nil => intro k; simp [mons]
  | cons x P ih =>
    intro k
    cases k with
    | zero => simp
    | succ k => rw [List.drop_succ_cons, mons_cons, ih, show (k + 1) * 3 = k * 3 + 1 + 1 + 1 from by omega]; rfl
theorem pr_reads {w : World} {B : Nat → Prop} {F : Bool} {A : Option Addr} {n i : Nat} {M : List Pr} {x : Pr} (h : Reads w B F 2 A n (prs M)) (hx : M[i]? = some x) : ∃ g o, A = some ⟨g, o, none⟩ ∧ w.cell? ⟨g, o + i * 2, none⟩ = some (.int .i64 x.1) ∧ w.cell? ⟨g, o + i * 2 + 1, none⟩ = some (.int .i64 x.2) := by
  have hin := (List.getElem?_eq_some_iff.1 hx).1
  have hn : M.length = n := by have := h.1; rw [prs_len] at this; omega
  obtain ⟨⟨g, o, sp⟩, hA, hs, _, _, hc⟩ := h.2 (by omega)
  simp only at hs
  subst hs
  obtain ⟨e0, e1⟩ := prs_at hx
  exact ⟨g, o, hA, (hc _ _ e0).1, (hc _ _ e1).1⟩

def refFp (r : Nat) (A B : Option Addr) (k : Nat) : Prop := k = r ∨ rowB A k ∨ rowB B k
/-- The document's links: block r, its two rows. -/
structure RefAt (w : World) (r : Nat) (A : Option Addr) (c : Nat) (B : Option Addr) (d : Nat) (P : List Pr) (M : List Mon) : Prop where
  blk : Blk w r 41 #[.slice A P.length c, .slice B M.length d]
  one : Slab w 106 2 A P.length c (prs P)
  two : Slab w 108 3 B M.length d (mons M)
section
variable {w w' : World} {r c d : Nat} {A B : Option Addr} {P P' : List Pr} {M M' : List Mon}
theorem RefAt.keep {fp : Nat → Prop} (h : RefAt w r A c B d P M) (hk : Keeps fp w w') (hf : ∀ k, refFp r A B k → ¬ fp k) : RefAt w' r A c B d P M :=
  ⟨h.blk.keep hk (hf r (.inl rfl)), h.one.keep hk (fun k hk => hf k (.inr (.inl hk))), h.two.keep hk (fun k hk => hf k (.inr (.inr hk)))⟩
theorem RefAt.fresh (h : RefAt w r A c B d P M) (hk : Keeps NoB w w') : RefAt w' r A c B d P M := h.keep hk (fun _ _ => id)
theorem RefAt.cells (h : RefAt w r A c B d P M) (k : Nat) (hk : refFp r A B k) : ∃ t cs, Blk w k t cs := by
  rcases hk with rfl | hk | hk
  · exact ⟨_, _, h.blk⟩
  · exact ⟨_, row_blk h.one hk⟩
  · exact ⟨_, row_blk h.two hk⟩
end
def RPost (w : World) (r : Nat) (A B : Option Addr) (P' : List Pr) (M' : List Mon) (ok : Bool) (e : Ending) (w' : World) : Prop :=
  ∃ A' c' B' d', e = .returned (.bool ok) ∧ RefAt w' r A' c' B' d' P' M' ∧ Keeps (refFp r A B) w w' ∧ Moved w A A' ∧ Moved w B B'
theorem rpost_same {w w' : World} {r c d : Nat} {A B : Option Addr} {P : List Pr} {M : List Mon} (h : RefAt w r A c B d P M) (hk : Keeps NoB w w') : RPost w r A B P M false (.returned (.bool false)) w' :=
  ⟨A, c, B, d, rfl, h.fresh hk, hk.mono (fun _ _ h => h.elim), Moved.same _ _, Moved.same _ _⟩

theorem pair_any (a b : Int) (w : World) : Calls Tryz.prog 56 #[.int .i64 a, .int .i64 b] w fun e w' => e = .returned (.agg #[.int .i64 (min a b), .int .i64 (max a b)]) ∧ Keeps NoB w w' := by
  go_enter Tryz.func56, Tryz.ntmps56
  go_wp2_with fail
  have HP := hide (Blk.new w 106 #[.int .i64 (min a b), .int .i64 (max a b)])
  have HKP := hide ((Keeps.refl NoB w).alloc (.cells #[.int .i64 (min a b), .int .i64 (max a b)] 106))
  generalize w.alloc (.cells #[.int .i64 (min a b), .int .i64 (max a b)] 106) = w7 at *
  have d0 : w7.cell? ⟨w.heap.size, 0, none⟩ = some (.int .i64 (min a b)) := HP.out.cell 0
  have d1 : w7.cell? ⟨w.heap.size, 1, none⟩ = some (.int .i64 (max a b)) := HP.out.cell 1
  refine bodyPost_ret (v := .agg #[.int .i64 (min a b), .int .i64 (max a b)]) (by simp [results, Tryz.results37, go_sem, d0, d1]) rfl ?_
  exact ⟨rfl, HKP.out⟩

def eqPb (x y : Pr) : Bool := x.1 == y.1 && x.2 == y.2
theorem eqPb_iff {x y : Pr} : eqPb x y = true ↔ x = y := by
  obtain ⟨a, b⟩ := x; obtain ⟨c, d⟩ := y
  unfold eqPb; simp
abbrev prV (x : Pr) : Value := .agg #[.int .i64 x.1, .int .i64 x.2]
theorem eqI61 (a b c d : Int) (w : World) : (Op.equalIn 10000 106 (.agg #[.int .i64 a, .int .i64 b]) (.agg #[.int .i64 c, .int .i64 d])).run Tryz.prog w = .ok (a == c && b == d) w := by
  have u3 := Tryz.underlying3
  have a3 := Tryz.isAgg3
  have z3 := Tryz.sizeOf3
  obtain ⟨i0, hi0, _, _, _⟩ := info_parts Tryz.info3
  have hc : Tryz.prog.cellsOf 3 = 1 := by kernel_rfl
  rw [show (10000 : Nat) = 9999 + 1 from rfl, run_equalIn_array w 9999 _ _ Tryz.underlying106 hi0, hc]
  simp only [List.range_succ, List.range_zero, List.nil_append, List.cons_append, Op.eqItems]
  cases h1 : (a == c) <;> cases h2 : (b == d) <;> go_simp
theorem eql61 (x y : Pr) (w : World) : (binOp .eql 106 (prV x) (prV y)).run Tryz.prog w = .ok (.bool (eqPb x y)) w := by
  rw [run_eql_struct, eqI61]; rfl
theorem guard61 (p q : Operand) (x y : Pr) (w : World) : (eqGuard .eql 106 p q (prV x) (prV y)).run Tryz.prog w = .ok () w := by kernel_rfl
theorem exec61 (o : Oper) (a : Act) (p q : Operand) (r : TypeId) (x y : Pr) (ho : o.op = .binOp .eql 106 p q r) (hx : a.eval p = prV x) (hy : a.eval q = prV y) (w : World) : (execOp a.eval o).run Tryz.prog w = .ok (.value (.bool (eqPb x y))) w := by
  unfold execOp
  simp only [ho, hx, hy, Sem.run_bind, guard61, Result.andThen_ok, eql61, Sem.run_pure]
theorem pr_reads' {w : World} {B : Nat → Prop} {F : Bool} {g o n i : Nat} {M : List Pr} {x y : Int} (h : Reads w B F 2 (some ⟨g, o, none⟩) n (prs M)) (hx : M[i]? = some (x, y)) : w.cell? ⟨g, o + i * 2, none⟩ = some (.int .i64 x) ∧ w.cell? ⟨g, o + i * 2 + 1, none⟩ = some (.int .i64 y) := by
  obtain ⟨g', o', e, h2⟩ := pr_reads h hx
  injection e with e; injection e with e1 e2; subst e1 e2; exact h2
def FindPost (w : World) (P : List Pr) (p : Pr) (e : Ending) (w' : World) : Prop := ∃ v : Int, e = .returned (.int .i64 v) ∧ Keeps NoB w w' ∧ ((v = -1 ∧ p ∉ P) ∨ ∃ i : Nat, v = i ∧ P[i]? = some p)
set_option maxRecDepth 100000 in
set_option maxHeartbeats 2000000 in
theorem find_any (w : World) (r c d : Nat) (A B : Option Addr) (P : List Pr) (M : List Mon) (x y : Int) (h : RefAt w r A c B d P M) (hP : P.length ≤ 1000000) : Calls Tryz.prog 55 #[.pointer (some ⟨r, 0, none⟩), .agg #[.int .i64 x, .int .i64 y]] w (FindPost w P (x, y)) := by
  obtain ⟨n, hn⟩ : ∃ n, P.length = n := ⟨_, rfl⟩
  have HR0 := hide (h.fresh ((Keeps.refl NoB w).alloc (.cells #[.int .i64 x, .int .i64 y] 106)))
  have HX0 := hide (Blk.new w 106 #[.int .i64 x, .int .i64 y])
  have HK0 := hide ((Keeps.refl NoB w).alloc (.cells #[.int .i64 x, .int .i64 y] 106))
  have HN := hide hn
  rw [hn] at hP
  clear h hn
  go_enter Tryz.func55, Tryz.ntmps55
  go_wp2_with fail
  generalize w.alloc (.cells #[.int .i64 x, .int .i64 y] 106) = w1 at *
  generalize w.heap.size = xb at *
  go_loopg [5] n (fun g s5 wx => ∃ k : Nat, k ≤ n ∧ g = n - k ∧ s5 = .int .i64 k ∧ Keeps NoB w1 wx ∧ Hid (∀ j z, j < k → P[j]? = some z → z ≠ (x, y)))
  case atStart => exact ⟨0, Nat.zero_le _, rfl, rfl, Keeps.refl _ _, hide (fun j z h => by omega)⟩
  case round =>
    obtain ⟨k, hk, rfl, rfl, hkp, HI⟩ := hrel
    have HKP := hide hkp
    have HR := hide (HR0.out.fresh hkp)
    clear hkp
    have hk0 : (0 : Int) ≤ k := by omega
    have q0 : wr.cell? ⟨r, 0, none⟩ = some (.slice A n c) := by rw [← HN.out]; exact HR.out.blk.cell 0
    by_cases hkn : k < n
    · have hkz : (k : Int) < n := by omega
      obtain ⟨z, hz⟩ : ∃ z, P[k]? = some z := ⟨_, List.getElem?_eq_getElem (by have := HN.out; omega)⟩
      obtain ⟨g, o, hA, _⟩ := pr_reads HR.out.one.reads hz
      subst hA
      obtain ⟨z1, z2⟩ := z
      have HZ := hide hz
      clear hz
      go_wp2_with fail
      clear q0
      refine order_begin (fun W => RefAt W r (some ⟨g, o, none⟩) c B d P M ∧ Blk W xb 106 #[.int .i64 x, .int .i64 y]) (fun _ => true) (by kernel_rfl) 9 rfl ?_
      have HS := And.intro (HR.out.fresh (Keeps.refl NoB wr).drew) ((HX0.out.keep HKP.out id).keep (Keeps.refl NoB wr).drew id)
      have HK2 := hide HKP.out.drew
      have HNN := hide HN.out
      refine order_pure (i := 0) rfl (by kernel_rfl) (fun _ _ _ h => h) (.inl ⟨rfl, fun _ => by go_simp; rfl⟩) ?_
      try simp only [Act.put, List.setIfInBounds_toArray, List.set_cons_succ, List.set_cons_zero]
      refine order_pure (i := 1) rfl (by kernel_rfl) (fun _ _ _ h => h) (.inl ⟨rfl, fun _ => by go_simp; rfl⟩) ?_
      try simp only [Act.put, List.setIfInBounds_toArray, List.set_cons_succ, List.set_cons_zero]
      refine order_pure (i := 2) rfl (by kernel_rfl) (fun _ _ _ h => h) (.inl ⟨rfl, fun _ => by go_simp; rfl⟩) ?_
      try simp only [Act.put, List.setIfInBounds_toArray, List.set_cons_succ, List.set_cons_zero]
      refine order_held (i := 3) rfl (by kernel_rfl) (fun _ _ _ h => h) (.inl ⟨rfl, fun W hW => by
        have q0 : W.cell? ⟨r, 0, none⟩ = some (.slice (some ⟨g, o, none⟩) n c) := (by rw [← HNN.out]; exact hW.1.blk.cell 0)
        go_simp; rfl⟩) HS ?_
      try simp only [Act.put, List.setIfInBounds_toArray, List.set_cons_succ, List.set_cons_zero]
      refine order_pure (i := 4) rfl (by kernel_rfl) (fun _ _ _ h => h) (.inl ⟨rfl, fun _ => by go_simp; rfl⟩) ?_
      try simp only [Act.put, List.setIfInBounds_toArray, List.set_cons_succ, List.set_cons_zero]
      refine order_pure (i := 5) rfl (by kernel_rfl) (fun _ _ _ h => h) (.inl ⟨rfl, fun _ => by go_simp; rfl⟩) ?_
      try simp only [Act.put, List.setIfInBounds_toArray, List.set_cons_succ, List.set_cons_zero]
      refine order_held (i := 6) rfl (by kernel_rfl) (fun _ _ _ h => h) (.inl ⟨rfl, fun W hW => by
        have q0 : W.cell? ⟨g, o + k * 2, none⟩ = some (.int .i64 z1) := (pr_reads' hW.1.one.reads HZ.out).1
        have q1 : W.cell? ⟨g, o + k * 2 + 1, none⟩ = some (.int .i64 z2) := (pr_reads' hW.1.one.reads HZ.out).2
        go_simp; rfl⟩) HS ?_
      try simp only [Act.put, List.setIfInBounds_toArray, List.set_cons_succ, List.set_cons_zero]
      refine order_held (i := 7) rfl (by kernel_rfl) (fun _ _ _ h => h) (.inl ⟨rfl, fun W hW => by
        have q0 : W.cell? ⟨xb, 0, none⟩ = some (.int .i64 x) := hW.2.cell 0
        have q1 : W.cell? ⟨xb, 1, none⟩ = some (.int .i64 y) := hW.2.cell 1
        go_simp; rfl⟩) HS ?_
      try simp only [Act.put, List.setIfInBounds_toArray, List.set_cons_succ, List.set_cons_zero]
      refine order_pure (i := 8) rfl (by kernel_rfl) (fun _ _ _ h => h) (.inl ⟨rfl, fun W => exec61 _ _ _ _ _ (z1, z2) (x, y) rfl rfl rfl W⟩) ?_
      try simp only [Act.put, List.setIfInBounds_toArray, List.set_cons_succ, List.set_cons_zero]
      refine order_done (by kernel_rfl) ?_
      clear HS
      cases he : eqPb (z1, z2) (x, y) with
      | true =>
        have HE := hide (eqPb_iff.1 he)
        clear he
        go_wp2_with fail
        go_ret
        exact ⟨k, rfl, HK0.out.trans' HK2.out (fun _ _ => id) (fun _ _ => id), .inr ⟨k, rfl, HE.out ▸ HZ.out⟩⟩
      | false =>
        have HE := hide (show (z1, z2) ≠ (x, y) from fun e => by rw [eqPb_iff.2 e] at he; cases he)
        clear he
        go_wp2_with fail
        go_roundg (n - (k + 1))
        case measure => omega
        case rel => exact ⟨k + 1, by omega, rfl, by go_num, HK2.out, hide (fun j z hj hz => by
          rcases Nat.lt_succ_iff_lt_or_eq.1 hj with h | rfl
          · exact HI.out j z h hz
          · rw [HZ.out] at hz; cases hz; exact HE.out)⟩
    · obtain rfl : k = n := by omega
      have hkz : ¬ (k : Int) < k := by omega
      go_wp2_with fail
      go_ret
      refine ⟨-1, rfl, HK0.out.trans' HKP.out (fun _ _ => id) (fun _ _ => id), .inl ⟨rfl, fun hm => ?_⟩⟩
      obtain ⟨j, hj, e⟩ := List.mem_iff_getElem.1 hm
      exact HI.out j _ (by have := HN.out; omega) (List.getElem?_eq_some_iff.2 ⟨hj, e⟩) rfl
theorem find_no (w : World) (r c d : Nat) (A B : Option Addr) (P : List Pr) (M : List Mon) (x y : Int) (h : RefAt w r A c B d P M) (hP : P.length ≤ 1000000) (hn : (x, y) ∉ P) : Calls Tryz.prog 55 #[.pointer (some ⟨r, 0, none⟩), .agg #[.int .i64 x, .int .i64 y]] w fun e w' => e = .returned (.int .i64 (-1)) ∧ Keeps NoB w w' := by
  refine (find_any w r c d A B P M x y h hP).mono ?_
  rintro e w' ⟨v, rfl, hk, ⟨rfl, _⟩ | ⟨i, _, hi⟩⟩
  · exact ⟨rfl, hk⟩
  · exact absurd (List.mem_of_getElem? hi) hn
theorem find_yes (w : World) (r c d : Nat) (A B : Option Addr) (P : List Pr) (M : List Mon) (x y : Int) (h : RefAt w r A c B d P M) (hP : P.length ≤ 1000000) (hn : (x, y) ∈ P) : Calls Tryz.prog 55 #[.pointer (some ⟨r, 0, none⟩), .agg #[.int .i64 x, .int .i64 y]] w fun e w' => ∃ i : Nat, e = .returned (.int .i64 i) ∧ Keeps NoB w w' ∧ P[i]? = some (x, y) := by
  refine (find_any w r c d A B P M x y h hP).mono ?_
  rintro e w' ⟨v, rfl, hk, ⟨_, hi⟩ | ⟨i, rfl, hi⟩⟩
  · exact absurd hn hi
  · exact ⟨i, rfl, hk, hi⟩
end Go.Proofs.YtjmljjmnamfljaaGreat
