/- pigeonholekit: marks; LentLimbs: a copy with marks behind its end. -/
import Derived.Test.YtfehciiidmgopaaTmSames
import Derived.OwnWalk
namespace Go.Proofs.Ytfehciiidmgopaa
open Go.RowKit

def markV (k i : Int) : Int := 1000003 * (k + 7) + i
theorem mark_any (k i : Int) (hk : 0 ≤ k) (hk2 : k ≤ 1000000) (hi : 0 ≤ i) (hi2 : i ≤ 1000000) (w : World) : Calls Try.prog 70 #[.int .i64 k, .int .i64 i] w fun e w' => e = .returned (.int .i64 (markV k i)) ∧ w = w' := by
  unfold markV
  go_enter Try.func70, Try.ntmps70
  go_wp2_with fail
  go_ret
  exact ⟨by go_num, rfl⟩

def markC (k i : Int) : List Value := [.int .u8 0, .bool false, .slice none 0 0, .string { data := #[] }, .int .i64 (markV k i), .slice none 0 0, .slice none 0 0]
abbrev markT (k i : Int) : Tm := flatT 0 ⟨#[]⟩ (markV k i)
theorem mark_in (w : World) (B : Nat → Prop) (F : Bool) (k i : Int) : TermIn w B F (markC k i) (markT k i) := flat_in w B F 0 ⟨#[]⟩ (markV k i)
set_option maxRecDepth 100000 in
theorem markTerm_any (k i : Int) (hk : 0 ≤ k) (hk2 : k ≤ 1000000) (hi : 0 ≤ i) (hi2 : i ≤ 1000000) (w : World) : Calls Try.prog 71 #[.int .i64 k, .int .i64 i] w fun e w' => e = .returned (.agg #[.int .u8 0, .bool false, .slice none 0 0, .string { data := #[] }, .int .i64 (markV k i), .slice none 0 0, .slice none 0 0]) ∧ Keeps NoB w w' := by
  have HB := hide (Blk.new w 26 #[.int .u8 0, .bool false, .slice none 0 0, .string { data := #[] }, .int .i64 0, .slice none 0 0, .slice none 0 0])
  have HK := hide ((Keeps.refl NoB w).alloc (.cells #[.int .u8 0, .bool false, .slice none 0 0, .string { data := #[] }, .int .i64 0, .slice none 0 0, .slice none 0 0] 26))
  have z0 : (w.alloc (.cells #[.int .u8 0, .bool false, .slice none 0 0, .string { data := #[] }, .int .i64 0, .slice none 0 0, .slice none 0 0] 26)).cell? ⟨w.heap.size, 0, none⟩ = some (.int .u8 0) := HB.out.cell 0
  have z1 : (w.alloc (.cells #[.int .u8 0, .bool false, .slice none 0 0, .string { data := #[] }, .int .i64 0, .slice none 0 0, .slice none 0 0] 26)).cell? ⟨w.heap.size, 1, none⟩ = some (.bool false) := HB.out.cell 1
  have z2 : (w.alloc (.cells #[.int .u8 0, .bool false, .slice none 0 0, .string { data := #[] }, .int .i64 0, .slice none 0 0, .slice none 0 0] 26)).cell? ⟨w.heap.size, 2, none⟩ = some (.slice none 0 0) := HB.out.cell 2
  have z3 : (w.alloc (.cells #[.int .u8 0, .bool false, .slice none 0 0, .string { data := #[] }, .int .i64 0, .slice none 0 0, .slice none 0 0] 26)).cell? ⟨w.heap.size, 3, none⟩ = some (.string { data := #[] }) := HB.out.cell 3
  have z4 : (w.alloc (.cells #[.int .u8 0, .bool false, .slice none 0 0, .string { data := #[] }, .int .i64 0, .slice none 0 0, .slice none 0 0] 26)).cell? ⟨w.heap.size, 4, none⟩ = some (.int .i64 0) := HB.out.cell 4
  have z5 : (w.alloc (.cells #[.int .u8 0, .bool false, .slice none 0 0, .string { data := #[] }, .int .i64 0, .slice none 0 0, .slice none 0 0] 26)).cell? ⟨w.heap.size, 5, none⟩ = some (.slice none 0 0) := HB.out.cell 5
  have z6 : (w.alloc (.cells #[.int .u8 0, .bool false, .slice none 0 0, .string { data := #[] }, .int .i64 0, .slice none 0 0, .slice none 0 0] 26)).cell? ⟨w.heap.size, 6, none⟩ = some (.slice none 0 0) := HB.out.cell 6
  have f0 : (w.alloc (.cells #[.int .u8 0, .bool false, .slice none 0 0, .string { data := #[] }, .int .i64 0, .slice none 0 0, .slice none 0 0] 26)).frozen? ⟨w.heap.size, 0, none⟩ = false := HB.out.free 0
  have f1 : (w.alloc (.cells #[.int .u8 0, .bool false, .slice none 0 0, .string { data := #[] }, .int .i64 0, .slice none 0 0, .slice none 0 0] 26)).frozen? ⟨w.heap.size, 1, none⟩ = false := HB.out.free 1
  have f2 : (w.alloc (.cells #[.int .u8 0, .bool false, .slice none 0 0, .string { data := #[] }, .int .i64 0, .slice none 0 0, .slice none 0 0] 26)).frozen? ⟨w.heap.size, 2, none⟩ = false := HB.out.free 2
  have f3 : (w.alloc (.cells #[.int .u8 0, .bool false, .slice none 0 0, .string { data := #[] }, .int .i64 0, .slice none 0 0, .slice none 0 0] 26)).frozen? ⟨w.heap.size, 3, none⟩ = false := HB.out.free 3
  have f4 : (w.alloc (.cells #[.int .u8 0, .bool false, .slice none 0 0, .string { data := #[] }, .int .i64 0, .slice none 0 0, .slice none 0 0] 26)).frozen? ⟨w.heap.size, 4, none⟩ = false := HB.out.free 4
  have f5 : (w.alloc (.cells #[.int .u8 0, .bool false, .slice none 0 0, .string { data := #[] }, .int .i64 0, .slice none 0 0, .slice none 0 0] 26)).frozen? ⟨w.heap.size, 5, none⟩ = false := HB.out.free 5
  have f6 : (w.alloc (.cells #[.int .u8 0, .bool false, .slice none 0 0, .string { data := #[] }, .int .i64 0, .slice none 0 0, .slice none 0 0] 26)).frozen? ⟨w.heap.size, 6, none⟩ = false := HB.out.free 6
  go_enter Try.func71, Try.ntmps71
  go_wp2_with (go_at_call 70; refine (mark_any k i hk hk2 hi hi2 _).mono ?_; rintro e w' ⟨rfl, rfl⟩)
  generalize markV k i = nm at *
  have HP := hide (Blk.new w 26 #[.int .u8 0, .bool false, .slice none 0 0, .string { data := #[] }, .int .i64 nm, .slice none 0 0, .slice none 0 0])
  have HKP := hide ((Keeps.refl NoB w).alloc (.cells #[.int .u8 0, .bool false, .slice none 0 0, .string { data := #[] }, .int .i64 nm, .slice none 0 0, .slice none 0 0] 26))
  clear z0 z1 z2 z3 z4 z5 z6 f0 f1 f2 f3 f4 f5 f6
  generalize w.alloc (.cells #[.int .u8 0, .bool false, .slice none 0 0, .string { data := #[] }, .int .i64 nm, .slice none 0 0, .slice none 0 0] 26) = w7 at *
  have d0 : w7.cell? ⟨w.heap.size, 0, none⟩ = some (.int .u8 0) := HP.out.cell 0
  have d1 : w7.cell? ⟨w.heap.size, 1, none⟩ = some (.bool false) := HP.out.cell 1
  have d2 : w7.cell? ⟨w.heap.size, 2, none⟩ = some (.slice none 0 0) := HP.out.cell 2
  have d3 : w7.cell? ⟨w.heap.size, 3, none⟩ = some (.string { data := #[] }) := HP.out.cell 3
  have d4 : w7.cell? ⟨w.heap.size, 4, none⟩ = some (.int .i64 nm) := HP.out.cell 4
  have d5 : w7.cell? ⟨w.heap.size, 5, none⟩ = some (.slice none 0 0) := HP.out.cell 5
  have d6 : w7.cell? ⟨w.heap.size, 6, none⟩ = some (.slice none 0 0) := HP.out.cell 6
  refine bodyPost_ret (v := .agg #[.int .u8 0, .bool false, .slice none 0 0, .string { data := #[] }, .int .i64 nm, .slice none 0 0, .slice none 0 0]) (by simp [results, Try.results71, go_sem, d0, d1, d2, d3, d4, d5, d6]) rfl ?_
  exact ⟨rfl, HKP.out⟩

section
variable {P : Program} (w : World)
theorem wpList_append_room {ops : Array Oper} {rest : List Oper} {o : Oper} {a : Act} {Q : Exit → Act → World → Prop} (hgd : o.guard = none) (s x : Operand) (t : TypeId)
    (ho : o.op = .call { callee := .builtin .append, args := #[s, x], argTypes := #[t, t] })
    (e : TypeId) (i : TypeInfo) (size : Nat) (ht : P.underlying t = some (.slice e)) (hi : P.info? e = some i) (hsize : i.size = size)
    (A : Option Addr) (n c : Nat) (xs : List Value) (he : a.eval s = .slice A n c) (hs : Slab w e size A n c xs)
    (B : Nat → Prop) (F : Bool) (A2 : Option Addr) (m c2 : Nat) (news : List Value) (hx : a.eval x = .slice A2 m c2) (hr : Reads w B F size A2 m news) (h1 : ∀ u ∈ news, u.oneCell' = true) (hroom : n + m ≤ c)
    (h : ∀ w', Slab w' e size A (n + m) c (xs ++ news) → Keeps (rowB A) w w' → wpList P ops Q rest (a.put o.dst (.slice A (n + m) c)) w') : wpList P ops Q (o :: rest) a w := by
  obtain ⟨w', hrun, h2, h3⟩ := run_append_room_slab (P := P) w t o.type e i size ht hi hsize A n c xs hs B F A2 m c2 news hr h1 hroom
  refine wpList_plain hgd fun _ hK => ?_
  unfold Oper.wp execOp
  simp only [ho, resolve, invoke, builtin, Sem.run_bind, Sem.run_pure, Result.andThen_ok, List.map_toArray, List.map_cons, List.map_nil, he, hx, hrun]
  exact hK _ _ (h w' h2 h3)
end

theorem tm_one_reads {w : World} {vb : Nat} {t : TypeId} {v : Value} (hv : Blk w vb t #[v]) : Reads w (fun _ => True) true 1 (some ⟨vb, 0, none⟩) 1 [v] := by
  refine ⟨rfl, fun _ => ⟨_, rfl, rfl, trivial, hv.lt, fun j u hu => ⟨?_, fun _ => hv.free _⟩⟩⟩
  rw [hv.cell, ← hu]; simp

def marksL (m : Nat) : List Value := (List.range m).map fun (i : Nat) => Value.int .u32 (IntKind.u32.wrap (markV 1 (i : Int)))
theorem marksL_succ (m : Nat) : marksL (m + 1) = marksL m ++ [.int .u32 (IntKind.u32.wrap (markV 1 (m : Int)))] := by unfold marksL; rw [List.range_succ, List.map_append]; rfl
theorem marksL_len (m : Nat) : (marksL m).length = m := by simp [marksL]
theorem ints_ones (xs : List Int) : ∀ u ∈ xs.map (Value.int .u32), u.oneCell' = true := by
  intro u hu; obtain ⟨x, _, rfl⟩ := List.mem_map.1 hu; rfl

def LentL (w : World) (xs : List Int) (n : Nat) (e : Ending) (w' : World) : Prop :=
  e = .returned (.slice (some ⟨w.heap.size, 0, none⟩) n (n + 12)) ∧ Slab w' 44 1 (some ⟨w.heap.size, 0, none⟩) (n + 12) (n + 12) (xs.map (Value.int .u32) ++ marksL 12) ∧ Keeps NoB w w' ∧ w.heap.size < w'.heap.size

set_option maxRecDepth 100000 in
set_option maxHeartbeats 1000000 in
theorem lentLimbs_any (A : Option Addr) (n c : Nat) (xs : List Int) (w : World) (B : Nat → Prop) (F : Bool) (h : Reads w B F 1 A n (xs.map (Value.int .u32))) (hnr : Roomy n 4) :
    Calls Try.prog 52 #[.slice A n c] w (LentL w xs n) := by
  obtain ⟨i0, hi0, hz0, hz1, hz2⟩ := info_parts Try.infoLm
  have hn : n ≤ 35184372088832 := by unfold Roomy at hnr; omega
  clear hnr
  have H := hide h
  have HB := hide (show i0.bytes * (n + 12) ≤ 281474976710656 by rw [hz2]; omega)
  have hwr : IntKind.i64.wrap ((n : Int) + 12) = (n : Int) + 12 := IntWalk.i64_in _ (by omega)
  clear h
  go_enter Try.func52, Try.ntmps52
  go_wp2_with (refine wpList_make_own _ rfl _ _ 23 rfl 0 44 i0 _ 1 Try.underlying23 hi0 hz0 hz1 .i64 .i64 ((n : Int) + 12) (n + 12) rfl rfl (by omega) HB.out (by unfold maxLen; omega) (Nat.zero_le _) ?_)
  intro w1 how hg
  have hk1 : Keeps NoB w w1 := (Keeps.refl NoB w).grown hg (fun k h _ => by cases h)
  obtain ⟨_, _, hv, hsl⟩ := Slab.of_own how
  injection hv with hv1 hv2 hv3
  subst hv1 hv3
  have HS1 := hide hsl; have HK1 := hide hk1
  clear how hg hk1 hsl hwr
  go_wp2_with (refine wpList_append_room _ rfl _ _ 23 rfl 44 i0 1 Try.underlying23 hi0 hz1 (some ⟨w.heap.size, 0, none⟩) 0 (n + 12) [] rfl HS1.out B F A n c (xs.map (Value.int .u32)) rfl (H.out.keep HK1.out (fun _ _ => id)) (ints_ones xs) (by omega) ?_)
  intro w2 hs2 hk2
  have hlt : w.heap.size < w2.heap.size := hs2.lt ⟨0, rfl⟩
  have HS2 := hide hs2
  have HK2 := hide (HK1.out.trans' hk2 (fun _ _ => id) (fun k hk ⟨o, e⟩ => by injection e with e; injection e with e; omega) : Keeps NoB w w2)
  clear hs2 hk2 HS1 HK1
  go_wp2_with fail
  go_loopg [3, 4] 12 (fun g s3 s4 wr => ∃ k : Nat, k ≤ 12 ∧ g = 12 - k ∧ s3 = .slice (some ⟨w.heap.size, 0, none⟩) (n + k) (n + 12) ∧ s4 = .int .i64 k ∧ Hid (Slab wr 44 1 (some ⟨w.heap.size, 0, none⟩) (n + k) (n + 12) (xs.map (Value.int .u32) ++ marksL k)) ∧ Keeps NoB w wr ∧ w.heap.size < wr.heap.size)
  case atStart => exact ⟨0, Nat.zero_le _, rfl, rfl, rfl, hide (by simpa [marksL] using HS2.out), HK2.out, hlt⟩
  case round =>
    obtain ⟨k, hk, rfl, rfl, rfl, HS, hkw, hlt2⟩ := hrel
    have HKW := hide hkw; clear hkw
    by_cases hk12 : k < 12
    · have hk1 : (k : Int) < 12 := by omega
      have HSA := hide (HS.out.fresh ((Keeps.refl NoB wr).alloc (.cells #[.int .u32 (IntKind.u32.wrap (markV 1 k))] 44)))
      have HRD := hide (tm_one_reads (Blk.new wr 44 #[.int .u32 (IntKind.u32.wrap (markV 1 k))]))
      go_wp2_with
        first
        | (go_at_call 70; refine (mark_any 1 k (by omega) (by omega) (by omega) (by omega) _).mono ?_; rintro e w' ⟨rfl, rfl⟩)
        | (at_builtin; refine wpList_append_room _ rfl _ _ 23 rfl 44 i0 1 Try.underlying23 hi0 hz1 (some ⟨w.heap.size, 0, none⟩) (n + k) (n + 12) (xs.map (Value.int .u32) ++ marksL k) rfl HSA.out (fun _ => True) true (some ⟨wr.heap.size, 0, none⟩) 1 1 [.int .u32 (IntKind.u32.wrap (markV 1 k))] rfl HRD.out (by intro u hu; simp only [List.mem_singleton] at hu; rw [hu]; rfl) (by omega) ?_; intro w4 hs4 hk4; (have HS4 := hide hs4); (have HK4 := hide hk4); clear hs4 hk4)
        | fail
      have hk4 : Keeps NoB w w4 := (HKW.out.alloc _).trans' HK4.out (fun _ _ => id) (fun j hj ⟨o, e⟩ => by injection e with e; injection e with e; omega)
      have hs4 := HK4.out.size
      rw [World.size_alloc] at hs4
      have hlt4 : w.heap.size < w4.heap.size := by omega
      go_roundg (12 - (k + 1))
      case measure => omega
      case rel => exact ⟨k + 1, by omega, rfl, rfl, by go_num, hide (by rw [marksL_succ, ← List.append_assoc]; exact HS4.out), hk4, hlt4⟩
    · obtain rfl : k = 12 := by omega
      have hk1 : ¬ ((12 : Nat) : Int) < 12 := by omega
      have hn12 : n ≤ n + 12 := by omega
      go_wp2_with fail
      go_ret
      exact ⟨rfl, HS.out, HKW.out, hlt2⟩


def marksC (m : Nat) : List Value := (List.range m).flatMap fun (i : Nat) => markC 1 (i : Int)
theorem marksC_succ (m : Nat) : marksC (m + 1) = marksC m ++ markC 1 (m : Int) := by unfold marksC; rw [List.range_succ, List.flatMap_append]; simp
theorem marksC_len (m : Nat) : (marksC m).length = m * 7 := by
  induction m with
  | zero => rfl
  | succ m ih => rw [marksC_succ, List.length_append, ih]; simp [markC]; omega

/-- Limbs lent: in a block between two. -/
def LimbL (w : World) (lo hi : Nat) (A : Option Addr) (n c : Nat) (xs : List Int) : Prop :=
  ∃ g, A = some ⟨g, 0, none⟩ ∧ lo ≤ g ∧ g < hi ∧ c = n + 12 ∧ xs.length = n ∧ Slab w 44 1 A (n + 12) (n + 12) (xs.map (Value.int .u32) ++ marksL 12)

mutual
/-- Seven cells of a lent term; its blocks lie from lo to hi. -/
def LIn (w : World) : Nat → Nat → List Value → Tm → Prop
  | lo, hi, cs, .mk k neg limbs text num items tail => ∃ la ln lc g im ic g' tn tc css dss m1 m2,
      cs = [.int .u8 k, .bool neg, .slice la ln lc, .string text, .int .i64 num, .slice (some ⟨g, 0, none⟩) im ic, .slice (some ⟨g', 0, none⟩) tn tc] ∧
      (Roomy ln 4 ∧ Roomy im 104 ∧ Roomy tn 104) ∧ LimbL w lo m1 la ln lc limbs ∧
      (m1 ≤ g ∧ ic = im + 12 ∧ css.length = im ∧ Slab w 26 7 (some ⟨g, 0, none⟩) (im + 12) (im + 12) (css.flatten ++ marksC 12) ∧ LsIn w (g + 1) m2 css items) ∧
      (m2 ≤ g' ∧ tc = tn + 12 ∧ dss.length = tn ∧ Slab w 26 7 (some ⟨g', 0, none⟩) (tn + 12) (tn + 12) (dss.flatten ++ marksC 12) ∧ LsIn w (g' + 1) hi dss tail)
def LsIn (w : World) : Nat → Nat → List (List Value) → List Tm → Prop
  | lo, hi, [], [] => lo ≤ hi
  | lo, hi, cs :: css, t :: ts => ∃ m, LIn w lo m cs t ∧ LsIn w m hi css ts
  | _, _, [], _ :: _ => False
  | _, _, _ :: _, [] => False
end

/-- A row of lent terms. -/
def RowL (w : World) (lo hi : Nat) (A : Option Addr) (n c : Nat) (ts : List Tm) : Prop :=
  ∃ g css, A = some ⟨g, 0, none⟩ ∧ lo ≤ g ∧ c = n + 12 ∧ css.length = n ∧ Slab w 26 7 (some ⟨g, 0, none⟩) (n + 12) (n + 12) (css.flatten ++ marksC 12) ∧ LsIn w (g + 1) hi css ts

mutual
theorem LIn.le {w : World} : ∀ {lo hi : Nat} {cs : List Value} {t : Tm}, LIn w lo hi cs t → lo < hi
  | lo, hi, cs, .mk k neg limbs text num items tail, h => by
    unfold LIn at h
    obtain ⟨la, ln, lc, g, im, ic, g', tn, tc, css, dss, m1, m2, _, _, ⟨g0, _, h1, h2, _⟩, ⟨h3, _, _, _, h4⟩, ⟨h5, _, _, _, h6⟩⟩ := h
    have := LsIn.le h4
    have := LsIn.le h6
    omega
theorem LsIn.le {w : World} : ∀ {lo hi : Nat} {css : List (List Value)} {ts : List Tm}, LsIn w lo hi css ts → lo ≤ hi
  | lo, hi, [], [], h => by unfold LsIn at h; exact h
  | lo, hi, cs :: css, t :: ts, h => by
    unfold LsIn at h
    obtain ⟨m, h1, h2⟩ := h
    have := LIn.le h1
    have := LsIn.le h2
    omega
  | _, _, [], _ :: _, h => by unfold LsIn at h; exact h.elim
  | _, _, _ :: _, [], h => by unfold LsIn at h; exact h.elim
end

mutual
theorem LIn.keep {w w' : World} {fp : Nat → Prop} (hk : Keeps fp w w') : ∀ {lo hi : Nat} {cs : List Value} {t : Tm}, LIn w lo hi cs t → (∀ k, lo ≤ k → k < hi → ¬ fp k) → LIn w' lo hi cs t
  | lo, hi, cs, .mk k neg limbs text num items tail, h, hf => by
    unfold LIn at h ⊢
    obtain ⟨la, ln, lc, g, im, ic, g', tn, tc, css, dss, m1, m2, e, hs, ⟨g0, e0, h1, h2, e1, e2, h3⟩, ⟨h4, e3, e4, h5, h6⟩, ⟨h7, e5, e6, h8, h9⟩⟩ := h
    have q1 := LsIn.le h6
    have q2 := LsIn.le h9
    subst e0
    refine ⟨_, ln, lc, g, im, ic, g', tn, tc, css, dss, m1, m2, e, hs, ⟨g0, rfl, h1, h2, e1, e2, h3.keep hk (fun k ⟨o, ek⟩ => by injection ek with ek; injection ek with ek; subst ek; exact hf _ (by omega) (by omega))⟩, ⟨h4, e3, e4, h5.keep hk (fun k ⟨o, ek⟩ => by injection ek with ek; injection ek with ek; subst ek; exact hf _ (by omega) (by omega)), LsIn.keep hk h6 (fun k hk1 hk2 => hf k (by omega) (by omega))⟩, ⟨h7, e5, e6, h8.keep hk (fun k ⟨o, ek⟩ => by injection ek with ek; injection ek with ek; subst ek; exact hf _ (by omega) (by omega)), LsIn.keep hk h9 (fun k hk1 hk2 => hf k (by omega) (by omega))⟩⟩
theorem LsIn.keep {w w' : World} {fp : Nat → Prop} (hk : Keeps fp w w') : ∀ {lo hi : Nat} {css : List (List Value)} {ts : List Tm}, LsIn w lo hi css ts → (∀ k, lo ≤ k → k < hi → ¬ fp k) → LsIn w' lo hi css ts
  | lo, hi, [], [], h, _ => by unfold LsIn at h ⊢; exact h
  | lo, hi, cs :: css, t :: ts, h, hf => by
    unfold LsIn at h ⊢
    obtain ⟨m, h1, h2⟩ := h
    have q1 := LIn.le h1
    have q2 := LsIn.le h2
    exact ⟨m, LIn.keep hk h1 (fun k hk1 hk2 => hf k hk1 (by omega)), LsIn.keep hk h2 (fun k hk1 hk2 => hf k (by omega) hk2)⟩
  | _, _, [], _ :: _, h, _ => by unfold LsIn at h; exact h.elim
  | _, _, _ :: _, [], h, _ => by unfold LsIn at h; exact h.elim
end

theorem take_front {xs ys : List Value} {k : Nat} (h : xs.length = k) : (xs ++ ys).take k = xs := by subst h; exact List.take_left

mutual
theorem LIn.len {w : World} : ∀ {lo hi : Nat} {cs : List Value} {t : Tm}, LIn w lo hi cs t → cs.length = 7
  | lo, hi, cs, .mk k neg limbs text num items tail, h => by
    unfold LIn at h
    obtain ⟨la, ln, lc, g, im, ic, g', tn, tc, css, dss, m1, m2, rfl, _⟩ := h
    rfl
theorem LsIn.lens {w : World} : ∀ {lo hi : Nat} {css : List (List Value)} {ts : List Tm}, LsIn w lo hi css ts → css.length = ts.length ∧ ∀ c ∈ css, c.length = 7
  | lo, hi, [], [], h => ⟨rfl, fun _ h => by cases h⟩
  | lo, hi, cs :: css, t :: ts, h => by
    unfold LsIn at h
    obtain ⟨m, h1, h2⟩ := h
    have q1 := LIn.len h1
    obtain ⟨q2, q3⟩ := LsIn.lens h2
    refine ⟨by simp [q2], fun c hc => ?_⟩
    rcases List.mem_cons.1 hc with rfl | hc
    · exact q1
    · exact q3 c hc
  | _, _, [], _ :: _, h => by unfold LsIn at h; exact h.elim
  | _, _, _ :: _, [], h => by unfold LsIn at h; exact h.elim
end

mutual
/-- A lent term reads as a term. -/
theorem LIn.term {w : World} {B : Nat → Prop} : ∀ {lo hi : Nat} {cs : List Value} {t : Tm}, LIn w lo hi cs t → (∀ k, lo ≤ k → k < hi → B k) → TermIn w B true cs t
  | lo, hi, cs, .mk k neg limbs text num items tail, h, hB => by
    unfold LIn at h
    unfold TermIn
    obtain ⟨la, ln, lc, g, im, ic, g', tn, tc, css, dss, m1, m2, e, ⟨s1, s2, s3⟩, ⟨g0, e0, h1, h2, e1, e2, h3⟩, ⟨h4, e3, e4, h5, h6⟩, ⟨h7, e5, e6, h8, h9⟩⟩ := h
    have q1 := LsIn.le h6
    have q2 := LsIn.le h9
    have l1 := LsIn.lens h6
    have l2 := LsIn.lens h9
    subst e0
    refine ⟨_, ln, lc, _, im, ic, _, tn, tc, css, dss, e, ⟨s1, s2, s3⟩, ?_, ?_, LsIn.term h6 (fun k hk1 hk2 => hB k (by omega) (by omega)), ?_, LsIn.term h9 (fun k hk1 hk2 => hB k (by omega) (by omega))⟩
    · have := (Slab.part h3 (i := ln) (by omega)).more (B' := B) (fun k _ ⟨o, ek⟩ => by injection ek with ek; injection ek with ek; subst ek; exact hB _ (by omega) (by omega))
      rwa [take_front (by simp [e2])] at this
    · have := (Slab.part h5 (i := im) (by omega)).more (B' := B) (fun k _ ⟨o, ek⟩ => by injection ek with ek; injection ek with ek; subst ek; exact hB _ (by omega) (by omega))
      rwa [take_front (by rw [flat_len l1.2, e4])] at this
    · have := (Slab.part h8 (i := tn) (by omega)).more (B' := B) (fun k _ ⟨o, ek⟩ => by injection ek with ek; injection ek with ek; subst ek; exact hB _ (by omega) (by omega))
      rwa [take_front (by rw [flat_len l2.2, e6])] at this
theorem LsIn.term {w : World} {B : Nat → Prop} : ∀ {lo hi : Nat} {css : List (List Value)} {ts : List Tm}, LsIn w lo hi css ts → (∀ k, lo ≤ k → k < hi → B k) → TermsIn w B true css ts
  | lo, hi, [], [], h, _ => by unfold TermsIn; trivial
  | lo, hi, cs :: css, t :: ts, h, hB => by
    unfold LsIn at h
    obtain ⟨m, h1, h2⟩ := h
    have q1 := LIn.le h1
    have q2 := LsIn.le h2
    unfold TermsIn
    exact ⟨LIn.term h1 (fun k hk1 hk2 => hB k hk1 (by omega)), LsIn.term h2 (fun k hk1 hk2 => hB k (by omega) hk2)⟩
  | _, _, [], _ :: _, h, _ => by unfold LsIn at h; exact h.elim
  | _, _, _ :: _, [], h, _ => by unfold LsIn at h; exact h.elim
end

theorem LsIn.up {w : World} {hi hi' : Nat} (hh : hi ≤ hi') : ∀ {lo : Nat} {css : List (List Value)} {ts : List Tm}, LsIn w lo hi css ts → LsIn w lo hi' css ts
  | lo, [], [], h => by unfold LsIn at h ⊢; omega
  | lo, cs :: css, t :: ts, h => by
    unfold LsIn at h ⊢
    obtain ⟨m, h1, h2⟩ := h
    exact ⟨m, h1, LsIn.up hh h2⟩
  | _, [], _ :: _, h => by unfold LsIn at h; exact h.elim
  | _, _ :: _, [], h => by unfold LsIn at h; exact h.elim
mutual
theorem LIn.down {w : World} {lo lo' : Nat} (hl : lo' ≤ lo) : ∀ {hi : Nat} {cs : List Value} {t : Tm}, LIn w lo hi cs t → LIn w lo' hi cs t
  | hi, cs, .mk k neg limbs text num items tail, h => by
    unfold LIn at h ⊢
    obtain ⟨la, ln, lc, g, im, ic, g', tn, tc, css, dss, m1, m2, e, hs, ⟨g0, e0, h1, h2⟩, h3⟩ := h
    exact ⟨la, ln, lc, g, im, ic, g', tn, tc, css, dss, m1, m2, e, hs, ⟨g0, e0, by omega, h2⟩, h3⟩
end
theorem LsIn.down {w : World} {lo lo' hi : Nat} (hl : lo' ≤ lo) : ∀ {css : List (List Value)} {ts : List Tm}, LsIn w lo hi css ts → LsIn w lo' hi css ts
  | [], [], h => by unfold LsIn at h ⊢; omega
  | cs :: css, t :: ts, h => by
    unfold LsIn at h ⊢
    obtain ⟨m, h1, h2⟩ := h
    exact ⟨m, LIn.down hl h1, h2⟩
  | [], _ :: _, h => by unfold LsIn at h; exact h.elim
  | _ :: _, [], h => by unfold LsIn at h; exact h.elim
theorem LsIn.snoc {w : World} {m hi : Nat} {cs : List Value} {t : Tm} (ht : LIn w m hi cs t) : ∀ {lo : Nat} {css : List (List Value)} {ts : List Tm}, LsIn w lo m css ts → LsIn w lo hi (css ++ [cs]) (ts ++ [t])
  | lo, [], [], h => by
    unfold LsIn at h
    show LsIn w lo hi [cs] [t]
    unfold LsIn
    exact ⟨hi, LIn.down h ht, by unfold LsIn; exact Nat.le_refl _⟩
  | lo, c :: css, u :: ts, h => by
    unfold LsIn at h
    obtain ⟨m', h1, h2⟩ := h
    show LsIn w lo hi (c :: (css ++ [cs])) (u :: (ts ++ [t]))
    unfold LsIn
    exact ⟨m', h1, LsIn.snoc ht h2⟩
  | _, [], _ :: _, h => by unfold LsIn at h; exact h.elim
  | _, _ :: _, [], h => by unfold LsIn at h; exact h.elim


def LentTs (w : World) (n : Nat) (ts : List Tm) (e : Ending) (w' : World) : Prop :=
  ∃ g css, e = .returned (.slice (some ⟨g, 0, none⟩) n (n + 12)) ∧ w.heap.size ≤ g ∧ css.length = n ∧ Slab w' 26 7 (some ⟨g, 0, none⟩) (n + 12) (n + 12) (css.flatten ++ marksC 12) ∧ LsIn w' (g + 1) w'.heap.size css ts ∧ Keeps NoB w w'
def LentSaid (M : Nat) : Prop := ∀ (ts : List Tm), Tm.size.sizes ts ≤ M → ∀ (css : List (List Value)) (A : Option Addr) (n c : Nat) (w : World) (B : Nat → Prop) (F : Bool), Roomy n 104 →
  Reads w B F 7 A n css.flatten → TermsIn w B F css ts → Calls Try.prog 53 #[.slice A n c] w (LentTs w n ts)
def LentPost (w : World) (t : Tm) (e : Ending) (w' : World) : Prop :=
  ∃ kd ng la ln lc tx nm ia im ic ta tn tc, e = .returned (.agg #[.int .u8 kd, .bool ng, .slice la ln lc, .string tx, .int .i64 nm, .slice ia im ic, .slice ta tn tc]) ∧ LIn w' w.heap.size w'.heap.size [.int .u8 kd, .bool ng, .slice la ln lc, .string tx, .int .i64 nm, .slice ia im ic, .slice ta tn tc] t ∧ Keeps NoB w w'

theorem term_open {w : World} {B : Nat → Prop} {F : Bool} {kd nm : Int} {ng : Bool} {la ia ta : Option Addr} {ln lc im ic tn tc : Nat} {tx : ByteArray} {t : Tm} (ht : TermIn w B F [.int .u8 kd, .bool ng, .slice la ln lc, .string tx, .int .i64 nm, .slice ia im ic, .slice ta tn tc] t) :
    ∃ limbs items tail css dss, t = .mk kd ng limbs tx nm items tail ∧ (Roomy ln 4 ∧ Roomy im 104 ∧ Roomy tn 104) ∧ Reads w B F 1 la ln (limbs.map (Value.int .u32)) ∧ limbs.length = ln ∧ Reads w B F 7 ia im (List.flatten css) ∧ items.length = im ∧ TermsIn w B F css items ∧ Reads w B F 7 ta tn (List.flatten dss) ∧ tail.length = tn ∧ TermsIn w B F dss tail := by
  cases t
  unfold TermIn at ht
  obtain ⟨_, _, _, _, _, _, _, _, _, css, dss, e, hb, h1, h2, h3, h4, h5⟩ := ht
  simp only [List.cons.injEq, Value.int.injEq, Value.bool.injEq, Value.slice.injEq, Value.string.injEq, true_and, and_true] at e
  obtain ⟨rfl, rfl, ⟨rfl, rfl, rfl⟩, rfl, rfl, ⟨rfl, rfl, rfl⟩, rfl, rfl, rfl⟩ := e
  have l1 := h1.1
  have l2 := h2.1; rw [flat_len h3.lens.2, h3.lens.1] at l2
  have l3 := h4.1; rw [flat_len h5.lens.2, h5.lens.1] at l3
  exact ⟨_, _, _, css, dss, rfl, hb, h1, by simpa using l1, h2, by omega, h3, h4, by omega, h5⟩

set_option maxRecDepth 100000 in
set_option maxHeartbeats 1000000 in
theorem lentTerm_of (M : Nat) (IH : Hid (LentSaid M)) (t : Tm) (hM : t.size ≤ M + 1) (w : World) (B : Nat → Prop) (F : Bool) (kd nm : Int) (ng : Bool) (la ia ta : Option Addr) (ln lc im ic tn tc : Nat) (tx : ByteArray) (ht : TermIn w B F [.int .u8 kd, .bool ng, .slice la ln lc, .string tx, .int .i64 nm, .slice ia im ic, .slice ta tn tc] t) :
    Calls Try.prog 28 #[.agg #[.int .u8 kd, .bool ng, .slice la ln lc, .string tx, .int .i64 nm, .slice ia im ic, .slice ta tn tc]] w (LentPost w t) := by
  obtain ⟨limbs, items, tail, css, dss, rfl, ⟨s1, s2, s3⟩, h1, l1, h2, l2, h3, h4, l3, h5⟩ := term_open ht
  have hsz : Tm.size.sizes items ≤ M ∧ Tm.size.sizes tail ≤ M := by simp only [Tm.size] at hM; omega
  have HL1 := hide h1; have HL2 := hide h2; have HL3 := hide h3; have HL4 := hide h4; have HL5 := hide h5; have HSZ := hide hsz
  have HLN := hide l1
  have HS1 := hide s1; have HS2 := hide s2; have HS3 := hide s3
  clear ht hM h1 h2 h3 h4 h5 hsz s1 s2 s3 l1 l2 l3
  have hk0 := ((Keeps.refl NoB w).alloc (.cells #[.int .u8 kd, .bool ng, .slice la ln lc, .string tx, .int .i64 nm, .slice ia im ic, .slice ta tn tc] 26)).alloc (.cells #[.int .u8 0, .bool false, .slice none 0 0, .string { data := #[] }, .int .i64 0, .slice none 0 0, .slice none 0 0] 26)
  have HK0 := hide hk0
  have HBX := hide ((Blk.new w 26 #[.int .u8 kd, .bool ng, .slice la ln lc, .string tx, .int .i64 nm, .slice ia im ic, .slice ta tn tc]).alloc (.cells #[.int .u8 0, .bool false, .slice none 0 0, .string { data := #[] }, .int .i64 0, .slice none 0 0, .slice none 0 0] 26))
  have HBR := hide (show Blk ((w.alloc (.cells #[.int .u8 kd, .bool ng, .slice la ln lc, .string tx, .int .i64 nm, .slice ia im ic, .slice ta tn tc] 26)).alloc (.cells #[.int .u8 0, .bool false, .slice none 0 0, .string { data := #[] }, .int .i64 0, .slice none 0 0, .slice none 0 0] 26)) (w.heap.size + 1) 26 #[.int .u8 0, .bool false, .slice none 0 0, .string { data := #[] }, .int .i64 0, .slice none 0 0, .slice none 0 0] from by have := Blk.new (w.alloc (.cells #[.int .u8 kd, .bool ng, .slice la ln lc, .string tx, .int .i64 nm, .slice ia im ic, .slice ta tn tc] 26)) 26 #[.int .u8 0, .bool false, .slice none 0 0, .string { data := #[] }, .int .i64 0, .slice none 0 0, .slice none 0 0]; simpa using this)
  have b2 : ((w.alloc (.cells #[.int .u8 kd, .bool ng, .slice la ln lc, .string tx, .int .i64 nm, .slice ia im ic, .slice ta tn tc] 26)).alloc (.cells #[.int .u8 0, .bool false, .slice none 0 0, .string { data := #[] }, .int .i64 0, .slice none 0 0, .slice none 0 0] 26)).cell? ⟨w.heap.size, 2, none⟩ = some (.slice la ln lc) := HBX.out.cell 2
  clear hk0
  go_enter Try.func28, Try.ntmps28
  go_wp2_with fail
  generalize (w.alloc (.cells #[.int .u8 kd, .bool ng, .slice la ln lc, .string tx, .int .i64 nm, .slice ia im ic, .slice ta tn tc] 26)).alloc (.cells #[.int .u8 0, .bool false, .slice none 0 0, .string { data := #[] }, .int .i64 0, .slice none 0 0, .slice none 0 0] 26) = W0 at *
  have hw0 : w.heap.size < W0.heap.size := HBX.out.lt
  have hw1 : w.heap.size + 1 < W0.heap.size := HBR.out.lt
  refine (lentLimbs_any la ln lc limbs W0 B F (HL1.out.keep HK0.out (fun _ _ => id)) HS1.out).mono ?_
  rintro e W1 ⟨rfl, hs, hk1, hlt⟩
  have HSL := hide hs; have HK1 := hide hk1
  have HBX1 := hide (HBX.out.keep hk1 id)
  have c2 : W1.cell? ⟨w.heap.size, 2, none⟩ = some (.slice la ln lc) := HBX1.out.cell 2
  have f2 : W1.frozen? ⟨w.heap.size, 2, none⟩ = false := HBX1.out.free 2
  have d5 : (W1.setCell ⟨w.heap.size, 2, none⟩ (.slice (some ⟨W0.heap.size, 0, none⟩) ln (ln + 12))).cell? ⟨w.heap.size, 5, none⟩ = some (.slice ia im ic) := (HBX1.out.put 2 (.slice (some ⟨W0.heap.size, 0, none⟩) ln (ln + 12))).cell 5
  clear b2 hs hk1
  go_wp2_with fail
  have HBX2 := hide (HBX1.out.put 2 (.slice (some ⟨W0.heap.size, 0, none⟩) ln (ln + 12)))
  have HK2 := hide ((Keeps.refl (fun k => k = w.heap.size) W1).setCell (p := ⟨w.heap.size, 2, none⟩) (.inl rfl) (.slice (some ⟨W0.heap.size, 0, none⟩) ln (ln + 12)))
  clear c2 f2 d5
  generalize W1.setCell ⟨w.heap.size, 2, none⟩ (.slice (some ⟨W0.heap.size, 0, none⟩) ln (ln + 12)) = W2 at *
  have HKN2 := hide ((HK0.out.trans' HK1.out (fun _ _ => id) (fun _ _ => id) : Keeps NoB w W1).trans' HK2.out (fun _ _ => id) (fun k hk e => by omega) : Keeps NoB w W2)
  have HSL2 := hide (HSL.out.keep HK2.out (fun k ⟨o, e⟩ hf => by injection e with e; injection e with e; omega))
  have HBR2 := hide ((HBR.out.keep HK1.out id).keep HK2.out (fun e => by omega))
  have hs12 := HK2.out.size
  refine (IH.out items HSZ.out.1 css ia im ic W2 B F HS2.out (HL2.out.keep HKN2.out (fun _ _ => id)) (TermsIn.keep HKN2.out (fun _ _ => id) _ _ HL3.out)).mono ?_
  rintro e W3 ⟨g, css', rfl, hg, hcl, hsl, hls, hk3⟩
  have HG := hide (And.intro hcl (And.intro hsl hls)); have HK3 := hide hk3
  have HBX3 := hide (HBX2.out.keep hk3 id)
  have c5 : W3.cell? ⟨w.heap.size, 5, none⟩ = some (.slice ia im ic) := HBX3.out.cell 5
  have f5 : W3.frozen? ⟨w.heap.size, 5, none⟩ = false := HBX3.out.free 5
  have d6 : (W3.setCell ⟨w.heap.size, 5, none⟩ (.slice (some ⟨g, 0, none⟩) im (im + 12))).cell? ⟨w.heap.size, 6, none⟩ = some (.slice ta tn tc) := (HBX3.out.put 5 (.slice (some ⟨g, 0, none⟩) im (im + 12))).cell 6
  clear hcl hsl hls hk3
  go_wp2_with fail
  have HBX4 := hide (HBX3.out.put 5 (.slice (some ⟨g, 0, none⟩) im (im + 12)))
  have HK4 := hide ((Keeps.refl (fun k => k = w.heap.size) W3).setCell (p := ⟨w.heap.size, 5, none⟩) (.inl rfl) (.slice (some ⟨g, 0, none⟩) im (im + 12)))
  clear c5 f5 d6
  generalize W3.setCell ⟨w.heap.size, 5, none⟩ (.slice (some ⟨g, 0, none⟩) im (im + 12)) = W4 at *
  have HKN4 := hide ((HKN2.out.trans' HK3.out (fun _ _ => id) (fun _ _ => id) : Keeps NoB w W3).trans' HK4.out (fun _ _ => id) (fun k hk e => by omega) : Keeps NoB w W4)
  have HK24 := hide (HK3.out.trans' HK4.out (fun _ _ h => h.elim) (fun _ _ h => h) : Keeps (fun k => k = w.heap.size) W2 W4)
  have hs34 := HK4.out.size
  have hs23 := HK3.out.size
  refine (IH.out tail HSZ.out.2 dss ta tn tc W4 B F HS3.out (HL4.out.keep HKN4.out (fun _ _ => id)) (TermsIn.keep HKN4.out (fun _ _ => id) _ _ HL5.out)).mono ?_
  rintro e W5 ⟨g', dss', rfl, hg', hcl, hsl, hls, hk5⟩
  have HG' := hide (And.intro hcl (And.intro hsl hls)); have HK5 := hide hk5
  have HBX5 := hide (HBX4.out.keep hk5 id)
  have c6 : W5.cell? ⟨w.heap.size, 6, none⟩ = some (.slice ta tn tc) := HBX5.out.cell 6
  have f6 : W5.frozen? ⟨w.heap.size, 6, none⟩ = false := HBX5.out.free 6
  have HBX6 := hide (HBX5.out.put 6 (.slice (some ⟨g', 0, none⟩) tn (tn + 12)))
  have HBR6 := hide (((HBR2.out.keep HK24.out (fun e => by omega)).keep hk5 id).keep ((Keeps.refl (fun k => k = w.heap.size) W5).setCell (p := ⟨w.heap.size, 6, none⟩) (.inl rfl) (.slice (some ⟨g', 0, none⟩) tn (tn + 12))) (fun e => by omega))
  have x0 : (W5.setCell ⟨w.heap.size, 6, none⟩ (.slice (some ⟨g', 0, none⟩) tn (tn + 12))).cell? ⟨w.heap.size, 0, none⟩ = some (.int .u8 kd) := HBX6.out.cell 0
  have x1 : (W5.setCell ⟨w.heap.size, 6, none⟩ (.slice (some ⟨g', 0, none⟩) tn (tn + 12))).cell? ⟨w.heap.size, 1, none⟩ = some (.bool ng) := HBX6.out.cell 1
  have x2 : (W5.setCell ⟨w.heap.size, 6, none⟩ (.slice (some ⟨g', 0, none⟩) tn (tn + 12))).cell? ⟨w.heap.size, 2, none⟩ = some (.slice (some ⟨W0.heap.size, 0, none⟩) ln (ln + 12)) := HBX6.out.cell 2
  have x3 : (W5.setCell ⟨w.heap.size, 6, none⟩ (.slice (some ⟨g', 0, none⟩) tn (tn + 12))).cell? ⟨w.heap.size, 3, none⟩ = some (.string tx) := HBX6.out.cell 3
  have x4 : (W5.setCell ⟨w.heap.size, 6, none⟩ (.slice (some ⟨g', 0, none⟩) tn (tn + 12))).cell? ⟨w.heap.size, 4, none⟩ = some (.int .i64 nm) := HBX6.out.cell 4
  have x5 : (W5.setCell ⟨w.heap.size, 6, none⟩ (.slice (some ⟨g', 0, none⟩) tn (tn + 12))).cell? ⟨w.heap.size, 5, none⟩ = some (.slice (some ⟨g, 0, none⟩) im (im + 12)) := HBX6.out.cell 5
  have x6 : (W5.setCell ⟨w.heap.size, 6, none⟩ (.slice (some ⟨g', 0, none⟩) tn (tn + 12))).cell? ⟨w.heap.size, 6, none⟩ = some (.slice (some ⟨g', 0, none⟩) tn (tn + 12)) := HBX6.out.cell 6
  have y0 : (W5.setCell ⟨w.heap.size, 6, none⟩ (.slice (some ⟨g', 0, none⟩) tn (tn + 12))).cell? ⟨w.heap.size + 1, 0, none⟩ = some (.int .u8 0) := HBR6.out.cell 0
  have y1 : (W5.setCell ⟨w.heap.size, 6, none⟩ (.slice (some ⟨g', 0, none⟩) tn (tn + 12))).cell? ⟨w.heap.size + 1, 1, none⟩ = some (.bool false) := HBR6.out.cell 1
  have y2 : (W5.setCell ⟨w.heap.size, 6, none⟩ (.slice (some ⟨g', 0, none⟩) tn (tn + 12))).cell? ⟨w.heap.size + 1, 2, none⟩ = some (.slice none 0 0) := HBR6.out.cell 2
  have y3 : (W5.setCell ⟨w.heap.size, 6, none⟩ (.slice (some ⟨g', 0, none⟩) tn (tn + 12))).cell? ⟨w.heap.size + 1, 3, none⟩ = some (.string { data := #[] }) := HBR6.out.cell 3
  have y4 : (W5.setCell ⟨w.heap.size, 6, none⟩ (.slice (some ⟨g', 0, none⟩) tn (tn + 12))).cell? ⟨w.heap.size + 1, 4, none⟩ = some (.int .i64 0) := HBR6.out.cell 4
  have y5 : (W5.setCell ⟨w.heap.size, 6, none⟩ (.slice (some ⟨g', 0, none⟩) tn (tn + 12))).cell? ⟨w.heap.size + 1, 5, none⟩ = some (.slice none 0 0) := HBR6.out.cell 5
  have y6 : (W5.setCell ⟨w.heap.size, 6, none⟩ (.slice (some ⟨g', 0, none⟩) tn (tn + 12))).cell? ⟨w.heap.size + 1, 6, none⟩ = some (.slice none 0 0) := HBR6.out.cell 6
  have z0 : (W5.setCell ⟨w.heap.size, 6, none⟩ (.slice (some ⟨g', 0, none⟩) tn (tn + 12))).frozen? ⟨w.heap.size + 1, 0, none⟩ = false := HBR6.out.free 0
  have z1 : (W5.setCell ⟨w.heap.size, 6, none⟩ (.slice (some ⟨g', 0, none⟩) tn (tn + 12))).frozen? ⟨w.heap.size + 1, 1, none⟩ = false := HBR6.out.free 1
  have z2 : (W5.setCell ⟨w.heap.size, 6, none⟩ (.slice (some ⟨g', 0, none⟩) tn (tn + 12))).frozen? ⟨w.heap.size + 1, 2, none⟩ = false := HBR6.out.free 2
  have z3 : (W5.setCell ⟨w.heap.size, 6, none⟩ (.slice (some ⟨g', 0, none⟩) tn (tn + 12))).frozen? ⟨w.heap.size + 1, 3, none⟩ = false := HBR6.out.free 3
  have z4 : (W5.setCell ⟨w.heap.size, 6, none⟩ (.slice (some ⟨g', 0, none⟩) tn (tn + 12))).frozen? ⟨w.heap.size + 1, 4, none⟩ = false := HBR6.out.free 4
  have z5 : (W5.setCell ⟨w.heap.size, 6, none⟩ (.slice (some ⟨g', 0, none⟩) tn (tn + 12))).frozen? ⟨w.heap.size + 1, 5, none⟩ = false := HBR6.out.free 5
  have z6 : (W5.setCell ⟨w.heap.size, 6, none⟩ (.slice (some ⟨g', 0, none⟩) tn (tn + 12))).frozen? ⟨w.heap.size + 1, 6, none⟩ = false := HBR6.out.free 6
  clear hcl hsl hls hk5
  go_wp2_with fail
  clear x0 x1 x2 x3 x4 x5 x6 y0 y1 y2 y3 y4 y5 y6 z0 z1 z2 z3 z4 z5 z6 c6 f6
  have HK6 := hide ((Keeps.refl (fun k => k = w.heap.size) W5).setCell (p := ⟨w.heap.size, 6, none⟩) (.inl rfl) (.slice (some ⟨g', 0, none⟩) tn (tn + 12)))
  generalize W5.setCell ⟨w.heap.size, 6, none⟩ (.slice (some ⟨g', 0, none⟩) tn (tn + 12)) = W6 at *
  have HBR7 := hide (HBR6.out.tput7 (.int .u8 kd) (.bool ng) (.slice (some ⟨W0.heap.size, 0, none⟩) ln (ln + 12)) (.string tx) (.int .i64 nm) (.slice (some ⟨g, 0, none⟩) im (im + 12)) (.slice (some ⟨g', 0, none⟩) tn (tn + 12)))
  have HK7 := hide ((((((((Keeps.refl (fun k => k = w.heap.size + 1) W6).setCell (p := ⟨w.heap.size + 1, 0, none⟩) (.inl rfl) (.int .u8 kd)).setCell (p := ⟨w.heap.size + 1, 1, none⟩) (.inl rfl) (.bool ng)).setCell (p := ⟨w.heap.size + 1, 2, none⟩) (.inl rfl) (.slice (some ⟨W0.heap.size, 0, none⟩) ln (ln + 12))).setCell (p := ⟨w.heap.size + 1, 3, none⟩) (.inl rfl) (.string tx)).setCell (p := ⟨w.heap.size + 1, 4, none⟩) (.inl rfl) (.int .i64 nm)).setCell (p := ⟨w.heap.size + 1, 5, none⟩) (.inl rfl) (.slice (some ⟨g, 0, none⟩) im (im + 12))).setCell (p := ⟨w.heap.size + 1, 6, none⟩) (.inl rfl) (.slice (some ⟨g', 0, none⟩) tn (tn + 12)))
  generalize (((((((W6.setCell ⟨w.heap.size + 1, 0, none⟩ (.int .u8 kd)).setCell ⟨w.heap.size + 1, 1, none⟩ (.bool ng)).setCell ⟨w.heap.size + 1, 2, none⟩ (.slice (some ⟨W0.heap.size, 0, none⟩) ln (ln + 12))).setCell ⟨w.heap.size + 1, 3, none⟩ (.string tx)).setCell ⟨w.heap.size + 1, 4, none⟩ (.int .i64 nm)).setCell ⟨w.heap.size + 1, 5, none⟩ (.slice (some ⟨g, 0, none⟩) im (im + 12))).setCell ⟨w.heap.size + 1, 6, none⟩ (.slice (some ⟨g', 0, none⟩) tn (tn + 12))) = W7 at *
  have d0 : W7.cell? ⟨w.heap.size + 1, 0, none⟩ = some (.int .u8 kd) := HBR7.out.cell 0
  have d1 : W7.cell? ⟨w.heap.size + 1, 1, none⟩ = some (.bool ng) := HBR7.out.cell 1
  have d2 : W7.cell? ⟨w.heap.size + 1, 2, none⟩ = some (.slice (some ⟨W0.heap.size, 0, none⟩) ln (ln + 12)) := HBR7.out.cell 2
  have d3 : W7.cell? ⟨w.heap.size + 1, 3, none⟩ = some (.string tx) := HBR7.out.cell 3
  have d4 : W7.cell? ⟨w.heap.size + 1, 4, none⟩ = some (.int .i64 nm) := HBR7.out.cell 4
  have d5 : W7.cell? ⟨w.heap.size + 1, 5, none⟩ = some (.slice (some ⟨g, 0, none⟩) im (im + 12)) := HBR7.out.cell 5
  have d6 : W7.cell? ⟨w.heap.size + 1, 6, none⟩ = some (.slice (some ⟨g', 0, none⟩) tn (tn + 12)) := HBR7.out.cell 6
  refine bodyPost_ret (v := .agg #[.int .u8 kd, .bool ng, .slice (some ⟨W0.heap.size, 0, none⟩) ln (ln + 12), .string tx, .int .i64 nm, .slice (some ⟨g, 0, none⟩) im (im + 12), .slice (some ⟨g', 0, none⟩) tn (tn + 12)]) (by simp [results, Try.results28, go_sem, d0, d1, d2, d3, d4, d5, d6]) rfl ?_
  have k57 : Keeps (fun k => k = w.heap.size ∨ k = w.heap.size + 1) W5 W7 := HK6.out.trans' HK7.out (fun _ _ h => .inl h) (fun _ _ h => .inr h)
  have k47 : Keeps (fun k => k = w.heap.size ∨ k = w.heap.size + 1) W4 W7 := HK5.out.trans' k57 (fun _ _ h => h.elim) (fun _ _ h => h)
  have k37 : Keeps (fun k => k = w.heap.size ∨ k = w.heap.size + 1) W3 W7 := HK4.out.trans' k47 (fun _ _ h => .inl h) (fun _ _ h => h)
  have k27 : Keeps (fun k => k = w.heap.size ∨ k = w.heap.size + 1) W2 W7 := HK3.out.trans' k37 (fun _ _ h => h.elim) (fun _ _ h => h)
  have k07 : Keeps NoB w W7 := HKN2.out.trans' k27 (fun _ _ => id) (fun k hk h => by omega)
  have hs45 := HK5.out.size
  have hs57 := k57.size
  have q := fun (a : Nat) (ha : W0.heap.size ≤ a) (k : Nat) (hk : rowB (some ⟨a, 0, none⟩) k) (hf : k = w.heap.size ∨ k = w.heap.size + 1) => (by
    obtain ⟨o, e⟩ := hk; injection e with e; injection e with e; omega : False)
  obtain ⟨a1, a2, a3⟩ := HG.out
  obtain ⟨a4, a5, a6⟩ := HG'.out
  have q1 := LsIn.le a3
  have q2 := LsIn.le a6
  refine ⟨kd, ng, _, ln, _, tx, nm, _, im, _, _, tn, _, rfl, ?_, k07⟩
  unfold LIn
  refine ⟨_, ln, _, g, im, _, g', tn, _, css', dss', W2.heap.size, W3.heap.size, rfl, ⟨HS1.out, HS2.out, HS3.out⟩, ⟨W0.heap.size, rfl, by omega, by omega, rfl, HLN.out, HSL2.out.keep k27 (fun k hk hf => q _ (Nat.le_refl _) k hk hf)⟩, ⟨hg, rfl, a1, a2.keep k37 (fun k hk hf => q _ (by omega) k hk hf), LsIn.keep k37 a3 (fun k h1 h2 hf => by omega)⟩, ⟨by omega, rfl, a4, a5.keep k57 (fun k hk hf => q _ (by omega) k hk hf), LsIn.up (by omega) (LsIn.keep k57 a6 (fun k h1 h2 hf => by omega))⟩⟩

theorem lent_step {w wr w2 w4 w5 : World} {k : Nat} {css : List (List Value)} {cs : List Value} {ts : List Tm} {t : Tm} (h1 : LsIn wr (w.heap.size + 1) wr.heap.size css (ts.take k)) (hc : css.length = k) (ht : ts[k]? = some t) (h2 : LIn w2 wr.heap.size w2.heap.size cs t) (hk2 : Keeps NoB wr w2) (hk4 : Keeps NoB w2 w4) (hk5 : Keeps (rowB (some ⟨w.heap.size, 0, none⟩)) w4 w5) (hlt : w.heap.size < wr.heap.size) :
    (css ++ [cs]).length = k + 1 ∧ LsIn w5 (w.heap.size + 1) w5.heap.size (css ++ [cs]) (ts.take (k + 1)) := by
  have s2 := hk2.size
  have s4 := hk4.size
  have s5 := hk5.size
  have hr : ∀ j, w.heap.size < j → ¬ rowB (some ⟨w.heap.size, 0, none⟩) j := fun j hj ⟨o, e⟩ => by injection e with e; injection e with e; omega
  refine ⟨by simp [hc], ?_⟩
  rw [List.take_add_one, ht]
  have a1 : LsIn w5 (w.heap.size + 1) wr.heap.size css (ts.take k) := LsIn.keep hk5 (LsIn.keep hk4 (LsIn.keep hk2 h1 (fun _ _ _ => id)) (fun _ _ _ => id)) (fun j h1 _ => hr j (by omega))
  have a2 : LIn w5 wr.heap.size w2.heap.size cs t := LIn.keep hk5 (LIn.keep hk4 h2 (fun _ _ _ => id)) (fun j h1 _ => hr j (by omega))
  exact LsIn.up (by omega) (LsIn.snoc a2 a1)

set_option maxRecDepth 100000 in
set_option maxHeartbeats 2000000 in
theorem lent_terms (M : Nat) : LentSaid M := by
  induction M using Nat.strongRecOn with
  | ind M IH =>
  intro ts hM css A n c w B F hnr hr ht
  have hn : n ≤ 1353245080339 := by unfold Roomy at hnr; omega
  clear hnr
  obtain ⟨i0, hi0, hz0, hz1, hz2⟩ := info_parts Try.infoTm
  have hln : ts.length = n := by have h1 := hr.1; rw [flat_len ht.lens.2, ht.lens.1] at h1; omega
  have HR := hide hr; have HT := hide ht; have HLN := hide hln; have HM := hide hM; have HIH := hide IH
  have HB := hide (show i0.bytes * (n + 12) ≤ 281474976710656 by rw [hz2]; omega)
  have hwr : IntKind.i64.wrap ((n : Int) + 12) = (n : Int) + 12 := IntWalk.i64_in _ (by omega)
  clear hr ht hln hM IH
  go_enter Try.func53, Try.ntmps53
  go_wp2_with (refine wpList_make_own _ rfl _ _ 24 rfl 0 26 i0 _ 7 Try.underlying24 hi0 hz0 hz1 .i64 .i64 ((n : Int) + 12) (n + 12) rfl rfl (by omega) HB.out (by unfold maxLen; omega) (Nat.zero_le _) ?_)
  intro w1 how hg
  have hk1 : Keeps NoB w w1 := (Keeps.refl NoB w).grown hg (fun k h _ => by cases h)
  obtain ⟨_, _, hv, hsl⟩ := Slab.of_own how
  injection hv with hv1 hv2 hv3
  subst hv1 hv3
  have hlt1 : w.heap.size < w1.heap.size := hsl.lt ⟨0, rfl⟩
  have HS1 := hide hsl; have HK1 := hide hk1
  clear how hg hk1 hsl hwr
  go_wp2_with fail
  go_loopg [3, 4] n (fun g s3 s4 wr => ∃ (k : Nat) (css' : List (List Value)), k ≤ n ∧ g = n - k ∧ s3 = .slice (some ⟨w.heap.size, 0, none⟩) k (n + 12) ∧ s4 = .int .i64 k ∧ Hid (Slab wr 26 7 (some ⟨w.heap.size, 0, none⟩) k (n + 12) css'.flatten) ∧ Hid (css'.length = k ∧ LsIn wr (w.heap.size + 1) wr.heap.size css' (ts.take k)) ∧ Keeps NoB w wr ∧ w.heap.size < wr.heap.size)
  case atStart => exact ⟨0, [], Nat.zero_le _, rfl, rfl, rfl, hide HS1.out, hide ⟨rfl, by simp only [List.take_zero]; unfold LsIn; omega⟩, HK1.out, hlt1⟩
  case round =>
    obtain ⟨k, css', hk, rfl, rfl, rfl, HS, HL, hkw, hlt⟩ := hrel
    have HKW := hide hkw; clear hkw
    have hk0 : (0 : Int) ≤ k := by omega
    by_cases hkn : k < n
    · have hkz : (k : Int) < n := by omega
      obtain ⟨b, o, kd, ng, la, ln, lc, tx, nm, ia, im, ic, ta, tn, tc, t, hA, ht1, ht2, ht3, f0, f1, f2, f3, f4, f5, f6⟩ := cells_at (HR.out.keep HKW.out (fun _ _ => id)) (TermsIn.keep HKW.out (fun _ _ => id) _ _ HT.out) k hkn
      subst hA
      have HAT := hide ht1; have HT2 := hide ht2; have HTS := hide ht3
      clear ht1 ht2 ht3
      go_wp2_with
        first
        | (go_at_call 28
           refine (lentTerm_of (t.size - 1) (hide (HIH.out (t.size - 1) (by have := HTS.out; have := HM.out; have := Tm.size_pos t; omega))) t (by omega) wr B F kd nm ng la ia ta ln lc im ic tn tc tx HT2.out).mono ?_
           rintro e w2 ⟨kd', ng', la', ln', lc', tx', nm', ia', im', ic', ta', tn', tc', rfl, hl, hk2⟩
           have HLI := hide hl; have HK2 := hide hk2
           have HX := hide (Blk.new w2 26 #[.int .u8 kd', .bool ng', .slice la' ln' lc', .string tx', .int .i64 nm', .slice ia' im' ic', .slice ta' tn' tc'])
           have HSA := hide ((HS.out.fresh hk2).fresh (((Keeps.refl NoB w2).alloc (.cells #[.int .u8 kd', .bool ng', .slice la' ln' lc', .string tx', .int .i64 nm', .slice ia' im' ic', .slice ta' tn' tc'] 26)).alloc (.cells #[.int .u8 kd', .bool ng', .slice la' ln' lc', .string tx', .int .i64 nm', .slice ia' im' ic', .slice ta' tn' tc'] 26)))
           have HRD := hide (one_reads7 (Blk.new (w2.alloc (.cells #[.int .u8 kd', .bool ng', .slice la' ln' lc', .string tx', .int .i64 nm', .slice ia' im' ic', .slice ta' tn' tc'] 26)) 26 #[.int .u8 kd', .bool ng', .slice la' ln' lc', .string tx', .int .i64 nm', .slice ia' im' ic', .slice ta' tn' tc']))
           have HRD := hide (show Reads ((w2.alloc (.cells #[.int .u8 kd', .bool ng', .slice la' ln' lc', .string tx', .int .i64 nm', .slice ia' im' ic', .slice ta' tn' tc'] 26)).alloc (.cells #[.int .u8 kd', .bool ng', .slice la' ln' lc', .string tx', .int .i64 nm', .slice ia' im' ic', .slice ta' tn' tc'] 26)) (fun _ => True) true 7 (some ⟨w2.heap.size + 1, 0, none⟩) 1 [.int .u8 kd', .bool ng', .slice la' ln' lc', .string tx', .int .i64 nm', .slice ia' im' ic', .slice ta' tn' tc'] from by have := HRD.out; simpa using this)
           have x0 : (w2.alloc (.cells #[.int .u8 kd', .bool ng', .slice la' ln' lc', .string tx', .int .i64 nm', .slice ia' im' ic', .slice ta' tn' tc'] 26)).cell? ⟨w2.heap.size, 0, none⟩ = some (.int .u8 kd') := HX.out.cell 0
           have x1 : (w2.alloc (.cells #[.int .u8 kd', .bool ng', .slice la' ln' lc', .string tx', .int .i64 nm', .slice ia' im' ic', .slice ta' tn' tc'] 26)).cell? ⟨w2.heap.size, 1, none⟩ = some (.bool ng') := HX.out.cell 1
           have x2 : (w2.alloc (.cells #[.int .u8 kd', .bool ng', .slice la' ln' lc', .string tx', .int .i64 nm', .slice ia' im' ic', .slice ta' tn' tc'] 26)).cell? ⟨w2.heap.size, 2, none⟩ = some (.slice la' ln' lc') := HX.out.cell 2
           have x3 : (w2.alloc (.cells #[.int .u8 kd', .bool ng', .slice la' ln' lc', .string tx', .int .i64 nm', .slice ia' im' ic', .slice ta' tn' tc'] 26)).cell? ⟨w2.heap.size, 3, none⟩ = some (.string tx') := HX.out.cell 3
           have x4 : (w2.alloc (.cells #[.int .u8 kd', .bool ng', .slice la' ln' lc', .string tx', .int .i64 nm', .slice ia' im' ic', .slice ta' tn' tc'] 26)).cell? ⟨w2.heap.size, 4, none⟩ = some (.int .i64 nm') := HX.out.cell 4
           have x5 : (w2.alloc (.cells #[.int .u8 kd', .bool ng', .slice la' ln' lc', .string tx', .int .i64 nm', .slice ia' im' ic', .slice ta' tn' tc'] 26)).cell? ⟨w2.heap.size, 5, none⟩ = some (.slice ia' im' ic') := HX.out.cell 5
           have x6 : (w2.alloc (.cells #[.int .u8 kd', .bool ng', .slice la' ln' lc', .string tx', .int .i64 nm', .slice ia' im' ic', .slice ta' tn' tc'] 26)).cell? ⟨w2.heap.size, 6, none⟩ = some (.slice ta' tn' tc') := HX.out.cell 6
           clear hl hk2 f0 f1 f2 f3 f4 f5 f6)
        | (at_builtin
           refine wpList_append_room _ rfl (.tmp 22) (.tmp 24) 24 rfl 26 i0 7 Try.underlying24 hi0 hz1 (some ⟨w.heap.size, 0, none⟩) k (n + 12) css'.flatten rfl HSA.out (fun _ => True) true (some ⟨w2.heap.size + 1, 0, none⟩) 1 1 [.int .u8 kd', .bool ng', .slice la' ln' lc', .string tx', .int .i64 nm', .slice ia' im' ic', .slice ta' tn' tc'] rfl HRD.out (by intro u hu; simp only [List.mem_cons, List.not_mem_nil, or_false] at hu; rcases hu with rfl | rfl | rfl | rfl | rfl | rfl | rfl <;> rfl) (by omega) ?_
           intro w5 hs5 hk5
           have HS5 := hide hs5; have HK5 := hide hk5
           clear hs5 hk5)
        | fail
      have hka : Keeps NoB w2 ((w2.alloc (.cells #[.int .u8 kd', .bool ng', .slice la' ln' lc', .string tx', .int .i64 nm', .slice ia' im' ic', .slice ta' tn' tc'] 26)).alloc (.cells #[.int .u8 kd', .bool ng', .slice la' ln' lc', .string tx', .int .i64 nm', .slice ia' im' ic', .slice ta' tn' tc'] 26)) := ((Keeps.refl NoB w2).alloc _).alloc _
      have hstep := lent_step HL.out.2 HL.out.1 HAT.out HLI.out HK2.out hka HK5.out hlt
      have hk5 : Keeps NoB w w5 := ((HKW.out.trans' HK2.out (fun _ _ => id) (fun _ _ => id) : Keeps NoB w w2).trans' hka (fun _ _ => id) (fun _ _ => id) : Keeps NoB w _).trans' HK5.out (fun _ _ => id) (fun j hj ⟨o, e⟩ => by injection e with e; injection e with e; omega)
      have hs2 := HK2.out.size
      have hs5 := HK5.out.size
      have hsa := hka.size
      go_roundg (n - (k + 1))
      case measure => omega
      case rel => exact ⟨k + 1, css' ++ [[.int .u8 kd', .bool ng', .slice la' ln' lc', .string tx', .int .i64 nm', .slice ia' im' ic', .slice ta' tn' tc']], by omega, rfl, rfl, by go_num, hide (by rw [List.flatten_append]; simpa using HS5.out), hide hstep, hk5, by omega⟩
    · obtain rfl : n = k := by omega
      have hkz : ¬ (n : Int) < n := by omega
      have HL := hide (show css'.length = n ∧ LsIn wr (w.heap.size + 1) wr.heap.size css' ts from ⟨HL.out.1, by have := HL.out.2; rwa [List.take_of_length_le (by have := HLN.out; omega)] at this⟩)
      clear HR HT HIH HM HLN
      go_wp2_with fail
      go_loopg [3, 6] 12 (fun g s3 s6 wx => ∃ k : Nat, k ≤ 12 ∧ g = 12 - k ∧ s3 = .slice (some ⟨w.heap.size, 0, none⟩) (n + k) (n + 12) ∧ s6 = .int .i64 k ∧ Hid (Slab wx 26 7 (some ⟨w.heap.size, 0, none⟩) (n + k) (n + 12) (css'.flatten ++ marksC k)) ∧ Hid (LsIn wx (w.heap.size + 1) wx.heap.size css' ts) ∧ Keeps NoB w wx ∧ w.heap.size < wx.heap.size)
      case atStart => exact ⟨0, Nat.zero_le _, rfl, rfl, rfl, hide (by simpa [marksC] using HS.out), hide HL.out.2, HKW.out, hlt⟩
      case round =>
        obtain ⟨k, hk, rfl, rfl, rfl, HS, HLS, hkw, hlt⟩ := hrel
        have HKW := hide hkw; clear hkw
        have hk0 : (0 : Int) ≤ k := by omega
        by_cases hkn : k < 12
        · have hkz : (k : Int) < 12 := by omega
          go_wp2_with
            first
            | (go_at_call 71
               refine (markTerm_any 1 k (by omega) (by omega) (by omega) (by omega) _).mono ?_
               rintro e w2 ⟨rfl, hk2⟩
               have HK2 := hide hk2
               have HSA := hide ((HS.out.fresh hk2).fresh ((Keeps.refl NoB w2).alloc (.cells #[.int .u8 0, .bool false, .slice none 0 0, .string { data := #[] }, .int .i64 (markV 1 k), .slice none 0 0, .slice none 0 0] 26)))
               have HRD := hide (one_reads7 (Blk.new w2 26 #[.int .u8 0, .bool false, .slice none 0 0, .string { data := #[] }, .int .i64 (markV 1 k), .slice none 0 0, .slice none 0 0]))
               clear hk2)
            | (at_builtin
               refine wpList_append_room _ rfl (.tmp 30) (.tmp 33) 24 rfl 26 i0 7 Try.underlying24 hi0 hz1 (some ⟨w.heap.size, 0, none⟩) (n + k) (n + 12) (css'.flatten ++ marksC k) rfl HSA.out (fun _ => True) true (some ⟨w2.heap.size, 0, none⟩) 1 1 (markC 1 k) rfl HRD.out (by intro u hu; simp only [markC, List.mem_cons, List.not_mem_nil, or_false] at hu; rcases hu with rfl | rfl | rfl | rfl | rfl | rfl | rfl <;> rfl) (by omega) ?_
               intro w5 hs5 hk5
               have HS5 := hide hs5; have HK5 := hide hk5
               clear hs5 hk5)
            | fail
          have hka : Keeps NoB w2 (w2.alloc (.cells #[.int .u8 0, .bool false, .slice none 0 0, .string { data := #[] }, .int .i64 (markV 1 k), .slice none 0 0, .slice none 0 0] 26)) := (Keeps.refl NoB w2).alloc _
          have hk5 : Keeps NoB w w5 := ((HKW.out.trans' HK2.out (fun _ _ => id) (fun _ _ => id) : Keeps NoB w w2).trans' hka (fun _ _ => id) (fun _ _ => id) : Keeps NoB w _).trans' HK5.out (fun _ _ => id) (fun j hj ⟨o, e⟩ => by injection e with e; injection e with e; omega)
          have hs2 := HK2.out.size
          have hs5 := HK5.out.size
          have hsa := hka.size
          have hls : LsIn w5 (w.heap.size + 1) w5.heap.size css' ts := LsIn.up (by omega) (LsIn.keep HK5.out (LsIn.keep hka (LsIn.keep HK2.out HLS.out (fun _ _ _ => id)) (fun _ _ _ => id)) (fun j h1 _ ⟨o, e⟩ => by injection e with e; injection e with e; omega))
          go_roundg (12 - (k + 1))
          case measure => omega
          case rel => exact ⟨k + 1, by omega, rfl, rfl, by go_num, hide (by rw [marksC_succ, ← List.append_assoc]; exact HS5.out), hide hls, hk5, by omega⟩
        · obtain rfl : k = 12 := by omega
          have hkz : ¬ ((12 : Nat) : Int) < 12 := by omega
          have hn12 : n ≤ n + 12 := by omega
          go_wp2_with fail
          go_ret
          exact ⟨w.heap.size, css', rfl, Nat.le_refl _, HL.out.1, HS.out, HLS.out, HKW.out⟩
theorem lentTerm_any (t : Tm) (w : World) (B : Nat → Prop) (F : Bool) (kd nm : Int) (ng : Bool) (la ia ta : Option Addr) (ln lc im ic tn tc : Nat) (tx : ByteArray) (ht : TermIn w B F [.int .u8 kd, .bool ng, .slice la ln lc, .string tx, .int .i64 nm, .slice ia im ic, .slice ta tn tc] t) :
    Calls Try.prog 28 #[.agg #[.int .u8 kd, .bool ng, .slice la ln lc, .string tx, .int .i64 nm, .slice ia im ic, .slice ta tn tc]] w (LentPost w t) := lentTerm_of t.size (hide (lent_terms t.size)) t (by omega) w B F kd nm ng la ia ta ln lc im ic tn tc tx ht
end Go.Proofs.Ytfehciiidmgopaa
