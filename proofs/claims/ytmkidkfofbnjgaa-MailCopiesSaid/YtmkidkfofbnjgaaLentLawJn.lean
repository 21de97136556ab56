/- pigeonholekit: marks; LentLimbs: a copy with marks behind its end. A lent term: in blocks of its own, each list with marks behind its end. Plain lemmas. -/
import Derived.Test.YtmkidkfofbnjgaaGreatJn
import Derived.Test.YtmkidkfofbnjgaaInvJn
import Derived.OwnWalk
namespace Go.Proofs.Ytmkidkfofbnjgaa
open Go.RowKit

def markV (k i : Int) : Int := 1000003 * (k + 7) + i
theorem mark_any (k i : Int) (hk : 0 ≤ k) (hk2 : k ≤ 1000000) (hi : 0 ≤ i) (hi2 : i ≤ 1000000) (w : World) : Calls Try.prog 72 #[.int .i64 k, .int .i64 i] w fun e w' => e = .returned (.int .i64 (markV k i)) ∧ w = w' := by
  unfold markV
  go_enter Try.func72, Try.ntmps72
  go_wp2_with fail
  go_ret
  exact ⟨by go_num, rfl⟩

def markC (k i : Int) : List Value := [.int .u8 0, .bool false, .slice none 0 0, .string { data := #[] }, .int .i64 (markV k i), .slice none 0 0, .slice none 0 0]
abbrev markT (k i : Int) : Tm := flatT 0 ⟨#[]⟩ (markV k i)
theorem mark_in (w : World) (B : Nat → Prop) (F : Bool) (k i : Int) : TermIn w B F (markC k i) (markT k i) := flat_in w B F 0 ⟨#[]⟩ (markV k i)
set_option maxRecDepth 100000 in
theorem markTerm_any (k i : Int) (hk : 0 ≤ k) (hk2 : k ≤ 1000000) (hi : 0 ≤ i) (hi2 : i ≤ 1000000) (w : World) : Calls Try.prog 73 #[.int .i64 k, .int .i64 i] w fun e w' => e = .returned (.agg #[.int .u8 0, .bool false, .slice none 0 0, .string { data := #[] }, .int .i64 (markV k i), .slice none 0 0, .slice none 0 0]) ∧ Keeps NoB w w' := by
  have HB := hide (Blk.new w 33 #[.int .u8 0, .bool false, .slice none 0 0, .string { data := #[] }, .int .i64 0, .slice none 0 0, .slice none 0 0])
  have HK := hide ((Keeps.refl NoB w).alloc (.cells #[.int .u8 0, .bool false, .slice none 0 0, .string { data := #[] }, .int .i64 0, .slice none 0 0, .slice none 0 0] 33))
  have z0 : (w.alloc (.cells #[.int .u8 0, .bool false, .slice none 0 0, .string { data := #[] }, .int .i64 0, .slice none 0 0, .slice none 0 0] 33)).cell? ⟨w.heap.size, 0, none⟩ = some (.int .u8 0) := HB.out.cell 0
  have z1 : (w.alloc (.cells #[.int .u8 0, .bool false, .slice none 0 0, .string { data := #[] }, .int .i64 0, .slice none 0 0, .slice none 0 0] 33)).cell? ⟨w.heap.size, 1, none⟩ = some (.bool false) := HB.out.cell 1
  have z2 : (w.alloc (.cells #[.int .u8 0, .bool false, .slice none 0 0, .string { data := #[] }, .int .i64 0, .slice none 0 0, .slice none 0 0] 33)).cell? ⟨w.heap.size, 2, none⟩ = some (.slice none 0 0) := HB.out.cell 2
  have z3 : (w.alloc (.cells #[.int .u8 0, .bool false, .slice none 0 0, .string { data := #[] }, .int .i64 0, .slice none 0 0, .slice none 0 0] 33)).cell? ⟨w.heap.size, 3, none⟩ = some (.string { data := #[] }) := HB.out.cell 3
  have z4 : (w.alloc (.cells #[.int .u8 0, .bool false, .slice none 0 0, .string { data := #[] }, .int .i64 0, .slice none 0 0, .slice none 0 0] 33)).cell? ⟨w.heap.size, 4, none⟩ = some (.int .i64 0) := HB.out.cell 4
  have z5 : (w.alloc (.cells #[.int .u8 0, .bool false, .slice none 0 0, .string { data := #[] }, .int .i64 0, .slice none 0 0, .slice none 0 0] 33)).cell? ⟨w.heap.size, 5, none⟩ = some (.slice none 0 0) := HB.out.cell 5
  have z6 : (w.alloc (.cells #[.int .u8 0, .bool false, .slice none 0 0, .string { data := #[] }, .int .i64 0, .slice none 0 0, .slice none 0 0] 33)).cell? ⟨w.heap.size, 6, none⟩ = some (.slice none 0 0) := HB.out.cell 6
  have f0 : (w.alloc (.cells #[.int .u8 0, .bool false, .slice none 0 0, .string { data := #[] }, .int .i64 0, .slice none 0 0, .slice none 0 0] 33)).frozen? ⟨w.heap.size, 0, none⟩ = false := HB.out.free 0
  have f1 : (w.alloc (.cells #[.int .u8 0, .bool false, .slice none 0 0, .string { data := #[] }, .int .i64 0, .slice none 0 0, .slice none 0 0] 33)).frozen? ⟨w.heap.size, 1, none⟩ = false := HB.out.free 1
  have f2 : (w.alloc (.cells #[.int .u8 0, .bool false, .slice none 0 0, .string { data := #[] }, .int .i64 0, .slice none 0 0, .slice none 0 0] 33)).frozen? ⟨w.heap.size, 2, none⟩ = false := HB.out.free 2
  have f3 : (w.alloc (.cells #[.int .u8 0, .bool false, .slice none 0 0, .string { data := #[] }, .int .i64 0, .slice none 0 0, .slice none 0 0] 33)).frozen? ⟨w.heap.size, 3, none⟩ = false := HB.out.free 3
  have f4 : (w.alloc (.cells #[.int .u8 0, .bool false, .slice none 0 0, .string { data := #[] }, .int .i64 0, .slice none 0 0, .slice none 0 0] 33)).frozen? ⟨w.heap.size, 4, none⟩ = false := HB.out.free 4
  have f5 : (w.alloc (.cells #[.int .u8 0, .bool false, .slice none 0 0, .string { data := #[] }, .int .i64 0, .slice none 0 0, .slice none 0 0] 33)).frozen? ⟨w.heap.size, 5, none⟩ = false := HB.out.free 5
  have f6 : (w.alloc (.cells #[.int .u8 0, .bool false, .slice none 0 0, .string { data := #[] }, .int .i64 0, .slice none 0 0, .slice none 0 0] 33)).frozen? ⟨w.heap.size, 6, none⟩ = false := HB.out.free 6
  go_enter Try.func73, Try.ntmps73
  go_wp2_with (go_at_call 72; refine (mark_any k i hk hk2 hi hi2 _).mono ?_; rintro e w' ⟨rfl, rfl⟩)
  generalize markV k i = nm at *
  have HP := hide (Blk.new w 33 #[.int .u8 0, .bool false, .slice none 0 0, .string { data := #[] }, .int .i64 nm, .slice none 0 0, .slice none 0 0])
  have HKP := hide ((Keeps.refl NoB w).alloc (.cells #[.int .u8 0, .bool false, .slice none 0 0, .string { data := #[] }, .int .i64 nm, .slice none 0 0, .slice none 0 0] 33))
  clear z0 z1 z2 z3 z4 z5 z6 f0 f1 f2 f3 f4 f5 f6
  generalize w.alloc (.cells #[.int .u8 0, .bool false, .slice none 0 0, .string { data := #[] }, .int .i64 nm, .slice none 0 0, .slice none 0 0] 33) = w7 at *
  have d0 : w7.cell? ⟨w.heap.size, 0, none⟩ = some (.int .u8 0) := HP.out.cell 0
  have d1 : w7.cell? ⟨w.heap.size, 1, none⟩ = some (.bool false) := HP.out.cell 1
  have d2 : w7.cell? ⟨w.heap.size, 2, none⟩ = some (.slice none 0 0) := HP.out.cell 2
  have d3 : w7.cell? ⟨w.heap.size, 3, none⟩ = some (.string { data := #[] }) := HP.out.cell 3
  have d4 : w7.cell? ⟨w.heap.size, 4, none⟩ = some (.int .i64 nm) := HP.out.cell 4
  have d5 : w7.cell? ⟨w.heap.size, 5, none⟩ = some (.slice none 0 0) := HP.out.cell 5
  have d6 : w7.cell? ⟨w.heap.size, 6, none⟩ = some (.slice none 0 0) := HP.out.cell 6
  refine bodyPost_ret (v := .agg #[.int .u8 0, .bool false, .slice none 0 0, .string { data := #[] }, .int .i64 nm, .slice none 0 0, .slice none 0 0]) (by simp [results, Try.results73, go_sem, d0, d1, d2, d3, d4, d5, d6]) rfl ?_
  exact ⟨rfl, HKP.out⟩

section
variable {P : Program} (w : World)
theorem wpList_append_room {ops : Array Oper} {rest : List Oper} {o : Oper} {a : Act} {Q : Exit → Act → World → Prop} (hgd : o.guard = none) (s x : Operand) (t : TypeId)
    (ho : o.op = .call { callee := .builtin .append, args := #[s, x], argTypes := #[t, t] })
    (e : TypeId) (i : TypeInfo) (size : Nat) (ht : P.underlying t = some (.slice e)) (hi : P.info? e = some i) (hsize : i.size = size)
    (A : Option Addr) (n c : Nat) (xs : List Value) (he : a.eval s = .slice A n c) (hs : Slab w e size A n c xs)
    (B : Nat → Prop) (F : Bool) (A2 : Option Addr) (m c2 : Nat) (news : List Value) (hx : a.eval x = .slice A2 m c2) (hr : Reads w B F size A2 m news) (h1 : ∀ u ∈ news, u.oneCell' = true) (hroom : n + m ≤ c)
    (h : ∀ w', Slab w' e size A (n + m) c (xs ++ news) → Keeps (rowB A) w w' → wpList P ops Q rest (a.put o.dst (.slice A (n + m) c)) w') : wpList P ops Q (o :: rest) a w := by
  obtain ⟨w', hrun, h2, h3⟩ := run_append_room_slab (P := P) w t o.type e i size ht hi hsize A n c xs hs B F A2 m c2 news hr h1 hroom
  refine wpList_plain hgd fun _ hK => ?_
  unfold Oper.wp execOp
  simp only [ho, resolve, invoke, builtin, Sem.run_bind, Sem.run_pure, Result.andThen_ok, List.map_toArray, List.map_cons, List.map_nil, he, hx, hrun]
  exact hK _ _ (h w' h2 h3)
end

theorem one_reads {w : World} {vb : Nat} {t : TypeId} {v : Value} (hv : Blk w vb t #[v]) : Reads w (fun _ => True) true 1 (some ⟨vb, 0, none⟩) 1 [v] := by
  refine ⟨rfl, fun _ => ⟨_, rfl, rfl, trivial, hv.lt, fun j u hu => ⟨?_, fun _ => hv.free _⟩⟩⟩
  rw [hv.cell, ← hu]; simp

def marksL (m : Nat) : List Value := (List.range m).map fun (i : Nat) => Value.int .u32 (IntKind.u32.wrap (markV 1 (i : Int)))
theorem marksL_succ (m : Nat) : marksL (m + 1) = marksL m ++ [.int .u32 (IntKind.u32.wrap (markV 1 (m : Int)))] := by unfold marksL; rw [List.range_succ, List.map_append]; rfl
theorem marksL_len (m : Nat) : (marksL m).length = m := by simp [marksL]
theorem ints_ones (xs : List Int) : ∀ u ∈ xs.map (Value.int .u32), u.oneCell' = true := by
  intro u hu; obtain ⟨x, _, rfl⟩ := List.mem_map.1 hu; rfl

def LentL (w : World) (xs : List Int) (n : Nat) (e : Ending) (w' : World) : Prop :=
  e = .returned (.slice (some ⟨w.heap.size, 0, none⟩) n (n + 12)) ∧ Slab w' 92 1 (some ⟨w.heap.size, 0, none⟩) (n + 12) (n + 12) (xs.map (Value.int .u32) ++ marksL 12) ∧ Keeps NoB w w' ∧ w.heap.size < w'.heap.size

set_option maxRecDepth 100000 in
set_option maxHeartbeats 1000000 in
theorem lentLimbs_any (A : Option Addr) (n c : Nat) (xs : List Int) (w : World) (B : Nat → Prop) (F : Bool) (h : Reads w B F 1 A n (xs.map (Value.int .u32))) (hn : n ≤ 1000000) :
    Calls Try.prog 45 #[.slice A n c] w (LentL w xs n) := by
  obtain ⟨i0, hi0, hz0, hz1, hz2⟩ := info_parts Try.info92
  have H := hide h
  have HB := hide (show i0.bytes * (n + 12) ≤ 281474976710656 by rw [hz2]; omega)
  have hwr : IntKind.i64.wrap ((n : Int) + 12) = (n : Int) + 12 := IntWalk.i64_in _ (by omega)
  clear h
  go_enter Try.func45, Try.ntmps45
  go_wp2_with (refine wpList_make_own _ rfl _ _ 31 rfl 0 92 i0 _ 1 Try.underlying31 hi0 hz0 hz1 .i64 .i64 ((n : Int) + 12) (n + 12) rfl rfl (by omega) HB.out (by unfold maxLen; omega) (Nat.zero_le _) ?_)
  intro w1 how hg
  have hk1 : Keeps NoB w w1 := (Keeps.refl NoB w).grown hg (fun k h _ => by cases h)
  obtain ⟨_, _, hv, hsl⟩ := Slab.of_own how
  injection hv with hv1 hv2 hv3
  subst hv1 hv3
  have HS1 := hide hsl; have HK1 := hide hk1
  clear how hg hk1 hsl hwr
  go_wp2_with (refine wpList_append_room _ rfl _ _ 31 rfl 92 i0 1 Try.underlying31 hi0 hz1 (some ⟨w.heap.size, 0, none⟩) 0 (n + 12) [] rfl HS1.out B F A n c (xs.map (Value.int .u32)) rfl (H.out.keep HK1.out (fun _ _ => id)) (ints_ones xs) (by omega) ?_)
  intro w2 hs2 hk2
  have hlt : w.heap.size < w2.heap.size := hs2.lt ⟨0, rfl⟩
  have HS2 := hide hs2
  have HK2 := hide (HK1.out.trans' hk2 (fun _ _ => id) (fun k hk ⟨o, e⟩ => by injection e with e; injection e with e; omega) : Keeps NoB w w2)
  clear hs2 hk2 HS1 HK1
  go_wp2_with fail
  go_loopg [3, 4] 12 (fun g s3 s4 wr => ∃ k : Nat, k ≤ 12 ∧ g = 12 - k ∧ s3 = .slice (some ⟨w.heap.size, 0, none⟩) (n + k) (n + 12) ∧ s4 = .int .i64 k ∧ Hid (Slab wr 92 1 (some ⟨w.heap.size, 0, none⟩) (n + k) (n + 12) (xs.map (Value.int .u32) ++ marksL k)) ∧ Keeps NoB w wr ∧ w.heap.size < wr.heap.size)
  case atStart => exact ⟨0, Nat.zero_le _, rfl, rfl, rfl, hide (by simpa [marksL] using HS2.out), HK2.out, hlt⟩
  case round =>
    obtain ⟨k, hk, rfl, rfl, rfl, HS, hkw, hlt2⟩ := hrel
    have HKW := hide hkw; clear hkw
    by_cases hk12 : k < 12
    · have hk1 : (k : Int) < 12 := by omega
      have HSA := hide (HS.out.fresh ((Keeps.refl NoB wr).alloc (.cells #[.int .u32 (IntKind.u32.wrap (markV 1 k))] 92)))
      have HRD := hide (one_reads (Blk.new wr 92 #[.int .u32 (IntKind.u32.wrap (markV 1 k))]))
      go_wp2_with
        first
        | (go_at_call 72; refine (mark_any 1 k (by omega) (by omega) (by omega) (by omega) _).mono ?_; rintro e w' ⟨rfl, rfl⟩)
        | (at_builtin; refine wpList_append_room _ rfl _ _ 31 rfl 92 i0 1 Try.underlying31 hi0 hz1 (some ⟨w.heap.size, 0, none⟩) (n + k) (n + 12) (xs.map (Value.int .u32) ++ marksL k) rfl HSA.out (fun _ => True) true (some ⟨wr.heap.size, 0, none⟩) 1 1 [.int .u32 (IntKind.u32.wrap (markV 1 k))] rfl HRD.out (by intro u hu; simp only [List.mem_singleton] at hu; rw [hu]; rfl) (by omega) ?_; intro w4 hs4 hk4; (have HS4 := hide hs4); (have HK4 := hide hk4); clear hs4 hk4)
        | fail
      have hk4 : Keeps NoB w w4 := (HKW.out.alloc _).trans' HK4.out (fun _ _ => id) (fun j hj ⟨o, e⟩ => by injection e with e; injection e with e; omega)
      have hs4 := HK4.out.size
      rw [World.size_alloc] at hs4
      have hlt4 : w.heap.size < w4.heap.size := by omega
      go_roundg (12 - (k + 1))
      case measure => omega
      case rel => exact ⟨k + 1, by omega, rfl, rfl, by go_num, hide (by rw [marksL_succ, ← List.append_assoc]; exact HS4.out), hk4, hlt4⟩
    · obtain rfl : k = 12 := by omega
      have hk1 : ¬ ((12 : Nat) : Int) < 12 := by omega
      have hn12 : n ≤ n + 12 := by omega
      go_wp2_with fail
      go_ret
      exact ⟨rfl, HS.out, HKW.out, hlt2⟩
end Go.Proofs.Ytmkidkfofbnjgaa
namespace Go.Proofs.Ytmkidkfofbnjgaa
open Go.RowKit

def marksC (m : Nat) : List Value := (List.range m).flatMap fun (i : Nat) => markC 1 (i : Int)
theorem marksC_succ (m : Nat) : marksC (m + 1) = marksC m ++ markC 1 (m : Int) := by unfold marksC; rw [List.range_succ, List.flatMap_append]; simp
theorem marksC_len (m : Nat) : (marksC m).length = m * 7 := by
  induction m with
  | zero => rfl
  | succ m ih => rw [marksC_succ, List.length_append, ih]; simp [markC]; omega

/-- Limbs lent: in a block between two. -/
def LimbL (w : World) (lo hi : Nat) (A : Option Addr) (n c : Nat) (xs : List Int) : Prop :=
  ∃ g, A = some ⟨g, 0, none⟩ ∧ lo ≤ g ∧ g < hi ∧ c = n + 12 ∧ xs.length = n ∧ Slab w 92 1 A (n + 12) (n + 12) (xs.map (Value.int .u32) ++ marksL 12)

mutual
/-- Seven cells of a lent term; its blocks lie from lo to hi. -/
def LIn (w : World) : Nat → Nat → List Value → Tm → Prop
  | lo, hi, cs, .mk k neg limbs text num items tail => ∃ la ln lc g im ic g' tn tc css dss m1 m2,
      cs = [.int .u8 k, .bool neg, .slice la ln lc, .string text, .int .i64 num, .slice (some ⟨g, 0, none⟩) im ic, .slice (some ⟨g', 0, none⟩) tn tc] ∧
      (ln ≤ 3000 ∧ im ≤ 3000 ∧ tn ≤ 3000) ∧ LimbL w lo m1 la ln lc limbs ∧
      (m1 ≤ g ∧ ic = im + 12 ∧ css.length = im ∧ Slab w 33 7 (some ⟨g, 0, none⟩) (im + 12) (im + 12) (css.flatten ++ marksC 12) ∧ LsIn w (g + 1) m2 css items) ∧
      (m2 ≤ g' ∧ tc = tn + 12 ∧ dss.length = tn ∧ Slab w 33 7 (some ⟨g', 0, none⟩) (tn + 12) (tn + 12) (dss.flatten ++ marksC 12) ∧ LsIn w (g' + 1) hi dss tail)
def LsIn (w : World) : Nat → Nat → List (List Value) → List Tm → Prop
  | lo, hi, [], [] => lo ≤ hi
  | lo, hi, cs :: css, t :: ts => ∃ m, LIn w lo m cs t ∧ LsIn w m hi css ts
  | _, _, [], _ :: _ => False
  | _, _, _ :: _, [] => False
end

/-- A row of lent terms. -/
def RowL (w : World) (lo hi : Nat) (A : Option Addr) (n c : Nat) (ts : List Tm) : Prop :=
  ∃ g css, A = some ⟨g, 0, none⟩ ∧ lo ≤ g ∧ c = n + 12 ∧ css.length = n ∧ Slab w 33 7 (some ⟨g, 0, none⟩) (n + 12) (n + 12) (css.flatten ++ marksC 12) ∧ LsIn w (g + 1) hi css ts

mutual
theorem LIn.le {w : World} : ∀ {lo hi : Nat} {cs : List Value} {t : Tm}, LIn w lo hi cs t → lo < hi
  | lo, hi, cs, .mk k neg limbs text num items tail, h => by
    unfold LIn at h
    obtain ⟨la, ln, lc, g, im, ic, g', tn, tc, css, dss, m1, m2, _, _, ⟨g0, _, h1, h2, _⟩, ⟨h3, _, _, _, h4⟩, ⟨h5, _, _, _, h6⟩⟩ := h
    have := LsIn.le h4
    have := LsIn.le h6
    omega
theorem LsIn.le {w : World} : ∀ {lo hi : Nat} {css : List (List Value)} {ts : List Tm}, LsIn w lo hi css ts → lo ≤ hi
  | lo, hi, [], [], h => by unfold LsIn at h; exact h
  | lo, hi, cs :: css, t :: ts, h => by
    unfold LsIn at h
    obtain ⟨m, h1, h2⟩ := h
    have := LIn.le h1
    have := LsIn.le h2
    omega
  | _, _, [], _ :: _, h => by unfold LsIn at h; exact h.elim
  | _, _, _ :: _, [], h => by unfold LsIn at h; exact h.elim
end

mutual
theorem LIn.keep {w w' : World} {fp : Nat → Prop} (hk : Keeps fp w w') : ∀ {lo hi : Nat} {cs : List Value} {t : Tm}, LIn w lo hi cs t → (∀ k, lo ≤ k → k < hi → ¬ fp k) → LIn w' lo hi cs t
  | lo, hi, cs, .mk k neg limbs text num items tail, h, hf => by
    unfold LIn at h ⊢
    obtain ⟨la, ln, lc, g, im, ic, g', tn, tc, css, dss, m1, m2, e, hs, ⟨g0, e0, h1, h2, e1, e2, h3⟩, ⟨h4, e3, e4, h5, h6⟩, ⟨h7, e5, e6, h8, h9⟩⟩ := h
    have q1 := LsIn.le h6
    have q2 := LsIn.le h9
    subst e0
    refine ⟨_, ln, lc, g, im, ic, g', tn, tc, css, dss, m1, m2, e, hs, ⟨g0, rfl, h1, h2, e1, e2, h3.keep hk (fun k ⟨o, ek⟩ => by injection ek with ek; injection ek with ek; subst ek; exact hf _ (by omega) (by omega))⟩, ⟨h4, e3, e4, h5.keep hk (fun k ⟨o, ek⟩ => by injection ek with ek; injection ek with ek; subst ek; exact hf _ (by omega) (by omega)), LsIn.keep hk h6 (fun k hk1 hk2 => hf k (by omega) (by omega))⟩, ⟨h7, e5, e6, h8.keep hk (fun k ⟨o, ek⟩ => by injection ek with ek; injection ek with ek; subst ek; exact hf _ (by omega) (by omega)), LsIn.keep hk h9 (fun k hk1 hk2 => hf k (by omega) (by omega))⟩⟩
theorem LsIn.keep {w w' : World} {fp : Nat → Prop} (hk : Keeps fp w w') : ∀ {lo hi : Nat} {css : List (List Value)} {ts : List Tm}, LsIn w lo hi css ts → (∀ k, lo ≤ k → k < hi → ¬ fp k) → LsIn w' lo hi css ts
  | lo, hi, [], [], h, _ => by unfold LsIn at h ⊢; exact h
  | lo, hi, cs :: css, t :: ts, h, hf => by
    unfold LsIn at h ⊢
    obtain ⟨m, h1, h2⟩ := h
    have q1 := LIn.le h1
    have q2 := LsIn.le h2
    exact ⟨m, LIn.keep hk h1 (fun k hk1 hk2 => hf k hk1 (by omega)), LsIn.keep hk h2 (fun k hk1 hk2 => hf k (by omega) hk2)⟩
  | _, _, [], _ :: _, h, _ => by unfold LsIn at h; exact h.elim
  | _, _, _ :: _, [], h, _ => by unfold LsIn at h; exact h.elim
end

theorem take_front {xs ys : List Value} {k : Nat} (h : xs.length = k) : (xs ++ ys).take k = xs := by subst h; exact List.take_left

mutual
theorem LIn.len {w : World} : ∀ {lo hi : Nat} {cs : List Value} {t : Tm}, LIn w lo hi cs t → cs.length = 7
  | lo, hi, cs, .mk k neg limbs text num items tail, h => by
    unfold LIn at h
    obtain ⟨la, ln, lc, g, im, ic, g', tn, tc, css, dss, m1, m2, rfl, _⟩ := h
    rfl
theorem LsIn.lens {w : World} : ∀ {lo hi : Nat} {css : List (List Value)} {ts : List Tm}, LsIn w lo hi css ts → css.length = ts.length ∧ ∀ c ∈ css, c.length = 7
  | lo, hi, [], [], h => ⟨rfl, fun _ h => by cases h⟩
  | lo, hi, cs :: css, t :: ts, h => by
    unfold LsIn at h
    obtain ⟨m, h1, h2⟩ := h
    have q1 := LIn.len h1
    obtain ⟨q2, q3⟩ := LsIn.lens h2
    refine ⟨by simp [q2], fun c hc => ?_⟩
    rcases List.mem_cons.1 hc with rfl | hc
    · exact q1
    · exact q3 c hc
  | _, _, [], _ :: _, h => by unfold LsIn at h; exact h.elim
  | _, _, _ :: _, [], h => by unfold LsIn at h; exact h.elim
end

mutual
/-- A lent term reads as a term. -/
theorem LIn.term {w : World} {B : Nat → Prop} : ∀ {lo hi : Nat} {cs : List Value} {t : Tm}, LIn w lo hi cs t → (∀ k, lo ≤ k → k < hi → B k) → TermIn w B true cs t
  | lo, hi, cs, .mk k neg limbs text num items tail, h, hB => by
    unfold LIn at h
    unfold TermIn
    obtain ⟨la, ln, lc, g, im, ic, g', tn, tc, css, dss, m1, m2, e, ⟨s1, s2, s3⟩, ⟨g0, e0, h1, h2, e1, e2, h3⟩, ⟨h4, e3, e4, h5, h6⟩, ⟨h7, e5, e6, h8, h9⟩⟩ := h
    have q1 := LsIn.le h6
    have q2 := LsIn.le h9
    have l1 := LsIn.lens h6
    have l2 := LsIn.lens h9
    subst e0
    refine ⟨_, ln, lc, _, im, ic, _, tn, tc, css, dss, e, ⟨Roomy.small (by omega) (by omega), Roomy.small (by omega) (by omega), Roomy.small (by omega) (by omega)⟩, ?_, ?_, LsIn.term h6 (fun k hk1 hk2 => hB k (by omega) (by omega)), ?_, LsIn.term h9 (fun k hk1 hk2 => hB k (by omega) (by omega))⟩
    · have := (Slab.part h3 (i := ln) (by omega)).more (B' := B) (fun k _ ⟨o, ek⟩ => by injection ek with ek; injection ek with ek; subst ek; exact hB _ (by omega) (by omega))
      rwa [take_front (by simp [e2])] at this
    · have := (Slab.part h5 (i := im) (by omega)).more (B' := B) (fun k _ ⟨o, ek⟩ => by injection ek with ek; injection ek with ek; subst ek; exact hB _ (by omega) (by omega))
      rwa [take_front (by rw [flat_len l1.2, e4])] at this
    · have := (Slab.part h8 (i := tn) (by omega)).more (B' := B) (fun k _ ⟨o, ek⟩ => by injection ek with ek; injection ek with ek; subst ek; exact hB _ (by omega) (by omega))
      rwa [take_front (by rw [flat_len l2.2, e6])] at this
theorem LsIn.term {w : World} {B : Nat → Prop} : ∀ {lo hi : Nat} {css : List (List Value)} {ts : List Tm}, LsIn w lo hi css ts → (∀ k, lo ≤ k → k < hi → B k) → TermsIn w B true css ts
  | lo, hi, [], [], h, _ => by unfold TermsIn; trivial
  | lo, hi, cs :: css, t :: ts, h, hB => by
    unfold LsIn at h
    obtain ⟨m, h1, h2⟩ := h
    have q1 := LIn.le h1
    have q2 := LsIn.le h2
    unfold TermsIn
    exact ⟨LIn.term h1 (fun k hk1 hk2 => hB k hk1 (by omega)), LsIn.term h2 (fun k hk1 hk2 => hB k (by omega) hk2)⟩
  | _, _, [], _ :: _, h, _ => by unfold LsIn at h; exact h.elim
  | _, _, _ :: _, [], h, _ => by unfold LsIn at h; exact h.elim
end

theorem LsIn.up {w : World} {hi hi' : Nat} (hh : hi ≤ hi') : ∀ {lo : Nat} {css : List (List Value)} {ts : List Tm}, LsIn w lo hi css ts → LsIn w lo hi' css ts
  | lo, [], [], h => by unfold LsIn at h ⊢; omega
  | lo, cs :: css, t :: ts, h => by
    unfold LsIn at h ⊢
    obtain ⟨m, h1, h2⟩ := h
    exact ⟨m, h1, LsIn.up hh h2⟩
  | _, [], _ :: _, h => by unfold LsIn at h; exact h.elim
  | _, _ :: _, [], h => by unfold LsIn at h; exact h.elim
mutual
theorem LIn.down {w : World} {lo lo' : Nat} (hl : lo' ≤ lo) : ∀ {hi : Nat} {cs : List Value} {t : Tm}, LIn w lo hi cs t → LIn w lo' hi cs t
  | hi, cs, .mk k neg limbs text num items tail, h => by
    unfold LIn at h ⊢
    obtain ⟨la, ln, lc, g, im, ic, g', tn, tc, css, dss, m1, m2, e, hs, ⟨g0, e0, h1, h2⟩, h3⟩ := h
    exact ⟨la, ln, lc, g, im, ic, g', tn, tc, css, dss, m1, m2, e, hs, ⟨g0, e0, by omega, h2⟩, h3⟩
end
theorem LsIn.down {w : World} {lo lo' hi : Nat} (hl : lo' ≤ lo) : ∀ {css : List (List Value)} {ts : List Tm}, LsIn w lo hi css ts → LsIn w lo' hi css ts
  | [], [], h => by unfold LsIn at h ⊢; omega
  | cs :: css, t :: ts, h => by
    unfold LsIn at h ⊢
    obtain ⟨m, h1, h2⟩ := h
    exact ⟨m, LIn.down hl h1, h2⟩
  | [], _ :: _, h => by unfold LsIn at h; exact h.elim
  | _ :: _, [], h => by unfold LsIn at h; exact h.elim
theorem LsIn.snoc {w : World} {m hi : Nat} {cs : List Value} {t : Tm} (ht : LIn w m hi cs t) : ∀ {lo : Nat} {css : List (List Value)} {ts : List Tm}, LsIn w lo m css ts → LsIn w lo hi (css ++ [cs]) (ts ++ [t])
  | lo, [], [], h => by
    unfold LsIn at h
    show LsIn w lo hi [cs] [t]
    unfold LsIn
    exact ⟨hi, LIn.down h ht, by unfold LsIn; exact Nat.le_refl _⟩
  | lo, c :: css, u :: ts, h => by
    unfold LsIn at h
    obtain ⟨m', h1, h2⟩ := h
    show LsIn w lo hi (c :: (css ++ [cs])) (u :: (ts ++ [t]))
    unfold LsIn
    exact ⟨m', h1, LsIn.snoc ht h2⟩
  | _, [], _ :: _, h => by unfold LsIn at h; exact h.elim
  | _, _ :: _, [], h => by unfold LsIn at h; exact h.elim
end Go.Proofs.Ytmkidkfofbnjgaa
