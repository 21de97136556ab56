/- Instructions as cells; test, rows; SameInstr, SameInstrs of what is the same. -/
import Derived.Test.YtdmldipnalklgaaAtLaw
import Derived.Test.YtdmldipnalklgaaConcatI
import Derived.Test.YtdmldipnalklgaaTmSames
namespace Go.Proofs.Ytdmldipnalklgaa
open Go.RowKit

/-- An instruction's cells. -/
def insC (i : Ins) : List Value := [.int .u8 i.op, .int .i64 i.a, .int .i64 i.b, .int .i64 i.c, .int .i64 i.n, .int .i64 i.l, .string { data := #[] }, .slice none 0 0]
def insL (l : List Ins) : List Value := (l.map insC).flatten
theorem insL_len (l : List Ins) : (insL l).length = l.length * 8 := by
  unfold insL
  rw [flat_len (k := 8) (by intro c hc; obtain ⟨i, _, rfl⟩ := List.mem_map.1 hc; rfl), List.length_map]
theorem insL_append (l m : List Ins) : insL (l ++ m) = insL l ++ insL m := by unfold insL; simp
theorem insL_ones (l : List Ins) : ∀ u ∈ insL l, u.oneCell' = true := by
  intro u hu
  unfold insL at hu
  obtain ⟨c, hc, hu⟩ := List.mem_flatten.1 hu
  obtain ⟨i, _, rfl⟩ := List.mem_map.1 hc
  unfold insC at hu
  simp only [List.mem_cons, List.not_mem_nil, or_false] at hu
  rcases hu with rfl | rfl | rfl | rfl | rfl | rfl | rfl | rfl <;> rfl

set_option maxRecDepth 100000 in
theorem test_any (op b c n : Int) (w : World) : Calls Try.prog 23 #[.int .u8 op, .int .i64 b, .int .i64 c, .int .i64 n] w fun e w' => e = .returned (.agg #[.int .u8 op, .int .i64 0, .int .i64 b, .int .i64 c, .int .i64 n, .int .i64 (-1), .string { data := #[] }, .slice none 0 0]) ∧ Keeps NoB w w' := by
  have HB := hide (Blk.new w 44 #[.int .u8 op, .int .i64 0, .int .i64 b, .int .i64 c, .int .i64 n, .int .i64 (-1), .string { data := #[] }, .slice none 0 0])
  go_enter Try.func23, Try.ntmps23
  go_wp2
  have HK := hide ((Keeps.refl NoB w).alloc (.cells #[.int .u8 op, .int .i64 0, .int .i64 b, .int .i64 c, .int .i64 n, .int .i64 (-1), .string { data := #[] }, .slice none 0 0] 44))
  generalize w.alloc (.cells #[.int .u8 op, .int .i64 0, .int .i64 b, .int .i64 c, .int .i64 n, .int .i64 (-1), .string { data := #[] }, .slice none 0 0] 44) = wf at *
  have d0 : wf.cell? ⟨w.heap.size, 0, none⟩ = some (.int .u8 op) := HB.out.cell 0; have d1 : wf.cell? ⟨w.heap.size, 1, none⟩ = some (.int .i64 0) := HB.out.cell 1; have d2 : wf.cell? ⟨w.heap.size, 2, none⟩ = some (.int .i64 b) := HB.out.cell 2; have d3 : wf.cell? ⟨w.heap.size, 3, none⟩ = some (.int .i64 c) := HB.out.cell 3; have d4 : wf.cell? ⟨w.heap.size, 4, none⟩ = some (.int .i64 n) := HB.out.cell 4; have d5 : wf.cell? ⟨w.heap.size, 5, none⟩ = some (.int .i64 (-1)) := HB.out.cell 5; have d6 : wf.cell? ⟨w.heap.size, 6, none⟩ = some (.string { data := #[] }) := HB.out.cell 6; have d7 : wf.cell? ⟨w.heap.size, 7, none⟩ = some (.slice none 0 0) := HB.out.cell 7
  refine bodyPost_ret (v := .agg #[.int .u8 op, .int .i64 0, .int .i64 b, .int .i64 c, .int .i64 n, .int .i64 (-1), .string { data := #[] }, .slice none 0 0]) (by simp [results, Try.results23, go_sem, d0, d1, d2, d3, d4, d5, d6, d7]) rfl ?_
  exact ⟨rfl, HK.out⟩

theorem rows_any (xss : List (List Value)) (vs : List Value) (A : Option Addr) (K c N : Nat) (w : World) (B B' : Nat → Prop) (F F' : Bool)
    (hh : Reads w B F 1 A K vs) (hx : HeadsAt w B' F' 8 vs xss) (hN : xss.flatten.length = N * 8) (h1 : ∀ u ∈ xss.flatten, u.oneCell' = true) (hr : Roomy N 88) (hK : K ≤ 9223372036854775807) :
    Calls Try.prog 22 #[.slice A K c] w fun e w' => ∃ A' c', e = .returned (.slice A' N c') ∧ Slab w' 44 8 A' N c' xss.flatten ∧ (∀ k, rowB A' k → w.heap.size ≤ k) ∧ Keeps NoB w w' := by
  have H := hide (inC_concat xss vs A K c N w B B' F F' hh hx hN h1 hr hK)
  clear hh hx hN h1 hr
  go_enter Try.func22, Try.ntmps22
  go_wp2_with
    first
    | (go_at_call 29
       refine H.out.mono ?_
       rintro e w2 ⟨A', c', rfl, h1, h2, h3⟩
       have HP := hide (And.intro h1 (And.intro h2 h3))
       clear h1 h2 h3)
    | fail
  go_ret
  exact ⟨A', c', rfl, HP.out.1, HP.out.2.1, HP.out.2.2⟩

set_option maxRecDepth 100000 in
theorem ints_nil (w : World) : Calls Try.prog 25 #[.slice none 0 0, .slice none 0 0] w fun e w' => e = .returned (.bool true) ∧ Keeps NoB w w' := by
  go_enter Try.func25, Try.ntmps25
  go_wp2
  go_loopw [5] (fun i wr => i = .int .i64 0 ∧ Keeps NoB w wr) (fun _ _ => 0)
  case atStart => exact ⟨rfl, Keeps.refl _ _⟩
  case round =>
    obtain ⟨rfl, hk⟩ := hrel
    go_wp2
    go_ret
    exact ⟨rfl, hk⟩

set_option maxRecDepth 100000 in
theorem same_instr (i : Ins) (w : World) : Calls Try.prog 16 #[.agg #[.int .u8 i.op, .int .i64 i.a, .int .i64 i.b, .int .i64 i.c, .int .i64 i.n, .int .i64 i.l, .string { data := #[] }, .slice none 0 0], .agg #[.int .u8 i.op, .int .i64 i.a, .int .i64 i.b, .int .i64 i.c, .int .i64 i.n, .int .i64 i.l, .string { data := #[] }, .slice none 0 0]] w fun e w' => e = .returned (.bool true) ∧ Keeps NoB w w' := by
  have HK1 : Hid (Keeps NoB w ((w.alloc (.cells #[.int .u8 i.op, .int .i64 i.a, .int .i64 i.b, .int .i64 i.c, .int .i64 i.n, .int .i64 i.l, .string { data := #[] }, .slice none 0 0] 44)).alloc (.cells #[.int .u8 i.op, .int .i64 i.a, .int .i64 i.b, .int .i64 i.c, .int .i64 i.n, .int .i64 i.l, .string { data := #[] }, .slice none 0 0] 44))) := hide (((Keeps.refl NoB w).alloc _).alloc _)
  obtain ⟨op, a, b, c, n, l⟩ := i
  go_enter Try.func16, Try.ntmps16
  go_wp2_with
    first
    | (go_at_call 25
       refine (ints_nil _).mono ?_
       rintro e w2 ⟨rfl, hk2⟩
       have HK2 := hide (HK1.out.trans' hk2 (fun _ _ => id) (fun _ _ => id) : Keeps NoB w w2)
       clear hk2)
    | fail
  go_ret
  exact ⟨rfl, HK2.out⟩

theorem ins_at {w : World} {B : Nat → Prop} {F : Bool} {l : List Ins} {A : Option Addr} {n : Nat} (hr : Reads w B F 8 A n (insL l)) (k : Nat) (hk : k < n) :
    ∃ b o i, A = some ⟨b, o, none⟩ ∧ l[k]? = some i ∧ ∀ (j : Nat) (u : Value), (insC i)[j]? = some u → w.cell? ⟨b, o + k * 8 + j, none⟩ = some u := by
  have hl : l.length = n := by have h := hr.1; rw [insL_len] at h; omega
  obtain ⟨⟨b, o, sp⟩, hA, hs, _, _, hc⟩ := hr.2 (by omega)
  simp only at hs
  subst hs hA
  refine ⟨b, o, l[k], rfl, List.getElem?_eq_getElem (by omega), fun j u hu => ?_⟩
  have hj : j < 8 := (List.getElem?_eq_some_iff.1 hu).1
  have h8 : ∀ c ∈ l.map insC, c.length = 8 := by intro c hc; obtain ⟨i, _, rfl⟩ := List.mem_map.1 hc; rfl
  have := (hc (k * 8 + j) u (by unfold insL; rw [flat_get h8 k (by simpa using (by omega : k < l.length)) j hj, List.getElem_map]; exact hu)).1
  rw [← Nat.add_assoc] at this; exact this

set_option maxRecDepth 100000 in
theorem same_instrs (l : List Ins) (A A' : Option Addr) (n c n' c' : Nat) (w : World) (B B' : Nat → Prop) (F F' : Bool) (h1 : Reads w B F 8 A n (insL l)) (h2 : Reads w B' F' 8 A' n' (insL l)) (hroom : Roomy n 88) :
    Calls Try.prog 10 #[.slice A n c, .slice A' n' c'] w fun e w' => e = .returned (.bool true) ∧ Keeps NoB w w' := by
  have hl1 : l.length = n := by have h := h1.1; rw [insL_len] at h; omega
  obtain rfl : n = n' := by have h := h2.1; rw [insL_len] at h; omega
  have hnm : n ≤ 9223372036854775807 := by have := hroom.len (by omega); unfold maxLen at this; exact this
  have H1 := hide h1; have H2 := hide h2
  clear h1 h2 hroom hl1
  go_enter Try.func10, Try.ntmps10
  go_wp2
  go_loopw [5] (fun i wr => ∃ k : Nat, k ≤ n ∧ i = .int .i64 k ∧ Keeps NoB w wr) (fun i _ => n - (intOf i).toNat)
  case atStart => exact ⟨0, Nat.zero_le _, rfl, Keeps.refl _ _⟩
  case round =>
    obtain ⟨k, hk, rfl, hkw⟩ := hrel
    have HKW := hide hkw; clear hkw
    by_cases hlt : k < n
    · obtain ⟨b, o, i, hA, e1, g1⟩ := ins_at (H1.out.keep HKW.out (fun _ _ => id)) k hlt
      obtain ⟨b', o', i', hA', e2, g2⟩ := ins_at (H2.out.keep HKW.out (fun _ _ => id)) k hlt
      rw [e1] at e2
      obtain rfl : i = i' := Option.some.inj e2
      subst hA hA'
      obtain ⟨op, a, bb, cc, nn, ll⟩ := i
      unfold insC at g1 g2
      have G1 := hide g1; have G2 := hide g2
      have hk1 : (k : Int) < (n : Int) := by omega
      have hk0 : (0 : Int) ≤ (k : Int) := by omega
      clear g1 g2 e1 e2
      go_wp2_with fail
      refine order_begin (fun W => Keeps NoB wr W) (fun _ => true) (by kernel_rfl) 10 rfl ?_
      have HS : Keeps NoB wr wr.drew := (Keeps.refl NoB wr).drew
      generalize wr.drew = W0 at *
      refine order_pure (i := 0) rfl (by kernel_rfl) (fun _ _ _ h => h) (.inl ⟨rfl, fun _ => by go_simp; rfl⟩) ?_
      try simp only [Act.put, List.setIfInBounds_toArray, List.set_cons_succ, List.set_cons_zero]
      refine order_pure (i := 1) rfl (by kernel_rfl) (fun _ _ _ h => h) (.inl ⟨rfl, fun _ => by go_simp; rfl⟩) ?_
      try simp only [Act.put, List.setIfInBounds_toArray, List.set_cons_succ, List.set_cons_zero]
      refine order_pure (i := 2) rfl (by kernel_rfl) (fun _ _ _ h => h) (.inl ⟨rfl, fun _ => by go_simp; rfl⟩) ?_
      try simp only [Act.put, List.setIfInBounds_toArray, List.set_cons_succ, List.set_cons_zero]
      refine order_held (i := 3) rfl (by kernel_rfl) (fun _ _ _ h => h) (.inl ⟨rfl, fun W hW => by
        have q0 : W.cell? ⟨b, o + k * 8, none⟩ = some (.int .u8 op) := hW.cell id (G1.out 0 _ rfl)
        have q1 : W.cell? ⟨b, o + k * 8 + 1, none⟩ = some (.int .i64 a) := hW.cell id (G1.out 1 _ rfl)
        have q2 : W.cell? ⟨b, o + k * 8 + 2, none⟩ = some (.int .i64 bb) := hW.cell id (G1.out 2 _ rfl)
        have q3 : W.cell? ⟨b, o + k * 8 + 3, none⟩ = some (.int .i64 cc) := hW.cell id (G1.out 3 _ rfl)
        have q4 : W.cell? ⟨b, o + k * 8 + 4, none⟩ = some (.int .i64 nn) := hW.cell id (G1.out 4 _ rfl)
        have q5 : W.cell? ⟨b, o + k * 8 + 5, none⟩ = some (.int .i64 ll) := hW.cell id (G1.out 5 _ rfl)
        have q6 : W.cell? ⟨b, o + k * 8 + 6, none⟩ = some (.string { data := #[] }) := hW.cell id (G1.out 6 _ rfl)
        have q7 : W.cell? ⟨b, o + k * 8 + 7, none⟩ = some (.slice none 0 0) := hW.cell id (G1.out 7 _ rfl)
        go_simp; rfl⟩) HS ?_
      try simp only [Act.put, List.setIfInBounds_toArray, List.set_cons_succ, List.set_cons_zero]
      refine order_pure (i := 4) rfl (by kernel_rfl) (fun _ _ _ h => h) (.inl ⟨rfl, fun _ => by go_simp; rfl⟩) ?_
      try simp only [Act.put, List.setIfInBounds_toArray, List.set_cons_succ, List.set_cons_zero]
      refine order_pure (i := 5) rfl (by kernel_rfl) (fun _ _ _ h => h) (.inl ⟨rfl, fun _ => by go_simp; rfl⟩) ?_
      try simp only [Act.put, List.setIfInBounds_toArray, List.set_cons_succ, List.set_cons_zero]
      refine order_pure (i := 6) rfl (by kernel_rfl) (fun _ _ _ h => h) (.inl ⟨rfl, fun _ => by go_simp; rfl⟩) ?_
      try simp only [Act.put, List.setIfInBounds_toArray, List.set_cons_succ, List.set_cons_zero]
      refine order_held (i := 7) rfl (by kernel_rfl) (fun _ _ _ h => h) (.inl ⟨rfl, fun W hW => by
        have q0 : W.cell? ⟨b', o' + k * 8, none⟩ = some (.int .u8 op) := hW.cell id (G2.out 0 _ rfl)
        have q1 : W.cell? ⟨b', o' + k * 8 + 1, none⟩ = some (.int .i64 a) := hW.cell id (G2.out 1 _ rfl)
        have q2 : W.cell? ⟨b', o' + k * 8 + 2, none⟩ = some (.int .i64 bb) := hW.cell id (G2.out 2 _ rfl)
        have q3 : W.cell? ⟨b', o' + k * 8 + 3, none⟩ = some (.int .i64 cc) := hW.cell id (G2.out 3 _ rfl)
        have q4 : W.cell? ⟨b', o' + k * 8 + 4, none⟩ = some (.int .i64 nn) := hW.cell id (G2.out 4 _ rfl)
        have q5 : W.cell? ⟨b', o' + k * 8 + 5, none⟩ = some (.int .i64 ll) := hW.cell id (G2.out 5 _ rfl)
        have q6 : W.cell? ⟨b', o' + k * 8 + 6, none⟩ = some (.string { data := #[] }) := hW.cell id (G2.out 6 _ rfl)
        have q7 : W.cell? ⟨b', o' + k * 8 + 7, none⟩ = some (.slice none 0 0) := hW.cell id (G2.out 7 _ rfl)
        go_simp; rfl⟩) HS ?_
      try simp only [Act.put, List.setIfInBounds_toArray, List.set_cons_succ, List.set_cons_zero]
      refine order_one (i := 8) rfl (by kernel_rfl) (fun K hK => ?_)
      go_simp
      refine (same_instr ⟨op, a, bb, cc, nn, ll⟩ W0).mono ?_
      rintro e w2 ⟨rfl, hk3⟩
      refine hK _ _ (fun _ hS => hS.trans' hk3 (fun _ _ => id) (fun _ _ => id)) ?_
      clear hK
      have HK3 := hide (HKW.out.trans' (HS.trans' hk3 (fun _ _ => id) (fun _ _ => id) : Keeps NoB wr w2) (fun _ _ => id) (fun _ _ => id) : Keeps NoB w w2)
      clear hk3 HS
      try simp only [Act.put, List.setIfInBounds_toArray, List.set_cons_succ, List.set_cons_zero]
      refine order_pure (i := 9) rfl (by kernel_rfl) (fun _ _ _ h => h) (.inl ⟨rfl, fun _ => by go_simp; rfl⟩) ?_
      try simp only [Act.put, List.setIfInBounds_toArray, List.set_cons_succ, List.set_cons_zero]
      refine order_done (by kernel_rfl) ?_
      go_wp2
      go_roundw
      case rel => exact ⟨k + 1, by omega, by go_num, HK3.out⟩
      case measure => simp [intOf]; omega
    · go_wp2
      go_ret
      exact ⟨rfl, HKW.out⟩
end Go.Proofs.Ytdmldipnalklgaa
