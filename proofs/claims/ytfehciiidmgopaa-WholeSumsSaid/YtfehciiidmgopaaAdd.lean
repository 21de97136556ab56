/- Add, Sub: sum and difference of two integers. -/
import Derived.Test.YtfehciiidmgopaaBoth
namespace Go.Proofs.Ytfehciiidmgopaa
open Go.RowKit


/-- An amount is told. -/
def AmtP (w : World) (N : Nat) (e : Ending) (w' : World) : Prop := ∃ A n c l, e = .returned (.slice A n c) ∧ LimbsIn w' (fun k => w.heap.size ≤ k) A n c l ∧ nat l = N ∧ Keeps NoB w w'
set_option maxRecDepth 100000 in
theorem sum_any (A A' : Option Addr) (n c n' c' : Nat) (la lb : List Nat) (w : World) (B B' : Nat → Prop) (h : LimbsIn w B A n c la) (h' : LimbsIn w B' A' n' c' lb) (hn : n ≤ 32) (hn' : n' ≤ 32) :
    Calls Try.prog 48 #[.slice A n c, .slice A' n' c'] w (AmtP w (nat la + nat lb)) := by
  have H := hide (sum_both A A' n c n' c' (max n n') la lb w B B' h h' rfl (by omega))
  clear h h'
  go_enter Try.func48, Try.ntmps48
  go_wp2_with (go_at_call 67; refine H.out.mono ?_; rintro e w' ⟨A5, n5, c5, l, os, cy, rfl, hl, hn5, hv, hlen, hlow, hT, hk⟩; have HL := hide hl; have HV := hide (And.intro hv hT); have HK := hide hk; clear hl hv hlen hlow hT hk hn5)
  go_ret
  exact ⟨A5, n5, c5, l, rfl, HL.out, HV.out.1.trans HV.out.2.symm, HK.out⟩
set_option maxRecDepth 100000 in
theorem less_any (A A' : Option Addr) (n c n' c' : Nat) (la lb : List Nat) (w : World) (B B' : Nat → Prop) (h : LimbsIn w B A n c la) (h' : LimbsIn w B' A' n' c' lb) (hn : n ≤ 32) (hn' : n' ≤ 32) (hle : nat lb ≤ nat la) :
    Calls Try.prog 49 #[.slice A n c, .slice A' n' c'] w (AmtP w (nat la - nat lb)) := by
  have H := hide (less_both A A' n c n' c' (max n n') la lb w B B' h h' rfl (by omega))
  have HLE := hide hle
  clear h h' hle
  go_enter Try.func49, Try.ntmps49
  go_wp2_with (go_at_call 67; refine H.out.mono ?_; rintro e w' ⟨A5, n5, c5, l, os, cy, rfl, hl, hn5, hv, hlen, hlow, hT, hk⟩; have HL := hide hl; have hse := sub_end hT (hlen ▸ nat_lt hlow) HLE.out; have HV := hide (And.intro hv hse); have HK := hide hk; clear hl hv hlen hlow hT hk hn5 hse)
  go_ret
  exact ⟨A5, n5, c5, l, rfl, HL.out, by have h1 := HV.out.1; have h2 := HV.out.2; rw [h2.1] at h1; omega, HK.out⟩

theorem add_same {ng ng' : Bool} {x y : Int} (h1 : ng = decide (x < 0)) (h2 : ng' = decide (y < 0)) (h : ng = ng') : sgn ng (x.natAbs + y.natAbs) = x + y := by
  unfold sgn
  cases ng with
  | true =>
    have e1 := of_decide_eq_true h1.symm
    have e2 := of_decide_eq_true (h.trans h2).symm
    rw [if_pos rfl]; omega
  | false =>
    have e1 := of_decide_eq_false h1.symm
    have e2 := of_decide_eq_false (h.trans h2).symm
    rw [if_neg (by decide)]; omega
theorem add_less {ng ng' : Bool} {x y : Int} (h1 : ng = decide (x < 0)) (h2 : ng' = decide (y < 0)) (h : ¬ ng = ng') (hl : y.natAbs ≤ x.natAbs) : sgn ng (x.natAbs - y.natAbs) = x + y := by
  unfold sgn
  cases ng with
  | true =>
    have e1 := of_decide_eq_true h1.symm
    have e2 : ¬ y < 0 := fun e => h (by rw [h2, decide_eq_true e])
    rw [if_pos rfl]; omega
  | false =>
    have e1 := of_decide_eq_false h1.symm
    have e2 : y < 0 := by
      cases ng' with
      | true => exact of_decide_eq_true h2.symm
      | false => exact absurd rfl h
    rw [if_neg (by decide)]; omega

set_option maxHeartbeats 4000000 in
set_option maxRecDepth 100000 in
theorem add_like (ng ng' : Bool) (A A' ia ta ia' ta' : Option Addr) (n c n' c' ic tc ic' tc' : Nat) (x y : Int) (w : World) (B B' : Nat → Prop) (h : IA w B ng A n c x) (h' : IA w B' ng' A' n' c' y) (hg : ng = ng') :
    Calls Try.prog 25 #[.agg #[.int .u8 1, .bool ng, .slice A n c, .string { data := #[] }, .int .i64 0, .slice ia 0 ic, .slice ta 0 tc], .agg #[.int .u8 1, .bool ng', .slice A' n' c', .string { data := #[] }, .int .i64 0, .slice ia' 0 ic', .slice ta' 0 tc']] w (AnyP w (x + y)) := by
  have hn := h.len; have hn' := h'.len
  have hsg := h.sign; have hsg' := h'.sign
  have HI := hide h; have HI' := hide h'
  have HN := hide (And.intro (nat_dig x.natAbs) (nat_dig y.natAbs))
  clear h h'
  have HZS := hide (add_same hsg hsg' hg)
  have hb : (ng == ng') = true := by rw [hg]; simp
  clear hg
  clear hsg hsg'
  go_enter Try.func25, Try.ntmps25
  have HX0 := hide (((Blk.new w 26 #[.int .u8 1, .bool ng, .slice A n c, .string { data := #[] }, .int .i64 0, .slice ia 0 ic, .slice ta 0 tc]).alloc (.cells #[.int .u8 1, .bool ng', .slice A' n' c', .string { data := #[] }, .int .i64 0, .slice ia' 0 ic', .slice ta' 0 tc'] 26)).alloc (.cells #[.int .u8 0, .bool false, .slice none 0 0, .string { data := #[] }, .int .i64 0, .slice none 0 0, .slice none 0 0] 26))
  have HY0 := hide ((Blk.new2' w (.cells #[.int .u8 1, .bool ng, .slice A n c, .string { data := #[] }, .int .i64 0, .slice ia 0 ic, .slice ta 0 tc] 26) 26 #[.int .u8 1, .bool ng', .slice A' n' c', .string { data := #[] }, .int .i64 0, .slice ia' 0 ic', .slice ta' 0 tc']).alloc (.cells #[.int .u8 0, .bool false, .slice none 0 0, .string { data := #[] }, .int .i64 0, .slice none 0 0, .slice none 0 0] 26))
  have HZ0 := hide (Blk.new3' w (.cells #[.int .u8 1, .bool ng, .slice A n c, .string { data := #[] }, .int .i64 0, .slice ia 0 ic, .slice ta 0 tc] 26) (.cells #[.int .u8 1, .bool ng', .slice A' n' c', .string { data := #[] }, .int .i64 0, .slice ia' 0 ic', .slice ta' 0 tc'] 26) 26 #[.int .u8 0, .bool false, .slice none 0 0, .string { data := #[] }, .int .i64 0, .slice none 0 0, .slice none 0 0])
  have HK0 := hide ((((Keeps.refl NoB w).alloc (.cells #[.int .u8 1, .bool ng, .slice A n c, .string { data := #[] }, .int .i64 0, .slice ia 0 ic, .slice ta 0 tc] 26)).alloc (.cells #[.int .u8 1, .bool ng', .slice A' n' c', .string { data := #[] }, .int .i64 0, .slice ia' 0 ic', .slice ta' 0 tc'] 26)).alloc (.cells #[.int .u8 0, .bool false, .slice none 0 0, .string { data := #[] }, .int .i64 0, .slice none 0 0, .slice none 0 0] 26))
  have HR1 := hide True.intro
  go_wp2_with first | (clear HR1; go_at_call 24; refine ((HI.out.keep HK0.out).right _ _ _ _).mono ?_; rintro e w1 ⟨rfl, hk1⟩; have HK1 := hide (HK0.out.trans' hk1 (fun _ _ => id) (fun _ _ => id)); have HX1 := hide (HX0.out.keep hk1 id); have HY1 := hide (HY0.out.keep hk1 id); have HZ1 := hide (HZ0.out.keep hk1 id); clear hk1 HX0 HY0 HZ0 HK0; have y0 : w1.cell? ⟨w.heap.size + 1, 0, none⟩ = some (.int .u8 1) := HY1.out.cell 0; have y1 : w1.cell? ⟨w.heap.size + 1, 1, none⟩ = some (.bool ng') := HY1.out.cell 1; have y2 : w1.cell? ⟨w.heap.size + 1, 2, none⟩ = some (.slice A' n' c') := HY1.out.cell 2; have y3 : w1.cell? ⟨w.heap.size + 1, 3, none⟩ = some (.string { data := #[] }) := HY1.out.cell 3; have y4 : w1.cell? ⟨w.heap.size + 1, 4, none⟩ = some (.int .i64 0) := HY1.out.cell 4; have y5 : w1.cell? ⟨w.heap.size + 1, 5, none⟩ = some (.slice ia' 0 ic') := HY1.out.cell 5; have y6 : w1.cell? ⟨w.heap.size + 1, 6, none⟩ = some (.slice ta' 0 tc') := HY1.out.cell 6) | (go_at_call 24; refine ((HI'.out.keep HK1.out).right _ _ _ _).mono ?_; rintro e w2 ⟨rfl, hk2⟩; have HK2 := hide (HK1.out.trans' hk2 (fun _ _ => id) (fun _ _ => id)); have HX2 := hide (HX1.out.keep hk2 id); have HY2 := hide (HY1.out.keep hk2 id); have HZ2 := hide (HZ1.out.keep hk2 id); clear hk2 HX1 HY1 HZ1 HK1 y0 y1 y2 y3 y4 y5 y6; have x1 : w2.cell? ⟨w.heap.size, 1, none⟩ = some (.bool ng) := HX2.out.cell 1; have y1 : w2.cell? ⟨w.heap.size + 1, 1, none⟩ = some (.bool ng') := HY2.out.cell 1; have x2 : w2.cell? ⟨w.heap.size, 2, none⟩ = some (.slice A n c) := HX2.out.cell 2; have y2 : w2.cell? ⟨w.heap.size + 1, 2, none⟩ = some (.slice A' n' c') := HY2.out.cell 2) | fail | fail
  refine order_begin (fun W => Keeps NoB w2.drew W) (fun k => k != 10) (by kernel_rfl) 12 rfl ?_
  have HX := hide (HX2.out.drew); have HY := hide (HY2.out.drew); have HZ := hide (HZ2.out.drew); have HK := hide (HK2.out.drew)
  clear HX2 HY2 HZ2 HK2 x1 y1 x2 y2
  generalize w2.drew = W0 at *
  have HS : Keeps NoB W0 W0 := Keeps.refl _ _
  refine order_pure (i := 0) rfl (by kernel_rfl) (fun _ _ _ h => h) (.inl ⟨rfl, fun _ => by go_simp; rfl⟩) ?_
  try simp only [Act.put, List.setIfInBounds_toArray, List.set_cons_succ, List.set_cons_zero]
  refine order_pure (i := 2) rfl (by kernel_rfl) (fun _ _ _ h => h) (.inl ⟨rfl, fun _ => by go_simp; rfl⟩) ?_
  try simp only [Act.put, List.setIfInBounds_toArray, List.set_cons_succ, List.set_cons_zero]
  refine order_pure (i := 5) rfl (by kernel_rfl) (fun _ _ _ h => h) (.inl ⟨rfl, fun _ => by go_simp; rfl⟩) ?_
  try simp only [Act.put, List.setIfInBounds_toArray, List.set_cons_succ, List.set_cons_zero]
  refine order_held (i := 1) rfl (by kernel_rfl) (fun _ _ _ h => h) (.inl ⟨rfl, fun W hW => by
    have q0 : W.cell? ⟨w.heap.size, 2, none⟩ = some (.slice A n c) := hW.cell id (HX.out.cell 2)
    go_simp; rfl⟩) HS ?_
  try simp only [Act.put, List.setIfInBounds_toArray, List.set_cons_succ, List.set_cons_zero]
  refine order_held (i := 3) rfl (by kernel_rfl) (fun _ _ _ h => h) (.inl ⟨rfl, fun W hW => by
    have q0 : W.cell? ⟨w.heap.size + 1, 2, none⟩ = some (.slice A' n' c') := hW.cell id (HY.out.cell 2)
    go_simp; rfl⟩) HS ?_
  try simp only [Act.put, List.setIfInBounds_toArray, List.set_cons_succ, List.set_cons_zero]
  refine order_held (i := 6) rfl (by kernel_rfl) (fun _ _ _ h => h) (.inl ⟨rfl, fun W hW => by
    have q0 : W.cell? ⟨w.heap.size, 1, none⟩ = some (.bool ng) := hW.cell id (HX.out.cell 1)
    go_simp; rfl⟩) HS ?_
  try simp only [Act.put, List.setIfInBounds_toArray, List.set_cons_succ, List.set_cons_zero]
  refine order_one (i := 4) rfl (by kernel_rfl) (fun K hK => ?_)
  go_simp
  refine (sum_any A A' n c n' c' _ _ W0 _ _ (HI.out.keep HK.out).limbs (HI'.out.keep HK.out).limbs hn hn').mono ?_
  rintro e w5 ⟨A5, n5, c5, l, rfl, hl5, hv5, hk5⟩
  refine hK _ _ (fun _ hS => hS.trans' hk5 (fun _ _ => id) (fun _ _ => id)) ?_
  clear hK
  try simp only [Act.put, List.setIfInBounds_toArray, List.set_cons_succ, List.set_cons_zero]
  rw [HN.out.1, HN.out.2] at hv5
  have HL5 := hide hl5; have HV5 := hide hv5
  have HZ5 := hide (HZ.out.keep hk5 id); have HK5 := hide (HK.out.trans' hk5 (fun _ _ h => h) (fun _ _ h => h))
  clear hl5 hv5 hk5 HX HY HZ HK
  refine order_one (i := 7) rfl (by kernel_rfl) (fun K hK => ?_)
  go_simp
  refine (made_any A5 n5 c5 ng l (x + y) w5 _ HL5.out (by rw [HV5.out]; exact HZS.out)).mono ?_
  rintro e w6 ⟨kd, ng, A, n, c, ok, rfl, hr, hk6⟩
  refine hK _ _ (fun _ hS => hS.trans' (Keeps.trans' (Keeps.refl NoB w5) hk6 (fun _ _ h => h) (fun _ _ h => h)) (fun _ _ => id) (fun _ _ => id)) ?_
  clear hK
  try simp only [Act.put, List.setIfInBounds_toArray, List.set_cons_succ, List.set_cons_zero]
  have HB6 := hide (HZ5.out.keep hk6 id)
  have HA6 := hide hr
  have HK6 := hide (HK5.out.trans' hk6 (fun _ _ h => h) (fun _ _ h => h))
  have hsz := HZ5.out.lt
  clear hr hk6 HZ5 HK5 HS
  refine order_pure (i := 8) rfl (by kernel_rfl) (fun _ _ _ h => h) (.inl ⟨rfl, fun _ => by go_simp; rfl⟩) ?_
  try simp only [Act.put, List.setIfInBounds_toArray, List.set_cons_succ, List.set_cons_zero]
  refine order_pure (i := 9) rfl (by kernel_rfl) (fun _ _ _ h => h) (.inl ⟨rfl, fun _ => by go_simp; rfl⟩) ?_
  try simp only [Act.put, List.setIfInBounds_toArray, List.set_cons_succ, List.set_cons_zero]
  have z0 : w6.cell? ⟨w.heap.size + 1 + 1, 0, none⟩ = some (.int .u8 0) := HB6.out.cell 0; have z1 : w6.cell? ⟨w.heap.size + 1 + 1, 1, none⟩ = some (.bool false) := HB6.out.cell 1; have z2 : w6.cell? ⟨w.heap.size + 1 + 1, 2, none⟩ = some (.slice none 0 0) := HB6.out.cell 2; have z3 : w6.cell? ⟨w.heap.size + 1 + 1, 3, none⟩ = some (.string { data := #[] }) := HB6.out.cell 3; have z4 : w6.cell? ⟨w.heap.size + 1 + 1, 4, none⟩ = some (.int .i64 0) := HB6.out.cell 4; have z5 : w6.cell? ⟨w.heap.size + 1 + 1, 5, none⟩ = some (.slice none 0 0) := HB6.out.cell 5; have z6 : w6.cell? ⟨w.heap.size + 1 + 1, 6, none⟩ = some (.slice none 0 0) := HB6.out.cell 6
  have f0 : w6.frozen? ⟨w.heap.size + 1 + 1, 0, none⟩ = false := HB6.out.free 0; have f1 : w6.frozen? ⟨w.heap.size + 1 + 1, 1, none⟩ = false := HB6.out.free 1; have f2 : w6.frozen? ⟨w.heap.size + 1 + 1, 2, none⟩ = false := HB6.out.free 2; have f3 : w6.frozen? ⟨w.heap.size + 1 + 1, 3, none⟩ = false := HB6.out.free 3; have f4 : w6.frozen? ⟨w.heap.size + 1 + 1, 4, none⟩ = false := HB6.out.free 4; have f5 : w6.frozen? ⟨w.heap.size + 1 + 1, 5, none⟩ = false := HB6.out.free 5; have f6 : w6.frozen? ⟨w.heap.size + 1 + 1, 6, none⟩ = false := HB6.out.free 6
  refine order_one (i := 10) rfl (by kernel_rfl) (fun K hK => ?_)
  go_simp
  refine hK _ _ (fun h => by cases h) ?_
  clear hK
  try simp only [Act.put, List.setIfInBounds_toArray, List.set_cons_succ, List.set_cons_zero]
  refine order_pure (i := 11) rfl (by kernel_rfl) (fun _ _ _ h => h) (.inl ⟨rfl, fun _ => by go_simp; rfl⟩) ?_
  try simp only [Act.put, List.setIfInBounds_toArray, List.set_cons_succ, List.set_cons_zero]
  refine order_done (by kernel_rfl) ?_
  go_wp2
  have HBf := hide (HB6.out.put7 (.int .u8 kd) (.bool ng) (.slice A n c) (.string { data := #[] }) (.int .i64 0) (.slice none 0 0) (.slice none 0 0))
  have HKf := hide (HK6.out.set7 (g := w.heap.size + 1 + 1) (by omega) (.int .u8 kd) (.bool ng) (.slice A n c) (.string { data := #[] }) (.int .i64 0) (.slice none 0 0) (.slice none 0 0))
  have HAf := hide ((HA6.out.far (Keeps.set7' (g := w.heap.size + 1 + 1) (.int .u8 kd) (.bool ng) (.slice A n c) (.string { data := #[] }) (.int .i64 0) (.slice none 0 0) (.slice none 0 0)) (fun k hk e => by first | omega | (simp at hk; omega))).more (B' := fun k => w.heap.size ≤ k) (fun k _ hk => by first | omega | (simp at hk; omega)))
  clear z0 z1 z2 z3 z4 z5 z6 f0 f1 f2 f3 f4 f5 f6 HB6 HK6 HA6
  generalize (((((((w6.setCell ⟨w.heap.size + 1 + 1, 0, none⟩ (.int .u8 kd)).setCell ⟨w.heap.size + 1 + 1, 1, none⟩ (.bool ng)).setCell ⟨w.heap.size + 1 + 1, 2, none⟩ (.slice A n c)).setCell ⟨w.heap.size + 1 + 1, 3, none⟩ (.string { data := #[] })).setCell ⟨w.heap.size + 1 + 1, 4, none⟩ (.int .i64 0)).setCell ⟨w.heap.size + 1 + 1, 5, none⟩ (.slice none 0 0)).setCell ⟨w.heap.size + 1 + 1, 6, none⟩ (.slice none 0 0)) = wf at *
  have d0 : wf.cell? ⟨w.heap.size + 1 + 1, 0, none⟩ = some (.int .u8 kd) := HBf.out.cell 0
  have d1 : wf.cell? ⟨w.heap.size + 1 + 1, 1, none⟩ = some (.bool ng) := HBf.out.cell 1
  have d2 : wf.cell? ⟨w.heap.size + 1 + 1, 2, none⟩ = some (.slice A n c) := HBf.out.cell 2
  have d3 : wf.cell? ⟨w.heap.size + 1 + 1, 3, none⟩ = some (.string { data := #[] }) := HBf.out.cell 3
  have d4 : wf.cell? ⟨w.heap.size + 1 + 1, 4, none⟩ = some (.int .i64 0) := HBf.out.cell 4
  have d5 : wf.cell? ⟨w.heap.size + 1 + 1, 5, none⟩ = some (.slice none 0 0) := HBf.out.cell 5
  have d6 : wf.cell? ⟨w.heap.size + 1 + 1, 6, none⟩ = some (.slice none 0 0) := HBf.out.cell 6
  refine bodyPost_ret (v := .tuple #[.agg #[.int .u8 kd, .bool ng, .slice A n c, .string { data := #[] }, .int .i64 0, .slice none 0 0, .slice none 0 0], .bool ok]) (by simp [results, Try.results25, go_sem, d0, d1, d2, d3, d4, d5, d6]) rfl ?_
  exact ⟨kd, ng, A, n, c, ok, rfl, HAf.out, HKf.out⟩
set_option maxHeartbeats 4000000 in
set_option maxRecDepth 100000 in
theorem add_below (ng ng' : Bool) (A A' ia ta ia' ta' : Option Addr) (n c n' c' ic tc ic' tc' : Nat) (x y : Int) (w : World) (B B' : Nat → Prop) (h : IA w B ng A n c x) (h' : IA w B' ng' A' n' c' y) (hg : ¬ ng = ng') (hl : x.natAbs < y.natAbs) :
    Calls Try.prog 25 #[.agg #[.int .u8 1, .bool ng, .slice A n c, .string { data := #[] }, .int .i64 0, .slice ia 0 ic, .slice ta 0 tc], .agg #[.int .u8 1, .bool ng', .slice A' n' c', .string { data := #[] }, .int .i64 0, .slice ia' 0 ic', .slice ta' 0 tc']] w (AnyP w (x + y)) := by
  have hn := h.len; have hn' := h'.len
  have hsg := h.sign; have hsg' := h'.sign
  have HI := hide h; have HI' := hide h'
  have HN := hide (And.intro (nat_dig x.natAbs) (nat_dig y.natAbs))
  clear h h'
  have HZS := hide (show sgn ng' (y.natAbs - x.natAbs) = x + y from by rw [Int.add_comm]; exact add_less hsg' hsg (fun e => hg e.symm) (Nat.le_of_lt hl))
  have hb : (ng == ng') = false := by simp [hg]
  have HLT := hide hl
  clear hg hl
  clear hsg hsg'
  go_enter Try.func25, Try.ntmps25
  have HX0 := hide (((Blk.new w 26 #[.int .u8 1, .bool ng, .slice A n c, .string { data := #[] }, .int .i64 0, .slice ia 0 ic, .slice ta 0 tc]).alloc (.cells #[.int .u8 1, .bool ng', .slice A' n' c', .string { data := #[] }, .int .i64 0, .slice ia' 0 ic', .slice ta' 0 tc'] 26)).alloc (.cells #[.int .u8 0, .bool false, .slice none 0 0, .string { data := #[] }, .int .i64 0, .slice none 0 0, .slice none 0 0] 26))
  have HY0 := hide ((Blk.new2' w (.cells #[.int .u8 1, .bool ng, .slice A n c, .string { data := #[] }, .int .i64 0, .slice ia 0 ic, .slice ta 0 tc] 26) 26 #[.int .u8 1, .bool ng', .slice A' n' c', .string { data := #[] }, .int .i64 0, .slice ia' 0 ic', .slice ta' 0 tc']).alloc (.cells #[.int .u8 0, .bool false, .slice none 0 0, .string { data := #[] }, .int .i64 0, .slice none 0 0, .slice none 0 0] 26))
  have HZ0 := hide (Blk.new3' w (.cells #[.int .u8 1, .bool ng, .slice A n c, .string { data := #[] }, .int .i64 0, .slice ia 0 ic, .slice ta 0 tc] 26) (.cells #[.int .u8 1, .bool ng', .slice A' n' c', .string { data := #[] }, .int .i64 0, .slice ia' 0 ic', .slice ta' 0 tc'] 26) 26 #[.int .u8 0, .bool false, .slice none 0 0, .string { data := #[] }, .int .i64 0, .slice none 0 0, .slice none 0 0])
  have HK0 := hide ((((Keeps.refl NoB w).alloc (.cells #[.int .u8 1, .bool ng, .slice A n c, .string { data := #[] }, .int .i64 0, .slice ia 0 ic, .slice ta 0 tc] 26)).alloc (.cells #[.int .u8 1, .bool ng', .slice A' n' c', .string { data := #[] }, .int .i64 0, .slice ia' 0 ic', .slice ta' 0 tc'] 26)).alloc (.cells #[.int .u8 0, .bool false, .slice none 0 0, .string { data := #[] }, .int .i64 0, .slice none 0 0, .slice none 0 0] 26))
  have HR1 := hide True.intro
  go_wp2_with first | (clear HR1; go_at_call 24; refine ((HI.out.keep HK0.out).right _ _ _ _).mono ?_; rintro e w1 ⟨rfl, hk1⟩; have HK1 := hide (HK0.out.trans' hk1 (fun _ _ => id) (fun _ _ => id)); have HX1 := hide (HX0.out.keep hk1 id); have HY1 := hide (HY0.out.keep hk1 id); have HZ1 := hide (HZ0.out.keep hk1 id); clear hk1 HX0 HY0 HZ0 HK0; have y0 : w1.cell? ⟨w.heap.size + 1, 0, none⟩ = some (.int .u8 1) := HY1.out.cell 0; have y1 : w1.cell? ⟨w.heap.size + 1, 1, none⟩ = some (.bool ng') := HY1.out.cell 1; have y2 : w1.cell? ⟨w.heap.size + 1, 2, none⟩ = some (.slice A' n' c') := HY1.out.cell 2; have y3 : w1.cell? ⟨w.heap.size + 1, 3, none⟩ = some (.string { data := #[] }) := HY1.out.cell 3; have y4 : w1.cell? ⟨w.heap.size + 1, 4, none⟩ = some (.int .i64 0) := HY1.out.cell 4; have y5 : w1.cell? ⟨w.heap.size + 1, 5, none⟩ = some (.slice ia' 0 ic') := HY1.out.cell 5; have y6 : w1.cell? ⟨w.heap.size + 1, 6, none⟩ = some (.slice ta' 0 tc') := HY1.out.cell 6) | (go_at_call 24; refine ((HI'.out.keep HK1.out).right _ _ _ _).mono ?_; rintro e w2 ⟨rfl, hk2⟩; have HK2 := hide (HK1.out.trans' hk2 (fun _ _ => id) (fun _ _ => id)); have HX2 := hide (HX1.out.keep hk2 id); have HY2 := hide (HY1.out.keep hk2 id); have HZ2 := hide (HZ1.out.keep hk2 id); clear hk2 HX1 HY1 HZ1 HK1 y0 y1 y2 y3 y4 y5 y6; have x1 : w2.cell? ⟨w.heap.size, 1, none⟩ = some (.bool ng) := HX2.out.cell 1; have y1 : w2.cell? ⟨w.heap.size + 1, 1, none⟩ = some (.bool ng') := HY2.out.cell 1; have x2 : w2.cell? ⟨w.heap.size, 2, none⟩ = some (.slice A n c) := HX2.out.cell 2; have y2 : w2.cell? ⟨w.heap.size + 1, 2, none⟩ = some (.slice A' n' c') := HY2.out.cell 2) | (go_at_call 39; refine (amounts_any _ _ _ _ _ _ _ _ _ _ _ ((HI.out.keep HK2.out).limbs) ((HI'.out.keep HK2.out).limbs)).mono ?_; rintro e w3 ⟨r, rfl, hr1, hr2, hr3, hr4, hk3⟩; have hr0 : decide (r < 0) = true := decide_eq_true (hr3.2 HLT.out); have HK3 := hide (HK2.out.trans' hk3 (fun _ _ => id) (fun _ _ => id)); have HX3 := hide (HX2.out.keep hk3 id); have HY3 := hide (HY2.out.keep hk3 id); have HZ3 := hide (HZ2.out.keep hk3 id); clear hr1 hr2 hr3 hr4 hk3 HX2 HY2 HZ2 HK2 x1 y1 x2 y2) | fail
  refine order_begin (fun W => Keeps NoB w3.drew W) (fun k => k != 10) (by kernel_rfl) 12 rfl ?_
  have HX := hide (HX3.out.drew); have HY := hide (HY3.out.drew); have HZ := hide (HZ3.out.drew); have HK := hide (HK3.out.drew)
  clear HX3 HY3 HZ3 HK3 hr0
  generalize w3.drew = W0 at *
  have HS : Keeps NoB W0 W0 := Keeps.refl _ _
  refine order_pure (i := 0) rfl (by kernel_rfl) (fun _ _ _ h => h) (.inl ⟨rfl, fun _ => by go_simp; rfl⟩) ?_
  try simp only [Act.put, List.setIfInBounds_toArray, List.set_cons_succ, List.set_cons_zero]
  refine order_pure (i := 2) rfl (by kernel_rfl) (fun _ _ _ h => h) (.inl ⟨rfl, fun _ => by go_simp; rfl⟩) ?_
  try simp only [Act.put, List.setIfInBounds_toArray, List.set_cons_succ, List.set_cons_zero]
  refine order_pure (i := 5) rfl (by kernel_rfl) (fun _ _ _ h => h) (.inl ⟨rfl, fun _ => by go_simp; rfl⟩) ?_
  try simp only [Act.put, List.setIfInBounds_toArray, List.set_cons_succ, List.set_cons_zero]
  refine order_held (i := 1) rfl (by kernel_rfl) (fun _ _ _ h => h) (.inl ⟨rfl, fun W hW => by
    have q0 : W.cell? ⟨w.heap.size + 1, 2, none⟩ = some (.slice A' n' c') := hW.cell id (HY.out.cell 2)
    go_simp; rfl⟩) HS ?_
  try simp only [Act.put, List.setIfInBounds_toArray, List.set_cons_succ, List.set_cons_zero]
  refine order_held (i := 3) rfl (by kernel_rfl) (fun _ _ _ h => h) (.inl ⟨rfl, fun W hW => by
    have q0 : W.cell? ⟨w.heap.size, 2, none⟩ = some (.slice A n c) := hW.cell id (HX.out.cell 2)
    go_simp; rfl⟩) HS ?_
  try simp only [Act.put, List.setIfInBounds_toArray, List.set_cons_succ, List.set_cons_zero]
  refine order_held (i := 6) rfl (by kernel_rfl) (fun _ _ _ h => h) (.inl ⟨rfl, fun W hW => by
    have q0 : W.cell? ⟨w.heap.size + 1, 1, none⟩ = some (.bool ng') := hW.cell id (HY.out.cell 1)
    go_simp; rfl⟩) HS ?_
  try simp only [Act.put, List.setIfInBounds_toArray, List.set_cons_succ, List.set_cons_zero]
  refine order_one (i := 4) rfl (by kernel_rfl) (fun K hK => ?_)
  go_simp
  refine (less_any A' A n' c' n c _ _ W0 _ _ (HI'.out.keep HK.out).limbs (HI.out.keep HK.out).limbs hn' hn (by rw [HN.out.1, HN.out.2]; exact Nat.le_of_lt HLT.out)).mono ?_
  rintro e w5 ⟨A5, n5, c5, l, rfl, hl5, hv5, hk5⟩
  refine hK _ _ (fun _ hS => hS.trans' hk5 (fun _ _ => id) (fun _ _ => id)) ?_
  clear hK
  try simp only [Act.put, List.setIfInBounds_toArray, List.set_cons_succ, List.set_cons_zero]
  rw [HN.out.1, HN.out.2] at hv5
  have HL5 := hide hl5; have HV5 := hide hv5
  have HZ5 := hide (HZ.out.keep hk5 id); have HK5 := hide (HK.out.trans' hk5 (fun _ _ h => h) (fun _ _ h => h))
  clear hl5 hv5 hk5 HX HY HZ HK
  refine order_one (i := 7) rfl (by kernel_rfl) (fun K hK => ?_)
  go_simp
  refine (made_any A5 n5 c5 ng' l (x + y) w5 _ HL5.out (by rw [HV5.out]; exact HZS.out)).mono ?_
  rintro e w6 ⟨kd, ng, A, n, c, ok, rfl, hr, hk6⟩
  refine hK _ _ (fun _ hS => hS.trans' (Keeps.trans' (Keeps.refl NoB w5) hk6 (fun _ _ h => h) (fun _ _ h => h)) (fun _ _ => id) (fun _ _ => id)) ?_
  clear hK
  try simp only [Act.put, List.setIfInBounds_toArray, List.set_cons_succ, List.set_cons_zero]
  have HB6 := hide (HZ5.out.keep hk6 id)
  have HA6 := hide hr
  have HK6 := hide (HK5.out.trans' hk6 (fun _ _ h => h) (fun _ _ h => h))
  have hsz := HZ5.out.lt
  clear hr hk6 HZ5 HK5 HS
  refine order_pure (i := 8) rfl (by kernel_rfl) (fun _ _ _ h => h) (.inl ⟨rfl, fun _ => by go_simp; rfl⟩) ?_
  try simp only [Act.put, List.setIfInBounds_toArray, List.set_cons_succ, List.set_cons_zero]
  refine order_pure (i := 9) rfl (by kernel_rfl) (fun _ _ _ h => h) (.inl ⟨rfl, fun _ => by go_simp; rfl⟩) ?_
  try simp only [Act.put, List.setIfInBounds_toArray, List.set_cons_succ, List.set_cons_zero]
  have z0 : w6.cell? ⟨w.heap.size + 1 + 1, 0, none⟩ = some (.int .u8 0) := HB6.out.cell 0; have z1 : w6.cell? ⟨w.heap.size + 1 + 1, 1, none⟩ = some (.bool false) := HB6.out.cell 1; have z2 : w6.cell? ⟨w.heap.size + 1 + 1, 2, none⟩ = some (.slice none 0 0) := HB6.out.cell 2; have z3 : w6.cell? ⟨w.heap.size + 1 + 1, 3, none⟩ = some (.string { data := #[] }) := HB6.out.cell 3; have z4 : w6.cell? ⟨w.heap.size + 1 + 1, 4, none⟩ = some (.int .i64 0) := HB6.out.cell 4; have z5 : w6.cell? ⟨w.heap.size + 1 + 1, 5, none⟩ = some (.slice none 0 0) := HB6.out.cell 5; have z6 : w6.cell? ⟨w.heap.size + 1 + 1, 6, none⟩ = some (.slice none 0 0) := HB6.out.cell 6
  have f0 : w6.frozen? ⟨w.heap.size + 1 + 1, 0, none⟩ = false := HB6.out.free 0; have f1 : w6.frozen? ⟨w.heap.size + 1 + 1, 1, none⟩ = false := HB6.out.free 1; have f2 : w6.frozen? ⟨w.heap.size + 1 + 1, 2, none⟩ = false := HB6.out.free 2; have f3 : w6.frozen? ⟨w.heap.size + 1 + 1, 3, none⟩ = false := HB6.out.free 3; have f4 : w6.frozen? ⟨w.heap.size + 1 + 1, 4, none⟩ = false := HB6.out.free 4; have f5 : w6.frozen? ⟨w.heap.size + 1 + 1, 5, none⟩ = false := HB6.out.free 5; have f6 : w6.frozen? ⟨w.heap.size + 1 + 1, 6, none⟩ = false := HB6.out.free 6
  refine order_one (i := 10) rfl (by kernel_rfl) (fun K hK => ?_)
  go_simp
  refine hK _ _ (fun h => by cases h) ?_
  clear hK
  try simp only [Act.put, List.setIfInBounds_toArray, List.set_cons_succ, List.set_cons_zero]
  refine order_pure (i := 11) rfl (by kernel_rfl) (fun _ _ _ h => h) (.inl ⟨rfl, fun _ => by go_simp; rfl⟩) ?_
  try simp only [Act.put, List.setIfInBounds_toArray, List.set_cons_succ, List.set_cons_zero]
  refine order_done (by kernel_rfl) ?_
  go_wp2
  have HBf := hide (HB6.out.put7 (.int .u8 kd) (.bool ng) (.slice A n c) (.string { data := #[] }) (.int .i64 0) (.slice none 0 0) (.slice none 0 0))
  have HKf := hide (HK6.out.set7 (g := w.heap.size + 1 + 1) (by omega) (.int .u8 kd) (.bool ng) (.slice A n c) (.string { data := #[] }) (.int .i64 0) (.slice none 0 0) (.slice none 0 0))
  have HAf := hide ((HA6.out.far (Keeps.set7' (g := w.heap.size + 1 + 1) (.int .u8 kd) (.bool ng) (.slice A n c) (.string { data := #[] }) (.int .i64 0) (.slice none 0 0) (.slice none 0 0)) (fun k hk e => by first | omega | (simp at hk; omega))).more (B' := fun k => w.heap.size ≤ k) (fun k _ hk => by first | omega | (simp at hk; omega)))
  clear z0 z1 z2 z3 z4 z5 z6 f0 f1 f2 f3 f4 f5 f6 HB6 HK6 HA6
  generalize (((((((w6.setCell ⟨w.heap.size + 1 + 1, 0, none⟩ (.int .u8 kd)).setCell ⟨w.heap.size + 1 + 1, 1, none⟩ (.bool ng)).setCell ⟨w.heap.size + 1 + 1, 2, none⟩ (.slice A n c)).setCell ⟨w.heap.size + 1 + 1, 3, none⟩ (.string { data := #[] })).setCell ⟨w.heap.size + 1 + 1, 4, none⟩ (.int .i64 0)).setCell ⟨w.heap.size + 1 + 1, 5, none⟩ (.slice none 0 0)).setCell ⟨w.heap.size + 1 + 1, 6, none⟩ (.slice none 0 0)) = wf at *
  have d0 : wf.cell? ⟨w.heap.size + 1 + 1, 0, none⟩ = some (.int .u8 kd) := HBf.out.cell 0
  have d1 : wf.cell? ⟨w.heap.size + 1 + 1, 1, none⟩ = some (.bool ng) := HBf.out.cell 1
  have d2 : wf.cell? ⟨w.heap.size + 1 + 1, 2, none⟩ = some (.slice A n c) := HBf.out.cell 2
  have d3 : wf.cell? ⟨w.heap.size + 1 + 1, 3, none⟩ = some (.string { data := #[] }) := HBf.out.cell 3
  have d4 : wf.cell? ⟨w.heap.size + 1 + 1, 4, none⟩ = some (.int .i64 0) := HBf.out.cell 4
  have d5 : wf.cell? ⟨w.heap.size + 1 + 1, 5, none⟩ = some (.slice none 0 0) := HBf.out.cell 5
  have d6 : wf.cell? ⟨w.heap.size + 1 + 1, 6, none⟩ = some (.slice none 0 0) := HBf.out.cell 6
  refine bodyPost_ret (v := .tuple #[.agg #[.int .u8 kd, .bool ng, .slice A n c, .string { data := #[] }, .int .i64 0, .slice none 0 0, .slice none 0 0], .bool ok]) (by simp [results, Try.results25, go_sem, d0, d1, d2, d3, d4, d5, d6]) rfl ?_
  exact ⟨kd, ng, A, n, c, ok, rfl, HAf.out, HKf.out⟩
set_option maxHeartbeats 4000000 in
set_option maxRecDepth 100000 in
theorem add_above (ng ng' : Bool) (A A' ia ta ia' ta' : Option Addr) (n c n' c' ic tc ic' tc' : Nat) (x y : Int) (w : World) (B B' : Nat → Prop) (h : IA w B ng A n c x) (h' : IA w B' ng' A' n' c' y) (hg : ¬ ng = ng') (hl : y.natAbs ≤ x.natAbs) :
    Calls Try.prog 25 #[.agg #[.int .u8 1, .bool ng, .slice A n c, .string { data := #[] }, .int .i64 0, .slice ia 0 ic, .slice ta 0 tc], .agg #[.int .u8 1, .bool ng', .slice A' n' c', .string { data := #[] }, .int .i64 0, .slice ia' 0 ic', .slice ta' 0 tc']] w (AnyP w (x + y)) := by
  have hn := h.len; have hn' := h'.len
  have hsg := h.sign; have hsg' := h'.sign
  have HI := hide h; have HI' := hide h'
  have HN := hide (And.intro (nat_dig x.natAbs) (nat_dig y.natAbs))
  clear h h'
  have HZS := hide (add_less hsg hsg' hg hl)
  have hb : (ng == ng') = false := by simp [hg]
  have HLT := hide hl
  clear hg hl
  clear hsg hsg'
  go_enter Try.func25, Try.ntmps25
  have HX0 := hide (((Blk.new w 26 #[.int .u8 1, .bool ng, .slice A n c, .string { data := #[] }, .int .i64 0, .slice ia 0 ic, .slice ta 0 tc]).alloc (.cells #[.int .u8 1, .bool ng', .slice A' n' c', .string { data := #[] }, .int .i64 0, .slice ia' 0 ic', .slice ta' 0 tc'] 26)).alloc (.cells #[.int .u8 0, .bool false, .slice none 0 0, .string { data := #[] }, .int .i64 0, .slice none 0 0, .slice none 0 0] 26))
  have HY0 := hide ((Blk.new2' w (.cells #[.int .u8 1, .bool ng, .slice A n c, .string { data := #[] }, .int .i64 0, .slice ia 0 ic, .slice ta 0 tc] 26) 26 #[.int .u8 1, .bool ng', .slice A' n' c', .string { data := #[] }, .int .i64 0, .slice ia' 0 ic', .slice ta' 0 tc']).alloc (.cells #[.int .u8 0, .bool false, .slice none 0 0, .string { data := #[] }, .int .i64 0, .slice none 0 0, .slice none 0 0] 26))
  have HZ0 := hide (Blk.new3' w (.cells #[.int .u8 1, .bool ng, .slice A n c, .string { data := #[] }, .int .i64 0, .slice ia 0 ic, .slice ta 0 tc] 26) (.cells #[.int .u8 1, .bool ng', .slice A' n' c', .string { data := #[] }, .int .i64 0, .slice ia' 0 ic', .slice ta' 0 tc'] 26) 26 #[.int .u8 0, .bool false, .slice none 0 0, .string { data := #[] }, .int .i64 0, .slice none 0 0, .slice none 0 0])
  have HK0 := hide ((((Keeps.refl NoB w).alloc (.cells #[.int .u8 1, .bool ng, .slice A n c, .string { data := #[] }, .int .i64 0, .slice ia 0 ic, .slice ta 0 tc] 26)).alloc (.cells #[.int .u8 1, .bool ng', .slice A' n' c', .string { data := #[] }, .int .i64 0, .slice ia' 0 ic', .slice ta' 0 tc'] 26)).alloc (.cells #[.int .u8 0, .bool false, .slice none 0 0, .string { data := #[] }, .int .i64 0, .slice none 0 0, .slice none 0 0] 26))
  have HR1 := hide True.intro
  go_wp2_with first | (clear HR1; go_at_call 24; refine ((HI.out.keep HK0.out).right _ _ _ _).mono ?_; rintro e w1 ⟨rfl, hk1⟩; have HK1 := hide (HK0.out.trans' hk1 (fun _ _ => id) (fun _ _ => id)); have HX1 := hide (HX0.out.keep hk1 id); have HY1 := hide (HY0.out.keep hk1 id); have HZ1 := hide (HZ0.out.keep hk1 id); clear hk1 HX0 HY0 HZ0 HK0; have y0 : w1.cell? ⟨w.heap.size + 1, 0, none⟩ = some (.int .u8 1) := HY1.out.cell 0; have y1 : w1.cell? ⟨w.heap.size + 1, 1, none⟩ = some (.bool ng') := HY1.out.cell 1; have y2 : w1.cell? ⟨w.heap.size + 1, 2, none⟩ = some (.slice A' n' c') := HY1.out.cell 2; have y3 : w1.cell? ⟨w.heap.size + 1, 3, none⟩ = some (.string { data := #[] }) := HY1.out.cell 3; have y4 : w1.cell? ⟨w.heap.size + 1, 4, none⟩ = some (.int .i64 0) := HY1.out.cell 4; have y5 : w1.cell? ⟨w.heap.size + 1, 5, none⟩ = some (.slice ia' 0 ic') := HY1.out.cell 5; have y6 : w1.cell? ⟨w.heap.size + 1, 6, none⟩ = some (.slice ta' 0 tc') := HY1.out.cell 6) | (go_at_call 24; refine ((HI'.out.keep HK1.out).right _ _ _ _).mono ?_; rintro e w2 ⟨rfl, hk2⟩; have HK2 := hide (HK1.out.trans' hk2 (fun _ _ => id) (fun _ _ => id)); have HX2 := hide (HX1.out.keep hk2 id); have HY2 := hide (HY1.out.keep hk2 id); have HZ2 := hide (HZ1.out.keep hk2 id); clear hk2 HX1 HY1 HZ1 HK1 y0 y1 y2 y3 y4 y5 y6; have x1 : w2.cell? ⟨w.heap.size, 1, none⟩ = some (.bool ng) := HX2.out.cell 1; have y1 : w2.cell? ⟨w.heap.size + 1, 1, none⟩ = some (.bool ng') := HY2.out.cell 1; have x2 : w2.cell? ⟨w.heap.size, 2, none⟩ = some (.slice A n c) := HX2.out.cell 2; have y2 : w2.cell? ⟨w.heap.size + 1, 2, none⟩ = some (.slice A' n' c') := HY2.out.cell 2) | (go_at_call 39; refine (amounts_any _ _ _ _ _ _ _ _ _ _ _ ((HI.out.keep HK2.out).limbs) ((HI'.out.keep HK2.out).limbs)).mono ?_; rintro e w3 ⟨r, rfl, hr1, hr2, hr3, hr4, hk3⟩; have hr0 : decide (r < 0) = false := decide_eq_false (fun e => absurd (hr3.1 e) (Nat.not_lt.2 HLT.out)); have HK3 := hide (HK2.out.trans' hk3 (fun _ _ => id) (fun _ _ => id)); have HX3 := hide (HX2.out.keep hk3 id); have HY3 := hide (HY2.out.keep hk3 id); have HZ3 := hide (HZ2.out.keep hk3 id); clear hr1 hr2 hr3 hr4 hk3 HX2 HY2 HZ2 HK2 x1 y1 x2 y2) | fail
  refine order_begin (fun W => Keeps NoB w3.drew W) (fun k => k != 10) (by kernel_rfl) 12 rfl ?_
  have HX := hide (HX3.out.drew); have HY := hide (HY3.out.drew); have HZ := hide (HZ3.out.drew); have HK := hide (HK3.out.drew)
  clear HX3 HY3 HZ3 HK3 hr0
  generalize w3.drew = W0 at *
  have HS : Keeps NoB W0 W0 := Keeps.refl _ _
  refine order_pure (i := 0) rfl (by kernel_rfl) (fun _ _ _ h => h) (.inl ⟨rfl, fun _ => by go_simp; rfl⟩) ?_
  try simp only [Act.put, List.setIfInBounds_toArray, List.set_cons_succ, List.set_cons_zero]
  refine order_pure (i := 2) rfl (by kernel_rfl) (fun _ _ _ h => h) (.inl ⟨rfl, fun _ => by go_simp; rfl⟩) ?_
  try simp only [Act.put, List.setIfInBounds_toArray, List.set_cons_succ, List.set_cons_zero]
  refine order_pure (i := 5) rfl (by kernel_rfl) (fun _ _ _ h => h) (.inl ⟨rfl, fun _ => by go_simp; rfl⟩) ?_
  try simp only [Act.put, List.setIfInBounds_toArray, List.set_cons_succ, List.set_cons_zero]
  refine order_held (i := 1) rfl (by kernel_rfl) (fun _ _ _ h => h) (.inl ⟨rfl, fun W hW => by
    have q0 : W.cell? ⟨w.heap.size, 2, none⟩ = some (.slice A n c) := hW.cell id (HX.out.cell 2)
    go_simp; rfl⟩) HS ?_
  try simp only [Act.put, List.setIfInBounds_toArray, List.set_cons_succ, List.set_cons_zero]
  refine order_held (i := 3) rfl (by kernel_rfl) (fun _ _ _ h => h) (.inl ⟨rfl, fun W hW => by
    have q0 : W.cell? ⟨w.heap.size + 1, 2, none⟩ = some (.slice A' n' c') := hW.cell id (HY.out.cell 2)
    go_simp; rfl⟩) HS ?_
  try simp only [Act.put, List.setIfInBounds_toArray, List.set_cons_succ, List.set_cons_zero]
  refine order_held (i := 6) rfl (by kernel_rfl) (fun _ _ _ h => h) (.inl ⟨rfl, fun W hW => by
    have q0 : W.cell? ⟨w.heap.size, 1, none⟩ = some (.bool ng) := hW.cell id (HX.out.cell 1)
    go_simp; rfl⟩) HS ?_
  try simp only [Act.put, List.setIfInBounds_toArray, List.set_cons_succ, List.set_cons_zero]
  refine order_one (i := 4) rfl (by kernel_rfl) (fun K hK => ?_)
  go_simp
  refine (less_any A A' n c n' c' _ _ W0 _ _ (HI.out.keep HK.out).limbs (HI'.out.keep HK.out).limbs hn hn' (by rw [HN.out.1, HN.out.2]; exact HLT.out)).mono ?_
  rintro e w5 ⟨A5, n5, c5, l, rfl, hl5, hv5, hk5⟩
  refine hK _ _ (fun _ hS => hS.trans' hk5 (fun _ _ => id) (fun _ _ => id)) ?_
  clear hK
  try simp only [Act.put, List.setIfInBounds_toArray, List.set_cons_succ, List.set_cons_zero]
  rw [HN.out.1, HN.out.2] at hv5
  have HL5 := hide hl5; have HV5 := hide hv5
  have HZ5 := hide (HZ.out.keep hk5 id); have HK5 := hide (HK.out.trans' hk5 (fun _ _ h => h) (fun _ _ h => h))
  clear hl5 hv5 hk5 HX HY HZ HK
  refine order_one (i := 7) rfl (by kernel_rfl) (fun K hK => ?_)
  go_simp
  refine (made_any A5 n5 c5 ng l (x + y) w5 _ HL5.out (by rw [HV5.out]; exact HZS.out)).mono ?_
  rintro e w6 ⟨kd, ng, A, n, c, ok, rfl, hr, hk6⟩
  refine hK _ _ (fun _ hS => hS.trans' (Keeps.trans' (Keeps.refl NoB w5) hk6 (fun _ _ h => h) (fun _ _ h => h)) (fun _ _ => id) (fun _ _ => id)) ?_
  clear hK
  try simp only [Act.put, List.setIfInBounds_toArray, List.set_cons_succ, List.set_cons_zero]
  have HB6 := hide (HZ5.out.keep hk6 id)
  have HA6 := hide hr
  have HK6 := hide (HK5.out.trans' hk6 (fun _ _ h => h) (fun _ _ h => h))
  have hsz := HZ5.out.lt
  clear hr hk6 HZ5 HK5 HS
  refine order_pure (i := 8) rfl (by kernel_rfl) (fun _ _ _ h => h) (.inl ⟨rfl, fun _ => by go_simp; rfl⟩) ?_
  try simp only [Act.put, List.setIfInBounds_toArray, List.set_cons_succ, List.set_cons_zero]
  refine order_pure (i := 9) rfl (by kernel_rfl) (fun _ _ _ h => h) (.inl ⟨rfl, fun _ => by go_simp; rfl⟩) ?_
  try simp only [Act.put, List.setIfInBounds_toArray, List.set_cons_succ, List.set_cons_zero]
  have z0 : w6.cell? ⟨w.heap.size + 1 + 1, 0, none⟩ = some (.int .u8 0) := HB6.out.cell 0; have z1 : w6.cell? ⟨w.heap.size + 1 + 1, 1, none⟩ = some (.bool false) := HB6.out.cell 1; have z2 : w6.cell? ⟨w.heap.size + 1 + 1, 2, none⟩ = some (.slice none 0 0) := HB6.out.cell 2; have z3 : w6.cell? ⟨w.heap.size + 1 + 1, 3, none⟩ = some (.string { data := #[] }) := HB6.out.cell 3; have z4 : w6.cell? ⟨w.heap.size + 1 + 1, 4, none⟩ = some (.int .i64 0) := HB6.out.cell 4; have z5 : w6.cell? ⟨w.heap.size + 1 + 1, 5, none⟩ = some (.slice none 0 0) := HB6.out.cell 5; have z6 : w6.cell? ⟨w.heap.size + 1 + 1, 6, none⟩ = some (.slice none 0 0) := HB6.out.cell 6
  have f0 : w6.frozen? ⟨w.heap.size + 1 + 1, 0, none⟩ = false := HB6.out.free 0; have f1 : w6.frozen? ⟨w.heap.size + 1 + 1, 1, none⟩ = false := HB6.out.free 1; have f2 : w6.frozen? ⟨w.heap.size + 1 + 1, 2, none⟩ = false := HB6.out.free 2; have f3 : w6.frozen? ⟨w.heap.size + 1 + 1, 3, none⟩ = false := HB6.out.free 3; have f4 : w6.frozen? ⟨w.heap.size + 1 + 1, 4, none⟩ = false := HB6.out.free 4; have f5 : w6.frozen? ⟨w.heap.size + 1 + 1, 5, none⟩ = false := HB6.out.free 5; have f6 : w6.frozen? ⟨w.heap.size + 1 + 1, 6, none⟩ = false := HB6.out.free 6
  refine order_one (i := 10) rfl (by kernel_rfl) (fun K hK => ?_)
  go_simp
  refine hK _ _ (fun h => by cases h) ?_
  clear hK
  try simp only [Act.put, List.setIfInBounds_toArray, List.set_cons_succ, List.set_cons_zero]
  refine order_pure (i := 11) rfl (by kernel_rfl) (fun _ _ _ h => h) (.inl ⟨rfl, fun _ => by go_simp; rfl⟩) ?_
  try simp only [Act.put, List.setIfInBounds_toArray, List.set_cons_succ, List.set_cons_zero]
  refine order_done (by kernel_rfl) ?_
  go_wp2
  have HBf := hide (HB6.out.put7 (.int .u8 kd) (.bool ng) (.slice A n c) (.string { data := #[] }) (.int .i64 0) (.slice none 0 0) (.slice none 0 0))
  have HKf := hide (HK6.out.set7 (g := w.heap.size + 1 + 1) (by omega) (.int .u8 kd) (.bool ng) (.slice A n c) (.string { data := #[] }) (.int .i64 0) (.slice none 0 0) (.slice none 0 0))
  have HAf := hide ((HA6.out.far (Keeps.set7' (g := w.heap.size + 1 + 1) (.int .u8 kd) (.bool ng) (.slice A n c) (.string { data := #[] }) (.int .i64 0) (.slice none 0 0) (.slice none 0 0)) (fun k hk e => by first | omega | (simp at hk; omega))).more (B' := fun k => w.heap.size ≤ k) (fun k _ hk => by first | omega | (simp at hk; omega)))
  clear z0 z1 z2 z3 z4 z5 z6 f0 f1 f2 f3 f4 f5 f6 HB6 HK6 HA6
  generalize (((((((w6.setCell ⟨w.heap.size + 1 + 1, 0, none⟩ (.int .u8 kd)).setCell ⟨w.heap.size + 1 + 1, 1, none⟩ (.bool ng)).setCell ⟨w.heap.size + 1 + 1, 2, none⟩ (.slice A n c)).setCell ⟨w.heap.size + 1 + 1, 3, none⟩ (.string { data := #[] })).setCell ⟨w.heap.size + 1 + 1, 4, none⟩ (.int .i64 0)).setCell ⟨w.heap.size + 1 + 1, 5, none⟩ (.slice none 0 0)).setCell ⟨w.heap.size + 1 + 1, 6, none⟩ (.slice none 0 0)) = wf at *
  have d0 : wf.cell? ⟨w.heap.size + 1 + 1, 0, none⟩ = some (.int .u8 kd) := HBf.out.cell 0
  have d1 : wf.cell? ⟨w.heap.size + 1 + 1, 1, none⟩ = some (.bool ng) := HBf.out.cell 1
  have d2 : wf.cell? ⟨w.heap.size + 1 + 1, 2, none⟩ = some (.slice A n c) := HBf.out.cell 2
  have d3 : wf.cell? ⟨w.heap.size + 1 + 1, 3, none⟩ = some (.string { data := #[] }) := HBf.out.cell 3
  have d4 : wf.cell? ⟨w.heap.size + 1 + 1, 4, none⟩ = some (.int .i64 0) := HBf.out.cell 4
  have d5 : wf.cell? ⟨w.heap.size + 1 + 1, 5, none⟩ = some (.slice none 0 0) := HBf.out.cell 5
  have d6 : wf.cell? ⟨w.heap.size + 1 + 1, 6, none⟩ = some (.slice none 0 0) := HBf.out.cell 6
  refine bodyPost_ret (v := .tuple #[.agg #[.int .u8 kd, .bool ng, .slice A n c, .string { data := #[] }, .int .i64 0, .slice none 0 0, .slice none 0 0], .bool ok]) (by simp [results, Try.results25, go_sem, d0, d1, d2, d3, d4, d5, d6]) rfl ?_
  exact ⟨kd, ng, A, n, c, ok, rfl, HAf.out, HKf.out⟩
theorem add_any (ng ng' : Bool) (A A' ia ta ia' ta' : Option Addr) (n c n' c' ic tc ic' tc' : Nat) (x y : Int) (w : World) (B B' : Nat → Prop) (h : IA w B ng A n c x) (h' : IA w B' ng' A' n' c' y) :
    Calls Try.prog 25 #[.agg #[.int .u8 1, .bool ng, .slice A n c, .string { data := #[] }, .int .i64 0, .slice ia 0 ic, .slice ta 0 tc], .agg #[.int .u8 1, .bool ng', .slice A' n' c', .string { data := #[] }, .int .i64 0, .slice ia' 0 ic', .slice ta' 0 tc']] w (AnyP w (x + y)) := by
  by_cases hg : ng = ng'
  · exact add_like ng ng' A A' ia ta ia' ta' n c n' c' ic tc ic' tc' x y w B B' h h' hg
  · rcases Nat.lt_or_ge x.natAbs y.natAbs with hl | hl
    · exact add_below ng ng' A A' ia ta ia' ta' n c n' c' ic tc ic' tc' x y w B B' h h' hg hl
    · exact add_above ng ng' A A' ia ta ia' ta' n c n' c' ic tc ic' tc' x y w B B' h h' hg hl
end Go.Proofs.Ytfehciiidmgopaa
