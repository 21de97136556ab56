/- Compare: two integers side by side. -/
import Derived.Test.YtjdbjjjbgibpaaaGreatDoorAmountsJn
namespace Go.Proofs.YtjdbjjjbgibpaaaGreatDoor
set_option maxRecDepth 100000
set_option maxRecDepth 100000
open Go.RowKit

def signI (ng : Bool) : Int := if ng then -1 else 1
set_option maxRecDepth 100000 in
theorem sign_any (kd nm : Int) (ng : Bool) (la ia ta : Option Addr) (ln lc im ic tm tc : Nat) (tx : ByteArray) (w : World) :
    Calls Tryz.prog 62 #[.agg #[.int .u8 kd, .bool ng, .slice la ln lc, .string tx, .int .i64 nm, .slice ia im ic, .slice ta tm tc]] w fun e w' => e = .returned (.int .i64 (signI ng)) ∧ Keeps NoB w w' := by
  cases ng
  · go_enter Tryz.func62, Tryz.ntmps62
    go_wp2
    go_ret
    exact ⟨rfl, (Keeps.refl _ _).alloc _⟩
  · go_enter Tryz.func62, Tryz.ntmps62
    go_wp2
    go_ret
    exact ⟨rfl, (Keeps.refl _ _).alloc _⟩
def cmpZ (x y : Int) : Int := if x < y then -1 else if y < x then 1 else 0
theorem IA.right {w : World} {B : Nat → Prop} {ng : Bool} {A : Option Addr} {n c : Nat} {z : Int} (h : IA w B ng A n c z) (ia ta : Option Addr) (ic tc : Nat) :
    Calls Tryz.prog 37 #[.agg #[.int .u8 1, .bool ng, .slice A n c, .string { data := #[] }, .int .i64 0, .slice ia 0 ic, .slice ta 0 tc]] w fun e w' => e = .returned (.bool true) ∧ Keeps NoB w w' := by
  have := right_any 1 0 ng A ia ta n c 0 ic 0 tc ByteArray.empty _ w B h.limbs (by omega) (by omega)
  rw [IA_right h] at this
  exact this

theorem cmp_law {ng : Bool} {x y : Int} (h1 : ng = decide (x < 0)) (h2 : ng = decide (y < 0)) (r : Int) (hr1 : r < 0 ↔ x.natAbs < y.natAbs) (hr2 : 0 < r ↔ y.natAbs < x.natAbs) : (if (if 1 < r then 1 else r) < -1 then -1 else if 1 < r then 1 else r) * signI ng = cmpZ x y := by
  rw [show (if (if 1 < r then 1 else r) < -1 then -1 else if 1 < r then 1 else r) = max (min r 1) (-1) from by (repeat' split) <;> omega]
  cases ng with
  | true =>
    have e1 : x < 0 := of_decide_eq_true h1.symm
    have e2 : y < 0 := of_decide_eq_true h2.symm
    simp only [signI, if_true]
    unfold cmpZ
    rcases Int.lt_trichotomy x y with e | e | e
    · rw [if_pos e]; omega
    · subst e; rw [if_neg (by omega), if_neg (by omega)]; omega
    · rw [if_neg (by omega), if_pos e]; omega
  | false =>
    have e1 : ¬ x < 0 := of_decide_eq_false h1.symm
    have e2 : ¬ y < 0 := of_decide_eq_false h2.symm
    simp only [signI, Bool.false_eq_true, if_false]
    unfold cmpZ
    rcases Int.lt_trichotomy x y with e | e | e
    · rw [if_pos e]; omega
    · subst e; rw [if_neg (by omega), if_neg (by omega)]; omega
    · rw [if_neg (by omega), if_pos e]; omega
set_option maxRecDepth 100000 in
theorem compare_same (ng ng' : Bool) (A A' ia ta ia' ta' : Option Addr) (n c n' c' ic tc ic' tc' : Nat) (x y : Int) (hg : ng = ng') (w : World) (B B' : Nat → Prop) (h : IA w B ng A n c x) (h' : IA w B' ng' A' n' c' y) :
    Calls Tryz.prog 51 #[.agg #[.int .u8 1, .bool ng, .slice A n c, .string { data := #[] }, .int .i64 0, .slice ia 0 ic, .slice ta 0 tc], .agg #[.int .u8 1, .bool ng', .slice A' n' c', .string { data := #[] }, .int .i64 0, .slice ia' 0 ic', .slice ta' 0 tc']] w fun e w' => e = .returned (.int .i64 (cmpZ x y)) ∧ Keeps NoB w w' := by
  have hs := h.sign; have hs' := h'.sign
  have HI := hide h; have HI' := hide h'
  clear h h'
  have hb : ((signI ng) != (signI ng')) = false := by rw [hg]; simp
  have HC := hide (cmp_law (x := x) (y := y) hs (hg.trans hs'))
  generalize hq : signI ng = q at *
  generalize hq' : signI ng' = q' at *
  have HQ := hide hq; have HQ' := hide hq'
  clear hs hs' hq hq' hg
  go_enter Tryz.func51, Tryz.ntmps51
  have HX0 := hide ((Blk.new w 26 #[.int .u8 1, .bool ng, .slice A n c, .string { data := #[] }, .int .i64 0, .slice ia 0 ic, .slice ta 0 tc]).alloc (.cells #[.int .u8 1, .bool ng', .slice A' n' c', .string { data := #[] }, .int .i64 0, .slice ia' 0 ic', .slice ta' 0 tc'] 26))
  have HY0 := hide (Blk.new2' w (.cells #[.int .u8 1, .bool ng, .slice A n c, .string { data := #[] }, .int .i64 0, .slice ia 0 ic, .slice ta 0 tc] 26) 26 #[.int .u8 1, .bool ng', .slice A' n' c', .string { data := #[] }, .int .i64 0, .slice ia' 0 ic', .slice ta' 0 tc'])
  have HK0 := hide (((Keeps.refl NoB w).alloc (.cells #[.int .u8 1, .bool ng, .slice A n c, .string { data := #[] }, .int .i64 0, .slice ia 0 ic, .slice ta 0 tc] 26)).alloc (.cells #[.int .u8 1, .bool ng', .slice A' n' c', .string { data := #[] }, .int .i64 0, .slice ia' 0 ic', .slice ta' 0 tc'] 26))
  have HR1 := hide True.intro
  go_wp2_with first | (clear HR1; go_at_call 37; refine ((HI.out.keep HK0.out).right _ _ _ _).mono ?_; rintro e w1 ⟨rfl, hk1⟩; have HK1 := hide (HK0.out.trans' hk1 (fun _ _ => id) (fun _ _ => id)); have HX1 := hide (HX0.out.keep hk1 id); have HY1 := hide (HY0.out.keep hk1 id); clear hk1 HX0 HY0 HK0; obtain ⟨y0, y1, y2, y3, y4, y5, y6⟩ := Blk.c7 (show Blk w1 (w.heap.size + 1) _ #[.int .u8 1, .bool ng', .slice A' n' c', .string { data := #[] }, .int .i64 0, .slice ia' 0 ic', .slice ta' 0 tc'] from HY1.out)) | (go_at_call 37; refine ((HI'.out.keep HK1.out).right _ _ _ _).mono ?_; rintro e w2 ⟨rfl, hk2⟩; have HK2 := hide (HK1.out.trans' hk2 (fun _ _ => id) (fun _ _ => id)); have HX2 := hide (HX1.out.keep hk2 id); have HY2 := hide (HY1.out.keep hk2 id); clear hk2 HX1 HY1 HK1 y0 y1 y2 y3 y4 y5 y6) | fail
  generalize w.heap.size = g at *
  refine order_begin (fun W => Keeps NoB w2.drew W) (fun _ => true) (by kernel_rfl) 7 rfl ?_
  have HX := hide (HX2.out.drew); have HY := hide (HY2.out.drew); have HK := hide (HK2.out.drew)
  clear HX2 HY2 HK2
  generalize w2.drew = W0 at *
  have HS : Keeps NoB W0 W0 := Keeps.refl _ _
  refine order_pure (i := 0) rfl (by kernel_rfl) (fun _ _ _ h => h) (.inl ⟨rfl, fun _ => by go_simp; rfl⟩) ?_
  try simp only [Act.put, List.setIfInBounds_toArray, List.set_cons_succ, List.set_cons_zero]
  refine order_pure (i := 3) rfl (by kernel_rfl) (fun _ _ _ h => h) (.inl ⟨rfl, fun _ => by go_simp; rfl⟩) ?_
  try simp only [Act.put, List.setIfInBounds_toArray, List.set_cons_succ, List.set_cons_zero]
  refine order_held (i := 1) rfl (by kernel_rfl) (fun _ _ _ h => h) (.inl ⟨rfl, fun W hW => by
    have q0 : W.cell? ⟨g, 0, none⟩ = some (.int .u8 1) := hW.cell id (HX.out.cell 0)
    have q1 : W.cell? ⟨g, 1, none⟩ = some (.bool ng) := hW.cell id (HX.out.cell 1)
    have q2 : W.cell? ⟨g, 2, none⟩ = some (.slice A n c) := hW.cell id (HX.out.cell 2)
    have q3 : W.cell? ⟨g, 3, none⟩ = some (.string { data := #[] }) := hW.cell id (HX.out.cell 3)
    have q4 : W.cell? ⟨g, 4, none⟩ = some (.int .i64 0) := hW.cell id (HX.out.cell 4)
    have q5 : W.cell? ⟨g, 5, none⟩ = some (.slice ia 0 ic) := hW.cell id (HX.out.cell 5)
    have q6 : W.cell? ⟨g, 6, none⟩ = some (.slice ta 0 tc) := hW.cell id (HX.out.cell 6)
    go_simp; rfl⟩) HS ?_
  try simp only [Act.put, List.setIfInBounds_toArray, List.set_cons_succ, List.set_cons_zero]
  refine order_held (i := 4) rfl (by kernel_rfl) (fun _ _ _ h => h) (.inl ⟨rfl, fun W hW => by
    have q0 : W.cell? ⟨g + 1, 0, none⟩ = some (.int .u8 1) := hW.cell id (HY.out.cell 0)
    have q1 : W.cell? ⟨g + 1, 1, none⟩ = some (.bool ng') := hW.cell id (HY.out.cell 1)
    have q2 : W.cell? ⟨g + 1, 2, none⟩ = some (.slice A' n' c') := hW.cell id (HY.out.cell 2)
    have q3 : W.cell? ⟨g + 1, 3, none⟩ = some (.string { data := #[] }) := hW.cell id (HY.out.cell 3)
    have q4 : W.cell? ⟨g + 1, 4, none⟩ = some (.int .i64 0) := hW.cell id (HY.out.cell 4)
    have q5 : W.cell? ⟨g + 1, 5, none⟩ = some (.slice ia' 0 ic') := hW.cell id (HY.out.cell 5)
    have q6 : W.cell? ⟨g + 1, 6, none⟩ = some (.slice ta' 0 tc') := hW.cell id (HY.out.cell 6)
    go_simp; rfl⟩) HS ?_
  try simp only [Act.put, List.setIfInBounds_toArray, List.set_cons_succ, List.set_cons_zero]
  refine order_one (i := 2) rfl (by kernel_rfl) (fun K hK => ?_)
  go_simp
  refine (sign_any _ _ _ _ _ _ _ _ _ _ _ _ _ W0).mono ?_
  rintro e w3 ⟨rfl, hk3⟩
  refine hK _ _ (fun _ hS => hS.trans' hk3 (fun _ _ => id) (fun _ _ => id)) ?_
  clear hK
  try simp only [Act.put, List.setIfInBounds_toArray, List.set_cons_succ, List.set_cons_zero]
  refine order_one (i := 5) rfl (by kernel_rfl) (fun K hK => ?_)
  go_simp
  refine (sign_any _ _ _ _ _ _ _ _ _ _ _ _ _ w3).mono ?_
  rintro e w4 ⟨rfl, hk4⟩
  refine hK _ _ (fun _ hS => hS.trans' hk4 (fun _ _ => id) (fun _ _ => id)) ?_
  clear hK
  try simp only [Act.put, List.setIfInBounds_toArray, List.set_cons_succ, List.set_cons_zero]
  rw [HQ.out, HQ'.out]
  refine order_pure (i := 6) rfl (by kernel_rfl) (fun _ _ _ h => h) (.inl ⟨rfl, fun _ => by go_simp; rfl⟩) ?_
  try simp only [Act.put, List.setIfInBounds_toArray, List.set_cons_succ, List.set_cons_zero]
  refine order_done (by kernel_rfl) ?_
  have HX4 := hide ((HX.out.keep hk3 id).keep hk4 id); have HY4 := hide ((HY.out.keep hk3 id).keep hk4 id); have HK4 := hide ((HK.out.trans' hk3 (fun _ _ => id) (fun _ _ => id)).trans' hk4 (fun _ _ => id) (fun _ _ => id))
  clear hk3 hk4 HX HY HK HS
  go_wp2
  refine order_begin (fun W => Keeps NoB w4.drew W) (fun _ => true) (by kernel_rfl) 12 rfl ?_
  have HX := hide (HX4.out.drew); have HY := hide (HY4.out.drew); have HK := hide (HK4.out.drew)
  clear HX4 HY4 HK4
  generalize w4.drew = W0 at *
  have HS : Keeps NoB W0 W0 := Keeps.refl _ _
  refine order_pure (i := 0) rfl (by kernel_rfl) (fun _ _ _ h => h) (.inl ⟨rfl, fun _ => by go_simp; rfl⟩) ?_
  try simp only [Act.put, List.setIfInBounds_toArray, List.set_cons_succ, List.set_cons_zero]
  refine order_pure (i := 2) rfl (by kernel_rfl) (fun _ _ _ h => h) (.inl ⟨rfl, fun _ => by go_simp; rfl⟩) ?_
  try simp only [Act.put, List.setIfInBounds_toArray, List.set_cons_succ, List.set_cons_zero]
  refine order_pure (i := 7) rfl (by kernel_rfl) (fun _ _ _ h => h) (.inl ⟨rfl, fun _ => by go_simp; rfl⟩) ?_
  try simp only [Act.put, List.setIfInBounds_toArray, List.set_cons_succ, List.set_cons_zero]
  refine order_held (i := 1) rfl (by kernel_rfl) (fun _ _ _ h => h) (.inl ⟨rfl, fun W hW => by
    have q0 : W.cell? ⟨g, 2, none⟩ = some (.slice A n c) := hW.cell id (HX.out.cell 2)
    go_simp; rfl⟩) HS ?_
  try simp only [Act.put, List.setIfInBounds_toArray, List.set_cons_succ, List.set_cons_zero]
  refine order_held (i := 3) rfl (by kernel_rfl) (fun _ _ _ h => h) (.inl ⟨rfl, fun W hW => by
    have q0 : W.cell? ⟨g + 1, 2, none⟩ = some (.slice A' n' c') := hW.cell id (HY.out.cell 2)
    go_simp; rfl⟩) HS ?_
  try simp only [Act.put, List.setIfInBounds_toArray, List.set_cons_succ, List.set_cons_zero]
  refine order_held (i := 8) rfl (by kernel_rfl) (fun _ _ _ h => h) (.inl ⟨rfl, fun W hW => by
    have q0 : W.cell? ⟨g, 0, none⟩ = some (.int .u8 1) := hW.cell id (HX.out.cell 0)
    have q1 : W.cell? ⟨g, 1, none⟩ = some (.bool ng) := hW.cell id (HX.out.cell 1)
    have q2 : W.cell? ⟨g, 2, none⟩ = some (.slice A n c) := hW.cell id (HX.out.cell 2)
    have q3 : W.cell? ⟨g, 3, none⟩ = some (.string { data := #[] }) := hW.cell id (HX.out.cell 3)
    have q4 : W.cell? ⟨g, 4, none⟩ = some (.int .i64 0) := hW.cell id (HX.out.cell 4)
    have q5 : W.cell? ⟨g, 5, none⟩ = some (.slice ia 0 ic) := hW.cell id (HX.out.cell 5)
    have q6 : W.cell? ⟨g, 6, none⟩ = some (.slice ta 0 tc) := hW.cell id (HX.out.cell 6)
    go_simp; rfl⟩) HS ?_
  try simp only [Act.put, List.setIfInBounds_toArray, List.set_cons_succ, List.set_cons_zero]
  refine order_one (i := 4) rfl (by kernel_rfl) (fun K hK => ?_)
  go_simp
  refine (amounts_any _ _ _ _ _ _ _ _ _ _ _ ((HI.out.keep HK.out).limbs) ((HI'.out.keep HK.out).limbs)).mono ?_
  rintro e w5 ⟨r, rfl, hr1, hr2, hr3, hr4, hk5⟩
  refine hK _ _ (fun _ hS => hS.trans' hk5 (fun _ _ => id) (fun _ _ => id)) ?_
  clear hK
  try simp only [Act.put, List.setIfInBounds_toArray, List.set_cons_succ, List.set_cons_zero]
  refine order_pure (i := 5) rfl (by kernel_rfl) (fun _ _ _ h => h) (.inl ⟨rfl, fun _ => by go_simp; rfl⟩) ?_
  try simp only [Act.put, List.setIfInBounds_toArray, List.set_cons_succ, List.set_cons_zero]
  refine order_pure (i := 6) rfl (by kernel_rfl) (fun _ _ _ h => h) (.inl ⟨rfl, fun _ => by go_simp; rfl⟩) ?_
  try simp only [Act.put, List.setIfInBounds_toArray, List.set_cons_succ, List.set_cons_zero]
  refine order_one (i := 9) rfl (by kernel_rfl) (fun K hK => ?_)
  go_simp
  refine (sign_any _ _ _ _ _ _ _ _ _ _ _ _ _ w5).mono ?_
  rintro e w6 ⟨rfl, hk6⟩
  refine hK _ _ (fun _ hS => hS.trans' hk6 (fun _ _ => id) (fun _ _ => id)) ?_
  clear hK
  try simp only [Act.put, List.setIfInBounds_toArray, List.set_cons_succ, List.set_cons_zero]
  rw [HQ.out]
  have hc := HC.out r hr3 hr4
  have HK6 := hide ((HK.out.trans' hk5 (fun _ _ => id) (fun _ _ => id)).trans' hk6 (fun _ _ => id) (fun _ _ => id))
  clear hk5 hk6 hr3 hr4 HX HY HK
  obtain ⟨z, hzz⟩ : ∃ z, z = cmpZ x y := ⟨_, rfl⟩
  have hz0 : IntKind.i64.wrap z = z := by rw [hzz]; unfold cmpZ; (repeat' split) <;> decide
  rw [← hzz] at hc
  have HZ := hide hzz; have HZ0 := hide hz0
  clear hzz hz0
  generalize (if (if 1 < r then 1 else r) < -1 then -1 else if 1 < r then 1 else r) = M at *
  generalize (if 1 < r then 1 else r) = M' at *
  clear HC
  refine order_pure (i := 10) rfl (by kernel_rfl) (fun _ _ _ h => h) (.inl ⟨rfl, fun _ => by go_simp; rfl⟩) ?_
  try simp only [Act.put, List.setIfInBounds_toArray, List.set_cons_succ, List.set_cons_zero]
  refine order_one (i := 11) rfl (by kernel_rfl) (fun K hK => ?_)
  go_simp
  refine hK _ _ (fun _ h => h) ?_
  clear hK
  try simp only [Act.put, List.setIfInBounds_toArray, List.set_cons_succ, List.set_cons_zero]
  refine order_done (by kernel_rfl) ?_
  go_wp2
  go_ret
  refine ⟨?_, HK6.out⟩
  show Ending.returned (.int .i64 (IntKind.i64.wrap z)) = _
  rw [HZ0.out, HZ.out]
set_option maxRecDepth 100000 in
theorem compare_other (ng ng' : Bool) (A A' ia ta ia' ta' : Option Addr) (n c n' c' ic tc ic' tc' : Nat) (x y : Int) (hg : ¬ ng = ng') (w : World) (B B' : Nat → Prop) (h : IA w B ng A n c x) (h' : IA w B' ng' A' n' c' y) :
    Calls Tryz.prog 51 #[.agg #[.int .u8 1, .bool ng, .slice A n c, .string { data := #[] }, .int .i64 0, .slice ia 0 ic, .slice ta 0 tc], .agg #[.int .u8 1, .bool ng', .slice A' n' c', .string { data := #[] }, .int .i64 0, .slice ia' 0 ic', .slice ta' 0 tc']] w fun e w' => e = .returned (.int .i64 (cmpZ x y)) ∧ Keeps NoB w w' := by
  have hs := h.sign; have hs' := h'.sign
  have HI := hide h; have HI' := hide h'
  clear h h'
  have he : cmpZ x y = signI ng := by
    unfold cmpZ signI
    rw [hs, hs'] at hg
    cases ng <;> cases ng' <;> simp_all <;> omega
  have hb : ((signI ng) != (signI ng')) = true := by unfold signI; cases ng <;> cases ng' <;> simp_all
  rw [he]
  clear he hs hs' hg
  generalize hq : signI ng = q at *
  generalize hq' : signI ng' = q' at *
  have HQ := hide hq; have HQ' := hide hq'
  clear hq hq'
  go_enter Tryz.func51, Tryz.ntmps51
  have HX0 := hide ((Blk.new w 26 #[.int .u8 1, .bool ng, .slice A n c, .string { data := #[] }, .int .i64 0, .slice ia 0 ic, .slice ta 0 tc]).alloc (.cells #[.int .u8 1, .bool ng', .slice A' n' c', .string { data := #[] }, .int .i64 0, .slice ia' 0 ic', .slice ta' 0 tc'] 26))
  have HY0 := hide (Blk.new2' w (.cells #[.int .u8 1, .bool ng, .slice A n c, .string { data := #[] }, .int .i64 0, .slice ia 0 ic, .slice ta 0 tc] 26) 26 #[.int .u8 1, .bool ng', .slice A' n' c', .string { data := #[] }, .int .i64 0, .slice ia' 0 ic', .slice ta' 0 tc'])
  have HK0 := hide (((Keeps.refl NoB w).alloc (.cells #[.int .u8 1, .bool ng, .slice A n c, .string { data := #[] }, .int .i64 0, .slice ia 0 ic, .slice ta 0 tc] 26)).alloc (.cells #[.int .u8 1, .bool ng', .slice A' n' c', .string { data := #[] }, .int .i64 0, .slice ia' 0 ic', .slice ta' 0 tc'] 26))
  have HR1 := hide True.intro
  go_wp2_with first | (clear HR1; go_at_call 37; refine ((HI.out.keep HK0.out).right _ _ _ _).mono ?_; rintro e w1 ⟨rfl, hk1⟩; have HK1 := hide (HK0.out.trans' hk1 (fun _ _ => id) (fun _ _ => id)); have HX1 := hide (HX0.out.keep hk1 id); have HY1 := hide (HY0.out.keep hk1 id); clear hk1 HX0 HY0 HK0; obtain ⟨y0, y1, y2, y3, y4, y5, y6⟩ := Blk.c7 (show Blk w1 (w.heap.size + 1) _ #[.int .u8 1, .bool ng', .slice A' n' c', .string { data := #[] }, .int .i64 0, .slice ia' 0 ic', .slice ta' 0 tc'] from HY1.out)) | (go_at_call 37; refine ((HI'.out.keep HK1.out).right _ _ _ _).mono ?_; rintro e w2 ⟨rfl, hk2⟩; have HK2 := hide (HK1.out.trans' hk2 (fun _ _ => id) (fun _ _ => id)); have HX2 := hide (HX1.out.keep hk2 id); have HY2 := hide (HY1.out.keep hk2 id); clear hk2 HX1 HY1 HK1 y0 y1 y2 y3 y4 y5 y6) | fail
  generalize w.heap.size = g at *
  refine order_begin (fun W => Keeps NoB w2.drew W) (fun _ => true) (by kernel_rfl) 7 rfl ?_
  have HX := hide (HX2.out.drew); have HY := hide (HY2.out.drew); have HK := hide (HK2.out.drew)
  clear HX2 HY2 HK2
  generalize w2.drew = W0 at *
  have HS : Keeps NoB W0 W0 := Keeps.refl _ _
  refine order_pure (i := 0) rfl (by kernel_rfl) (fun _ _ _ h => h) (.inl ⟨rfl, fun _ => by go_simp; rfl⟩) ?_
  try simp only [Act.put, List.setIfInBounds_toArray, List.set_cons_succ, List.set_cons_zero]
  refine order_pure (i := 3) rfl (by kernel_rfl) (fun _ _ _ h => h) (.inl ⟨rfl, fun _ => by go_simp; rfl⟩) ?_
  try simp only [Act.put, List.setIfInBounds_toArray, List.set_cons_succ, List.set_cons_zero]
  refine order_held (i := 1) rfl (by kernel_rfl) (fun _ _ _ h => h) (.inl ⟨rfl, fun W hW => by
    have q0 : W.cell? ⟨g, 0, none⟩ = some (.int .u8 1) := hW.cell id (HX.out.cell 0)
    have q1 : W.cell? ⟨g, 1, none⟩ = some (.bool ng) := hW.cell id (HX.out.cell 1)
    have q2 : W.cell? ⟨g, 2, none⟩ = some (.slice A n c) := hW.cell id (HX.out.cell 2)
    have q3 : W.cell? ⟨g, 3, none⟩ = some (.string { data := #[] }) := hW.cell id (HX.out.cell 3)
    have q4 : W.cell? ⟨g, 4, none⟩ = some (.int .i64 0) := hW.cell id (HX.out.cell 4)
    have q5 : W.cell? ⟨g, 5, none⟩ = some (.slice ia 0 ic) := hW.cell id (HX.out.cell 5)
    have q6 : W.cell? ⟨g, 6, none⟩ = some (.slice ta 0 tc) := hW.cell id (HX.out.cell 6)
    go_simp; rfl⟩) HS ?_
  try simp only [Act.put, List.setIfInBounds_toArray, List.set_cons_succ, List.set_cons_zero]
  refine order_held (i := 4) rfl (by kernel_rfl) (fun _ _ _ h => h) (.inl ⟨rfl, fun W hW => by
    have q0 : W.cell? ⟨g + 1, 0, none⟩ = some (.int .u8 1) := hW.cell id (HY.out.cell 0)
    have q1 : W.cell? ⟨g + 1, 1, none⟩ = some (.bool ng') := hW.cell id (HY.out.cell 1)
    have q2 : W.cell? ⟨g + 1, 2, none⟩ = some (.slice A' n' c') := hW.cell id (HY.out.cell 2)
    have q3 : W.cell? ⟨g + 1, 3, none⟩ = some (.string { data := #[] }) := hW.cell id (HY.out.cell 3)
    have q4 : W.cell? ⟨g + 1, 4, none⟩ = some (.int .i64 0) := hW.cell id (HY.out.cell 4)
    have q5 : W.cell? ⟨g + 1, 5, none⟩ = some (.slice ia' 0 ic') := hW.cell id (HY.out.cell 5)
    have q6 : W.cell? ⟨g + 1, 6, none⟩ = some (.slice ta' 0 tc') := hW.cell id (HY.out.cell 6)
    go_simp; rfl⟩) HS ?_
  try simp only [Act.put, List.setIfInBounds_toArray, List.set_cons_succ, List.set_cons_zero]
  refine order_one (i := 2) rfl (by kernel_rfl) (fun K hK => ?_)
  go_simp
  refine (sign_any _ _ _ _ _ _ _ _ _ _ _ _ _ W0).mono ?_
  rintro e w3 ⟨rfl, hk3⟩
  refine hK _ _ (fun _ hS => hS.trans' hk3 (fun _ _ => id) (fun _ _ => id)) ?_
  clear hK
  try simp only [Act.put, List.setIfInBounds_toArray, List.set_cons_succ, List.set_cons_zero]
  refine order_one (i := 5) rfl (by kernel_rfl) (fun K hK => ?_)
  go_simp
  refine (sign_any _ _ _ _ _ _ _ _ _ _ _ _ _ w3).mono ?_
  rintro e w4 ⟨rfl, hk4⟩
  refine hK _ _ (fun _ hS => hS.trans' hk4 (fun _ _ => id) (fun _ _ => id)) ?_
  clear hK
  try simp only [Act.put, List.setIfInBounds_toArray, List.set_cons_succ, List.set_cons_zero]
  rw [HQ.out, HQ'.out]
  refine order_pure (i := 6) rfl (by kernel_rfl) (fun _ _ _ h => h) (.inl ⟨rfl, fun _ => by go_simp; rfl⟩) ?_
  try simp only [Act.put, List.setIfInBounds_toArray, List.set_cons_succ, List.set_cons_zero]
  refine order_done (by kernel_rfl) ?_
  have HX4 := hide ((HX.out.keep hk3 id).keep hk4 id); have HY4 := hide ((HY.out.keep hk3 id).keep hk4 id); have HK4 := hide ((HK.out.trans' hk3 (fun _ _ => id) (fun _ _ => id)).trans' hk4 (fun _ _ => id) (fun _ _ => id))
  clear hk3 hk4 HX HY HK HS
  obtain ⟨x0, x1, x2, x3, x4, x5, x6⟩ := Blk.c7 (show Blk w4 (g) _ #[.int .u8 1, .bool ng, .slice A n c, .string { data := #[] }, .int .i64 0, .slice ia 0 ic, .slice ta 0 tc] from HX4.out)
  go_wp2_with (go_at_call 62; refine (sign_any _ _ _ _ _ _ _ _ _ _ _ _ _ w4).mono ?_; rintro e w5 ⟨rfl, hk5⟩; rw [HQ.out])
  go_ret
  exact ⟨rfl, HK4.out.trans' hk5 (fun _ _ => id) (fun _ _ => id)⟩
set_option maxRecDepth 100000 in
theorem compare_any (ng ng' : Bool) (A A' ia ta ia' ta' : Option Addr) (n c n' c' ic tc ic' tc' : Nat) (x y : Int) (w : World) (B B' : Nat → Prop) (h : IA w B ng A n c x) (h' : IA w B' ng' A' n' c' y) :
    Calls Tryz.prog 51 #[.agg #[.int .u8 1, .bool ng, .slice A n c, .string { data := #[] }, .int .i64 0, .slice ia 0 ic, .slice ta 0 tc], .agg #[.int .u8 1, .bool ng', .slice A' n' c', .string { data := #[] }, .int .i64 0, .slice ia' 0 ic', .slice ta' 0 tc']] w fun e w' => e = .returned (.int .i64 (cmpZ x y)) ∧ Keeps NoB w w' := by
  by_cases hg : ng = ng'
  · exact compare_same ng ng' A A' ia ta ia' ta' n c n' c' ic tc ic' tc' x y hg w B B' h h'
  · exact compare_other ng ng' A A' ia ta ia' ta' n c n' c' ic tc ic' tc' x y hg w B B' h h'
end Go.Proofs.YtjdbjjjbgibpaaaGreatDoor
