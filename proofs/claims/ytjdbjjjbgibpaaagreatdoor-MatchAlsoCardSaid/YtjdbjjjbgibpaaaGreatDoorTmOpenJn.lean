/- amounts: two amounts side by side. Compare: two integers side by side. What an argument of terms holds, cell by cell. -/
import Derived.Test.YtjdbjjjbgibpaaaGreatDoorOfJn
import Derived.Test.YtjdbjjjbgibpaaaGreatDoorTermLawJn
import Derived.ProofKit
import Derived.OpenShut
import Derived.Deep.Slices
import Derived.SizedLaws
namespace Go.Proofs.YtjdbjjjbgibpaaaGreatDoor
set_option maxRecDepth 100000
set_option maxRecDepth 100000
open Go.RowKit

def AmP (w : World) (x y : Nat) (e : Ending) (w' : World) : Prop := ∃ r : Int, e = .returned (.int .i64 r) ∧ -9223372036854775807 ≤ r ∧ r ≤ 9223372036854775807 ∧ (r < 0 ↔ x < y) ∧ (0 < r ↔ y < x) ∧ Keeps NoB w w'
def SameFrom (w : World) (l m : List Nat) (k : Nat) (wr : World) : Prop := Keeps NoB w wr ∧ ∀ j, k ≤ j → j < l.length → l.getD j 0 = m.getD j 0
theorem SameFrom.step {w wr w' : World} {l m : List Nat} {k : Nat} (h : SameFrom w l m (k + 1) wr) (e : l.getD k 0 = m.getD k 0) (hk : Keeps NoB w w') : SameFrom w l m k w' := ⟨hk, fun j h1 h2 => by
  by_cases hj : j = k
  · subst hj; exact e
  · exact h.2 j (by omega) h2⟩
theorem SameFrom.below {w wr : World} {l m : List Nat} {k n : Nat} (h : SameFrom w l m (k + 1) wr) (hl : Low l) (hm : Low m) (h1 : l.length = n) (h2 : m.length = n) (hk : k < n) (e : l.getD k 0 < m.getD k 0) : nat l < nat m := by
  have := pre_below hl (n := n) hk e (fun j a b => h.2 j (by omega) (by omega))
  rw [pre_ge _ _ (by omega), pre_ge _ _ (by omega)] at this
  exact this
theorem SameFrom.above {w wr : World} {l m : List Nat} {k n : Nat} (h : SameFrom w l m (k + 1) wr) (hl : Low l) (hm : Low m) (h1 : l.length = n) (h2 : m.length = n) (hk : k < n) (e : m.getD k 0 < l.getD k 0) : nat m < nat l := by
  have := pre_below hm (n := n) hk e (fun j a b => (h.2 j (by omega) (by omega)).symm)
  rw [pre_ge _ _ (by omega), pre_ge _ _ (by omega)] at this
  exact this
theorem SameFrom.all {w wr : World} {l m : List Nat} {n : Nat} (h : SameFrom w l m 0 wr) (h1 : l.length = n) (h2 : m.length = n) : nat l = nat m := by
  have := pre_congr (l := l) (m := m) (i := n) (fun j hj => h.2 j (Nat.zero_le _) (by omega))
  rw [pre_ge _ _ (by omega), pre_ge _ _ (by omega)] at this
  exact this

set_option maxRecDepth 100000 in
theorem amounts_any (A A' : Option Addr) (n c n' c' x y : Nat) (w : World) (B B' : Nat → Prop) (h : LimbsIn w B A n c (dig x)) (h' : LimbsIn w B' A' n' c' (dig y)) :
    Calls Tryz.prog 63 #[.slice A n c, .slice A' n' c'] w (AmP w x y) := by
  have hl := h.len; have hl' := h'.len
  have hm := Nat.le_trans h.cap h.max
  have hm' := Nat.le_trans h'.cap h'.max
  unfold maxLen at hm hm'
  have HL := hide h; have HL' := hide h'
  clear h h'
  by_cases hne : n = n'
  · subst hne
    have HX := hide (nat_dig x); have HY := hide (nat_dig y)
    generalize dig x = l at *
    generalize dig y = m at *
    go_enter Tryz.func63, Tryz.ntmps63
    go_wp2
    go_loopw [5] (fun i wr => ∃ k : Nat, k ≤ n ∧ i = .int .i64 ((k : Int) - 1) ∧ SameFrom w l m k wr) (fun i _ => (intOf i + 1).toNat)
    case atStart => exact ⟨n, Nat.le_refl _, rfl, Keeps.refl _ _, fun j h1 h2 => by omega⟩
    case round =>
      obtain ⟨k, hk, rfl, hinv⟩ := hrel
      have HI := hide hinv; clear hinv
      rcases k with _ | k
      · go_wp2_with (go_quiet (fail))
        go_ret
        exact ⟨0, rfl, by omega, by omega, by have := HI.out.all hl hl'; rw [HX.out, HY.out] at this; omega, by have := HI.out.all hl hl'; rw [HX.out, HY.out] at this; omega, HI.out.1⟩
      · obtain ⟨b, o, rfl, hb, hc⟩ := (HL.out.keep HI.out.1).at (by omega)
        obtain ⟨b', o', rfl, hb', hc'⟩ := (HL'.out.keep HI.out.1).at (by omega)
        have q := hc k (by omega)
        have q' := hc' k (by omega)
        have hk0 : (0 : Int) ≤ (k : Int) := by omega
        have hk1 : (k : Int) < (n : Int) := by omega
        have hk2 : ((k + 1 : Nat) : Int) - 1 = (k : Int) := by omega
        have hk3 : k < n := by omega
        rw [hk2]
        have HB := hide (fun e => HI.out.below HL.out.low HL'.out.low hl hl' hk3 e)
        have HA := hide (fun e => HI.out.above HL.out.low HL'.out.low hl hl' hk3 e)
        have HS := hide (fun e w' hk => HI.out.step (w' := w') e hk)
        rw [HX.out, HY.out] at HB HA
        clear hc hc'
        generalize l.getD k 0 = u at *
        generalize m.getD k 0 = v at *
        rcases Nat.lt_trichotomy u v with e | e | e
        · have HE := hide (HB.out e)
          have e1 : decide (u < v) = true := decide_eq_true e
          clear HB HA HS e hk2
          go_wp2_with (go_quiet (fail))
          go_ret
          exact ⟨-1, rfl, by omega, by omega, by have := HE.out; omega, by have := HE.out; omega, HI.out.1.drewN _⟩
        · subst e
          clear HB HA hk2
          go_wp2_with (go_quiet (fail))
          go_roundw
          case rel => exact ⟨k, by omega, by go_num, HS.out rfl _ (HI.out.1.drewN _)⟩
          case measure => simp [intOf]
        · have HE := hide (HA.out e)
          have e1 : decide (u < v) = false := decide_eq_false (by omega)
          have e2 : decide (v < u) = true := decide_eq_true e
          clear HB HA HS e hk2
          go_wp2_with (go_quiet (fail))
          go_ret
          exact ⟨1, rfl, by omega, by omega, by have := HE.out; omega, by have := HE.out; omega, (HI.out.1.drewN _).drewN _⟩
  · have hb : ((n : Int) != (n' : Int)) = true := by simp; omega
    have h1 := dig_len_lt (a := x) (b := y)
    have h2 := dig_len_lt (a := y) (b := x)
    rw [hl, hl'] at h1
    rw [hl', hl] at h2
    have H1 := hide h1; have H2 := hide h2
    clear h1 h2
    go_enter Tryz.func63, Tryz.ntmps63
    go_wp2
    go_ret
    exact ⟨(n : Int) - n', rfl, by omega, by omega, ⟨fun h => H1.out (by omega), fun h => by
      rcases Nat.lt_or_ge n n' with e | e
      · omega
      · have := H2.out (by omega); omega⟩, ⟨fun h => H2.out (by omega), fun h => by
      rcases Nat.lt_or_ge n' n with e | e
      · omega
      · have := H1.out (by omega); omega⟩, Keeps.refl _ _⟩
end Go.Proofs.YtjdbjjjbgibpaaaGreatDoor
namespace Go.Proofs.YtjdbjjjbgibpaaaGreatDoor
set_option maxRecDepth 100000
set_option maxRecDepth 100000
open Go.RowKit

def signI (ng : Bool) : Int := if ng then -1 else 1
set_option maxRecDepth 100000 in
theorem sign_any (kd nm : Int) (ng : Bool) (la ia ta : Option Addr) (ln lc im ic tm tc : Nat) (tx : ByteArray) (w : World) :
    Calls Tryz.prog 62 #[.agg #[.int .u8 kd, .bool ng, .slice la ln lc, .string tx, .int .i64 nm, .slice ia im ic, .slice ta tm tc]] w fun e w' => e = .returned (.int .i64 (signI ng)) ∧ Keeps NoB w w' := by
  cases ng
  · go_enter Tryz.func62, Tryz.ntmps62
    go_wp2
    go_ret
    exact ⟨rfl, (Keeps.refl _ _).alloc _⟩
  · go_enter Tryz.func62, Tryz.ntmps62
    go_wp2
    go_ret
    exact ⟨rfl, (Keeps.refl _ _).alloc _⟩
def cmpZ (x y : Int) : Int := if x < y then -1 else if y < x then 1 else 0
theorem IA.right {w : World} {B : Nat → Prop} {ng : Bool} {A : Option Addr} {n c : Nat} {z : Int} (h : IA w B ng A n c z) (ia ta : Option Addr) (ic tc : Nat) :
    Calls Tryz.prog 37 #[.agg #[.int .u8 1, .bool ng, .slice A n c, .string { data := #[] }, .int .i64 0, .slice ia 0 ic, .slice ta 0 tc]] w fun e w' => e = .returned (.bool true) ∧ Keeps NoB w w' := by
  have := right_any 1 0 ng A ia ta n c 0 ic 0 tc ByteArray.empty _ w B h.limbs (by omega) (by omega)
  rw [IA_right h] at this
  exact this

theorem cmp_law {ng : Bool} {x y : Int} (h1 : ng = decide (x < 0)) (h2 : ng = decide (y < 0)) (r : Int) (hr1 : r < 0 ↔ x.natAbs < y.natAbs) (hr2 : 0 < r ↔ y.natAbs < x.natAbs) : (if (if 1 < r then 1 else r) < -1 then -1 else if 1 < r then 1 else r) * signI ng = cmpZ x y := by
  rw [show (if (if 1 < r then 1 else r) < -1 then -1 else if 1 < r then 1 else r) = max (min r 1) (-1) from by (repeat' split) <;> omega]
  cases ng with
  | true =>
    have e1 : x < 0 := of_decide_eq_true h1.symm
    have e2 : y < 0 := of_decide_eq_true h2.symm
    simp only [signI, if_true]
    unfold cmpZ
    rcases Int.lt_trichotomy x y with e | e | e
    · rw [if_pos e]; omega
    · subst e; rw [if_neg (by omega), if_neg (by omega)]; omega
    · rw [if_neg (by omega), if_pos e]; omega
  | false =>
    have e1 : ¬ x < 0 := of_decide_eq_false h1.symm
    have e2 : ¬ y < 0 := of_decide_eq_false h2.symm
    simp only [signI, Bool.false_eq_true, if_false]
    unfold cmpZ
    rcases Int.lt_trichotomy x y with e | e | e
    · rw [if_pos e]; omega
    · subst e; rw [if_neg (by omega), if_neg (by omega)]; omega
    · rw [if_neg (by omega), if_pos e]; omega
set_option maxRecDepth 100000 in
theorem compare_same (ng ng' : Bool) (A A' ia ta ia' ta' : Option Addr) (n c n' c' ic tc ic' tc' : Nat) (x y : Int) (hg : ng = ng') (w : World) (B B' : Nat → Prop) (h : IA w B ng A n c x) (h' : IA w B' ng' A' n' c' y) :
    Calls Tryz.prog 51 #[.agg #[.int .u8 1, .bool ng, .slice A n c, .string { data := #[] }, .int .i64 0, .slice ia 0 ic, .slice ta 0 tc], .agg #[.int .u8 1, .bool ng', .slice A' n' c', .string { data := #[] }, .int .i64 0, .slice ia' 0 ic', .slice ta' 0 tc']] w fun e w' => e = .returned (.int .i64 (cmpZ x y)) ∧ Keeps NoB w w' := by
  have hs := h.sign; have hs' := h'.sign
  have HI := hide h; have HI' := hide h'
  clear h h'
  have hb : ((signI ng) != (signI ng')) = false := by rw [hg]; simp
  have HC := hide (cmp_law (x := x) (y := y) hs (hg.trans hs'))
  generalize hq : signI ng = q at *
  generalize hq' : signI ng' = q' at *
  have HQ := hide hq; have HQ' := hide hq'
  clear hs hs' hq hq' hg
  go_enter Tryz.func51, Tryz.ntmps51
  have HX0 := hide ((Blk.new w 26 #[.int .u8 1, .bool ng, .slice A n c, .string { data := #[] }, .int .i64 0, .slice ia 0 ic, .slice ta 0 tc]).alloc (.cells #[.int .u8 1, .bool ng', .slice A' n' c', .string { data := #[] }, .int .i64 0, .slice ia' 0 ic', .slice ta' 0 tc'] 26))
  have HY0 := hide (Blk.new2' w (.cells #[.int .u8 1, .bool ng, .slice A n c, .string { data := #[] }, .int .i64 0, .slice ia 0 ic, .slice ta 0 tc] 26) 26 #[.int .u8 1, .bool ng', .slice A' n' c', .string { data := #[] }, .int .i64 0, .slice ia' 0 ic', .slice ta' 0 tc'])
  have HK0 := hide (((Keeps.refl NoB w).alloc (.cells #[.int .u8 1, .bool ng, .slice A n c, .string { data := #[] }, .int .i64 0, .slice ia 0 ic, .slice ta 0 tc] 26)).alloc (.cells #[.int .u8 1, .bool ng', .slice A' n' c', .string { data := #[] }, .int .i64 0, .slice ia' 0 ic', .slice ta' 0 tc'] 26))
  have HR1 := hide True.intro
  go_wp2_with first | (clear HR1; go_at_call 37; refine ((HI.out.keep HK0.out).right _ _ _ _).mono ?_; rintro e w1 ⟨rfl, hk1⟩; have HK1 := hide (HK0.out.trans' hk1 (fun _ _ => id) (fun _ _ => id)); have HX1 := hide (HX0.out.keep hk1 id); have HY1 := hide (HY0.out.keep hk1 id); clear hk1 HX0 HY0 HK0; obtain ⟨y0, y1, y2, y3, y4, y5, y6⟩ := Blk.c7 (show Blk w1 (w.heap.size + 1) _ #[.int .u8 1, .bool ng', .slice A' n' c', .string { data := #[] }, .int .i64 0, .slice ia' 0 ic', .slice ta' 0 tc'] from HY1.out)) | (go_at_call 37; refine ((HI'.out.keep HK1.out).right _ _ _ _).mono ?_; rintro e w2 ⟨rfl, hk2⟩; have HK2 := hide (HK1.out.trans' hk2 (fun _ _ => id) (fun _ _ => id)); have HX2 := hide (HX1.out.keep hk2 id); have HY2 := hide (HY1.out.keep hk2 id); clear hk2 HX1 HY1 HK1 y0 y1 y2 y3 y4 y5 y6) | fail
  generalize w.heap.size = g at *
  refine order_begin (fun W => Keeps NoB w2.drew W) (fun _ => true) (by kernel_rfl) 7 rfl ?_
  have HX := hide (HX2.out.drew); have HY := hide (HY2.out.drew); have HK := hide (HK2.out.drew)
  clear HX2 HY2 HK2
  generalize w2.drew = W0 at *
  have HS : Keeps NoB W0 W0 := Keeps.refl _ _
  refine order_pure (i := 0) rfl (by kernel_rfl) (fun _ _ _ h => h) (.inl ⟨rfl, fun _ => by go_simp; rfl⟩) ?_
  try simp only [Act.put, List.setIfInBounds_toArray, List.set_cons_succ, List.set_cons_zero]
  refine order_pure (i := 3) rfl (by kernel_rfl) (fun _ _ _ h => h) (.inl ⟨rfl, fun _ => by go_simp; rfl⟩) ?_
  try simp only [Act.put, List.setIfInBounds_toArray, List.set_cons_succ, List.set_cons_zero]
  refine order_held (i := 1) rfl (by kernel_rfl) (fun _ _ _ h => h) (.inl ⟨rfl, fun W hW => by
    have q0 : W.cell? ⟨g, 0, none⟩ = some (.int .u8 1) := hW.cell id (HX.out.cell 0)
    have q1 : W.cell? ⟨g, 1, none⟩ = some (.bool ng) := hW.cell id (HX.out.cell 1)
    have q2 : W.cell? ⟨g, 2, none⟩ = some (.slice A n c) := hW.cell id (HX.out.cell 2)
    have q3 : W.cell? ⟨g, 3, none⟩ = some (.string { data := #[] }) := hW.cell id (HX.out.cell 3)
    have q4 : W.cell? ⟨g, 4, none⟩ = some (.int .i64 0) := hW.cell id (HX.out.cell 4)
    have q5 : W.cell? ⟨g, 5, none⟩ = some (.slice ia 0 ic) := hW.cell id (HX.out.cell 5)
    have q6 : W.cell? ⟨g, 6, none⟩ = some (.slice ta 0 tc) := hW.cell id (HX.out.cell 6)
    go_simp; rfl⟩) HS ?_
  try simp only [Act.put, List.setIfInBounds_toArray, List.set_cons_succ, List.set_cons_zero]
  refine order_held (i := 4) rfl (by kernel_rfl) (fun _ _ _ h => h) (.inl ⟨rfl, fun W hW => by
    have q0 : W.cell? ⟨g + 1, 0, none⟩ = some (.int .u8 1) := hW.cell id (HY.out.cell 0)
    have q1 : W.cell? ⟨g + 1, 1, none⟩ = some (.bool ng') := hW.cell id (HY.out.cell 1)
    have q2 : W.cell? ⟨g + 1, 2, none⟩ = some (.slice A' n' c') := hW.cell id (HY.out.cell 2)
    have q3 : W.cell? ⟨g + 1, 3, none⟩ = some (.string { data := #[] }) := hW.cell id (HY.out.cell 3)
    have q4 : W.cell? ⟨g + 1, 4, none⟩ = some (.int .i64 0) := hW.cell id (HY.out.cell 4)
    have q5 : W.cell? ⟨g + 1, 5, none⟩ = some (.slice ia' 0 ic') := hW.cell id (HY.out.cell 5)
    have q6 : W.cell? ⟨g + 1, 6, none⟩ = some (.slice ta' 0 tc') := hW.cell id (HY.out.cell 6)
    go_simp; rfl⟩) HS ?_
  try simp only [Act.put, List.setIfInBounds_toArray, List.set_cons_succ, List.set_cons_zero]
  refine order_one (i := 2) rfl (by kernel_rfl) (fun K hK => ?_)
  go_simp
  refine (sign_any _ _ _ _ _ _ _ _ _ _ _ _ _ W0).mono ?_
  rintro e w3 ⟨rfl, hk3⟩
  refine hK _ _ (fun _ hS => hS.trans' hk3 (fun _ _ => id) (fun _ _ => id)) ?_
  clear hK
  try simp only [Act.put, List.setIfInBounds_toArray, List.set_cons_succ, List.set_cons_zero]
  refine order_one (i := 5) rfl (by kernel_rfl) (fun K hK => ?_)
  go_simp
  refine (sign_any _ _ _ _ _ _ _ _ _ _ _ _ _ w3).mono ?_
  rintro e w4 ⟨rfl, hk4⟩
  refine hK _ _ (fun _ hS => hS.trans' hk4 (fun _ _ => id) (fun _ _ => id)) ?_
  clear hK
  try simp only [Act.put, List.setIfInBounds_toArray, List.set_cons_succ, List.set_cons_zero]
  rw [HQ.out, HQ'.out]
  refine order_pure (i := 6) rfl (by kernel_rfl) (fun _ _ _ h => h) (.inl ⟨rfl, fun _ => by go_simp; rfl⟩) ?_
  try simp only [Act.put, List.setIfInBounds_toArray, List.set_cons_succ, List.set_cons_zero]
  refine order_done (by kernel_rfl) ?_
  have HX4 := hide ((HX.out.keep hk3 id).keep hk4 id); have HY4 := hide ((HY.out.keep hk3 id).keep hk4 id); have HK4 := hide ((HK.out.trans' hk3 (fun _ _ => id) (fun _ _ => id)).trans' hk4 (fun _ _ => id) (fun _ _ => id))
  clear hk3 hk4 HX HY HK HS
  go_wp2
  refine order_begin (fun W => Keeps NoB w4.drew W) (fun _ => true) (by kernel_rfl) 12 rfl ?_
  have HX := hide (HX4.out.drew); have HY := hide (HY4.out.drew); have HK := hide (HK4.out.drew)
  clear HX4 HY4 HK4
  generalize w4.drew = W0 at *
  have HS : Keeps NoB W0 W0 := Keeps.refl _ _
  refine order_pure (i := 0) rfl (by kernel_rfl) (fun _ _ _ h => h) (.inl ⟨rfl, fun _ => by go_simp; rfl⟩) ?_
  try simp only [Act.put, List.setIfInBounds_toArray, List.set_cons_succ, List.set_cons_zero]
  refine order_pure (i := 2) rfl (by kernel_rfl) (fun _ _ _ h => h) (.inl ⟨rfl, fun _ => by go_simp; rfl⟩) ?_
  try simp only [Act.put, List.setIfInBounds_toArray, List.set_cons_succ, List.set_cons_zero]
  refine order_pure (i := 7) rfl (by kernel_rfl) (fun _ _ _ h => h) (.inl ⟨rfl, fun _ => by go_simp; rfl⟩) ?_
  try simp only [Act.put, List.setIfInBounds_toArray, List.set_cons_succ, List.set_cons_zero]
  refine order_held (i := 1) rfl (by kernel_rfl) (fun _ _ _ h => h) (.inl ⟨rfl, fun W hW => by
    have q0 : W.cell? ⟨g, 2, none⟩ = some (.slice A n c) := hW.cell id (HX.out.cell 2)
    go_simp; rfl⟩) HS ?_
  try simp only [Act.put, List.setIfInBounds_toArray, List.set_cons_succ, List.set_cons_zero]
  refine order_held (i := 3) rfl (by kernel_rfl) (fun _ _ _ h => h) (.inl ⟨rfl, fun W hW => by
    have q0 : W.cell? ⟨g + 1, 2, none⟩ = some (.slice A' n' c') := hW.cell id (HY.out.cell 2)
    go_simp; rfl⟩) HS ?_
  try simp only [Act.put, List.setIfInBounds_toArray, List.set_cons_succ, List.set_cons_zero]
  refine order_held (i := 8) rfl (by kernel_rfl) (fun _ _ _ h => h) (.inl ⟨rfl, fun W hW => by
    have q0 : W.cell? ⟨g, 0, none⟩ = some (.int .u8 1) := hW.cell id (HX.out.cell 0)
    have q1 : W.cell? ⟨g, 1, none⟩ = some (.bool ng) := hW.cell id (HX.out.cell 1)
    have q2 : W.cell? ⟨g, 2, none⟩ = some (.slice A n c) := hW.cell id (HX.out.cell 2)
    have q3 : W.cell? ⟨g, 3, none⟩ = some (.string { data := #[] }) := hW.cell id (HX.out.cell 3)
    have q4 : W.cell? ⟨g, 4, none⟩ = some (.int .i64 0) := hW.cell id (HX.out.cell 4)
    have q5 : W.cell? ⟨g, 5, none⟩ = some (.slice ia 0 ic) := hW.cell id (HX.out.cell 5)
    have q6 : W.cell? ⟨g, 6, none⟩ = some (.slice ta 0 tc) := hW.cell id (HX.out.cell 6)
    go_simp; rfl⟩) HS ?_
  try simp only [Act.put, List.setIfInBounds_toArray, List.set_cons_succ, List.set_cons_zero]
  refine order_one (i := 4) rfl (by kernel_rfl) (fun K hK => ?_)
  go_simp
  refine (amounts_any _ _ _ _ _ _ _ _ _ _ _ ((HI.out.keep HK.out).limbs) ((HI'.out.keep HK.out).limbs)).mono ?_
  rintro e w5 ⟨r, rfl, hr1, hr2, hr3, hr4, hk5⟩
  refine hK _ _ (fun _ hS => hS.trans' hk5 (fun _ _ => id) (fun _ _ => id)) ?_
  clear hK
  try simp only [Act.put, List.setIfInBounds_toArray, List.set_cons_succ, List.set_cons_zero]
  refine order_pure (i := 5) rfl (by kernel_rfl) (fun _ _ _ h => h) (.inl ⟨rfl, fun _ => by go_simp; rfl⟩) ?_
  try simp only [Act.put, List.setIfInBounds_toArray, List.set_cons_succ, List.set_cons_zero]
  refine order_pure (i := 6) rfl (by kernel_rfl) (fun _ _ _ h => h) (.inl ⟨rfl, fun _ => by go_simp; rfl⟩) ?_
  try simp only [Act.put, List.setIfInBounds_toArray, List.set_cons_succ, List.set_cons_zero]
  refine order_one (i := 9) rfl (by kernel_rfl) (fun K hK => ?_)
  go_simp
  refine (sign_any _ _ _ _ _ _ _ _ _ _ _ _ _ w5).mono ?_
  rintro e w6 ⟨rfl, hk6⟩
  refine hK _ _ (fun _ hS => hS.trans' hk6 (fun _ _ => id) (fun _ _ => id)) ?_
  clear hK
  try simp only [Act.put, List.setIfInBounds_toArray, List.set_cons_succ, List.set_cons_zero]
  rw [HQ.out]
  have hc := HC.out r hr3 hr4
  have HK6 := hide ((HK.out.trans' hk5 (fun _ _ => id) (fun _ _ => id)).trans' hk6 (fun _ _ => id) (fun _ _ => id))
  clear hk5 hk6 hr3 hr4 HX HY HK
  obtain ⟨z, hzz⟩ : ∃ z, z = cmpZ x y := ⟨_, rfl⟩
  have hz0 : IntKind.i64.wrap z = z := by rw [hzz]; unfold cmpZ; (repeat' split) <;> decide
  rw [← hzz] at hc
  have HZ := hide hzz; have HZ0 := hide hz0
  clear hzz hz0
  generalize (if (if 1 < r then 1 else r) < -1 then -1 else if 1 < r then 1 else r) = M at *
  generalize (if 1 < r then 1 else r) = M' at *
  clear HC
  refine order_pure (i := 10) rfl (by kernel_rfl) (fun _ _ _ h => h) (.inl ⟨rfl, fun _ => by go_simp; rfl⟩) ?_
  try simp only [Act.put, List.setIfInBounds_toArray, List.set_cons_succ, List.set_cons_zero]
  refine order_one (i := 11) rfl (by kernel_rfl) (fun K hK => ?_)
  go_simp
  refine hK _ _ (fun _ h => h) ?_
  clear hK
  try simp only [Act.put, List.setIfInBounds_toArray, List.set_cons_succ, List.set_cons_zero]
  refine order_done (by kernel_rfl) ?_
  go_wp2
  go_ret
  refine ⟨?_, HK6.out⟩
  show Ending.returned (.int .i64 (IntKind.i64.wrap z)) = _
  rw [HZ0.out, HZ.out]
set_option maxRecDepth 100000 in
theorem compare_other (ng ng' : Bool) (A A' ia ta ia' ta' : Option Addr) (n c n' c' ic tc ic' tc' : Nat) (x y : Int) (hg : ¬ ng = ng') (w : World) (B B' : Nat → Prop) (h : IA w B ng A n c x) (h' : IA w B' ng' A' n' c' y) :
    Calls Tryz.prog 51 #[.agg #[.int .u8 1, .bool ng, .slice A n c, .string { data := #[] }, .int .i64 0, .slice ia 0 ic, .slice ta 0 tc], .agg #[.int .u8 1, .bool ng', .slice A' n' c', .string { data := #[] }, .int .i64 0, .slice ia' 0 ic', .slice ta' 0 tc']] w fun e w' => e = .returned (.int .i64 (cmpZ x y)) ∧ Keeps NoB w w' := by
  have hs := h.sign; have hs' := h'.sign
  have HI := hide h; have HI' := hide h'
  clear h h'
  have he : cmpZ x y = signI ng := by
    unfold cmpZ signI
    rw [hs, hs'] at hg
    cases ng <;> cases ng' <;> simp_all <;> omega
  have hb : ((signI ng) != (signI ng')) = true := by unfold signI; cases ng <;> cases ng' <;> simp_all
  rw [he]
  clear he hs hs' hg
  generalize hq : signI ng = q at *
  generalize hq' : signI ng' = q' at *
  have HQ := hide hq; have HQ' := hide hq'
  clear hq hq'
  go_enter Tryz.func51, Tryz.ntmps51
  have HX0 := hide ((Blk.new w 26 #[.int .u8 1, .bool ng, .slice A n c, .string { data := #[] }, .int .i64 0, .slice ia 0 ic, .slice ta 0 tc]).alloc (.cells #[.int .u8 1, .bool ng', .slice A' n' c', .string { data := #[] }, .int .i64 0, .slice ia' 0 ic', .slice ta' 0 tc'] 26))
  have HY0 := hide (Blk.new2' w (.cells #[.int .u8 1, .bool ng, .slice A n c, .string { data := #[] }, .int .i64 0, .slice ia 0 ic, .slice ta 0 tc] 26) 26 #[.int .u8 1, .bool ng', .slice A' n' c', .string { data := #[] }, .int .i64 0, .slice ia' 0 ic', .slice ta' 0 tc'])
  have HK0 := hide (((Keeps.refl NoB w).alloc (.cells #[.int .u8 1, .bool ng, .slice A n c, .string { data := #[] }, .int .i64 0, .slice ia 0 ic, .slice ta 0 tc] 26)).alloc (.cells #[.int .u8 1, .bool ng', .slice A' n' c', .string { data := #[] }, .int .i64 0, .slice ia' 0 ic', .slice ta' 0 tc'] 26))
  have HR1 := hide True.intro
  go_wp2_with first | (clear HR1; go_at_call 37; refine ((HI.out.keep HK0.out).right _ _ _ _).mono ?_; rintro e w1 ⟨rfl, hk1⟩; have HK1 := hide (HK0.out.trans' hk1 (fun _ _ => id) (fun _ _ => id)); have HX1 := hide (HX0.out.keep hk1 id); have HY1 := hide (HY0.out.keep hk1 id); clear hk1 HX0 HY0 HK0; obtain ⟨y0, y1, y2, y3, y4, y5, y6⟩ := Blk.c7 (show Blk w1 (w.heap.size + 1) _ #[.int .u8 1, .bool ng', .slice A' n' c', .string { data := #[] }, .int .i64 0, .slice ia' 0 ic', .slice ta' 0 tc'] from HY1.out)) | (go_at_call 37; refine ((HI'.out.keep HK1.out).right _ _ _ _).mono ?_; rintro e w2 ⟨rfl, hk2⟩; have HK2 := hide (HK1.out.trans' hk2 (fun _ _ => id) (fun _ _ => id)); have HX2 := hide (HX1.out.keep hk2 id); have HY2 := hide (HY1.out.keep hk2 id); clear hk2 HX1 HY1 HK1 y0 y1 y2 y3 y4 y5 y6) | fail
  generalize w.heap.size = g at *
  refine order_begin (fun W => Keeps NoB w2.drew W) (fun _ => true) (by kernel_rfl) 7 rfl ?_
  have HX := hide (HX2.out.drew); have HY := hide (HY2.out.drew); have HK := hide (HK2.out.drew)
  clear HX2 HY2 HK2
  generalize w2.drew = W0 at *
  have HS : Keeps NoB W0 W0 := Keeps.refl _ _
  refine order_pure (i := 0) rfl (by kernel_rfl) (fun _ _ _ h => h) (.inl ⟨rfl, fun _ => by go_simp; rfl⟩) ?_
  try simp only [Act.put, List.setIfInBounds_toArray, List.set_cons_succ, List.set_cons_zero]
  refine order_pure (i := 3) rfl (by kernel_rfl) (fun _ _ _ h => h) (.inl ⟨rfl, fun _ => by go_simp; rfl⟩) ?_
  try simp only [Act.put, List.setIfInBounds_toArray, List.set_cons_succ, List.set_cons_zero]
  refine order_held (i := 1) rfl (by kernel_rfl) (fun _ _ _ h => h) (.inl ⟨rfl, fun W hW => by
    have q0 : W.cell? ⟨g, 0, none⟩ = some (.int .u8 1) := hW.cell id (HX.out.cell 0)
    have q1 : W.cell? ⟨g, 1, none⟩ = some (.bool ng) := hW.cell id (HX.out.cell 1)
    have q2 : W.cell? ⟨g, 2, none⟩ = some (.slice A n c) := hW.cell id (HX.out.cell 2)
    have q3 : W.cell? ⟨g, 3, none⟩ = some (.string { data := #[] }) := hW.cell id (HX.out.cell 3)
    have q4 : W.cell? ⟨g, 4, none⟩ = some (.int .i64 0) := hW.cell id (HX.out.cell 4)
    have q5 : W.cell? ⟨g, 5, none⟩ = some (.slice ia 0 ic) := hW.cell id (HX.out.cell 5)
    have q6 : W.cell? ⟨g, 6, none⟩ = some (.slice ta 0 tc) := hW.cell id (HX.out.cell 6)
    go_simp; rfl⟩) HS ?_
  try simp only [Act.put, List.setIfInBounds_toArray, List.set_cons_succ, List.set_cons_zero]
  refine order_held (i := 4) rfl (by kernel_rfl) (fun _ _ _ h => h) (.inl ⟨rfl, fun W hW => by
    have q0 : W.cell? ⟨g + 1, 0, none⟩ = some (.int .u8 1) := hW.cell id (HY.out.cell 0)
    have q1 : W.cell? ⟨g + 1, 1, none⟩ = some (.bool ng') := hW.cell id (HY.out.cell 1)
    have q2 : W.cell? ⟨g + 1, 2, none⟩ = some (.slice A' n' c') := hW.cell id (HY.out.cell 2)
    have q3 : W.cell? ⟨g + 1, 3, none⟩ = some (.string { data := #[] }) := hW.cell id (HY.out.cell 3)
    have q4 : W.cell? ⟨g + 1, 4, none⟩ = some (.int .i64 0) := hW.cell id (HY.out.cell 4)
    have q5 : W.cell? ⟨g + 1, 5, none⟩ = some (.slice ia' 0 ic') := hW.cell id (HY.out.cell 5)
    have q6 : W.cell? ⟨g + 1, 6, none⟩ = some (.slice ta' 0 tc') := hW.cell id (HY.out.cell 6)
    go_simp; rfl⟩) HS ?_
  try simp only [Act.put, List.setIfInBounds_toArray, List.set_cons_succ, List.set_cons_zero]
  refine order_one (i := 2) rfl (by kernel_rfl) (fun K hK => ?_)
  go_simp
  refine (sign_any _ _ _ _ _ _ _ _ _ _ _ _ _ W0).mono ?_
  rintro e w3 ⟨rfl, hk3⟩
  refine hK _ _ (fun _ hS => hS.trans' hk3 (fun _ _ => id) (fun _ _ => id)) ?_
  clear hK
  try simp only [Act.put, List.setIfInBounds_toArray, List.set_cons_succ, List.set_cons_zero]
  refine order_one (i := 5) rfl (by kernel_rfl) (fun K hK => ?_)
  go_simp
  refine (sign_any _ _ _ _ _ _ _ _ _ _ _ _ _ w3).mono ?_
  rintro e w4 ⟨rfl, hk4⟩
  refine hK _ _ (fun _ hS => hS.trans' hk4 (fun _ _ => id) (fun _ _ => id)) ?_
  clear hK
  try simp only [Act.put, List.setIfInBounds_toArray, List.set_cons_succ, List.set_cons_zero]
  rw [HQ.out, HQ'.out]
  refine order_pure (i := 6) rfl (by kernel_rfl) (fun _ _ _ h => h) (.inl ⟨rfl, fun _ => by go_simp; rfl⟩) ?_
  try simp only [Act.put, List.setIfInBounds_toArray, List.set_cons_succ, List.set_cons_zero]
  refine order_done (by kernel_rfl) ?_
  have HX4 := hide ((HX.out.keep hk3 id).keep hk4 id); have HY4 := hide ((HY.out.keep hk3 id).keep hk4 id); have HK4 := hide ((HK.out.trans' hk3 (fun _ _ => id) (fun _ _ => id)).trans' hk4 (fun _ _ => id) (fun _ _ => id))
  clear hk3 hk4 HX HY HK HS
  obtain ⟨x0, x1, x2, x3, x4, x5, x6⟩ := Blk.c7 (show Blk w4 (g) _ #[.int .u8 1, .bool ng, .slice A n c, .string { data := #[] }, .int .i64 0, .slice ia 0 ic, .slice ta 0 tc] from HX4.out)
  go_wp2_with (go_at_call 62; refine (sign_any _ _ _ _ _ _ _ _ _ _ _ _ _ w4).mono ?_; rintro e w5 ⟨rfl, hk5⟩; rw [HQ.out])
  go_ret
  exact ⟨rfl, HK4.out.trans' hk5 (fun _ _ => id) (fun _ _ => id)⟩
set_option maxRecDepth 100000 in
theorem compare_any (ng ng' : Bool) (A A' ia ta ia' ta' : Option Addr) (n c n' c' ic tc ic' tc' : Nat) (x y : Int) (w : World) (B B' : Nat → Prop) (h : IA w B ng A n c x) (h' : IA w B' ng' A' n' c' y) :
    Calls Tryz.prog 51 #[.agg #[.int .u8 1, .bool ng, .slice A n c, .string { data := #[] }, .int .i64 0, .slice ia 0 ic, .slice ta 0 tc], .agg #[.int .u8 1, .bool ng', .slice A' n' c', .string { data := #[] }, .int .i64 0, .slice ia' 0 ic', .slice ta' 0 tc']] w fun e w' => e = .returned (.int .i64 (cmpZ x y)) ∧ Keeps NoB w w' := by
  by_cases hg : ng = ng'
  · exact compare_same ng ng' A A' ia ta ia' ta' n c n' c' ic tc ic' tc' x y hg w B B' h h'
  · exact compare_other ng ng' A A' ia ta ia' ta' n c n' c' ic tc ic' tc' x y hg w B B' h h'
end Go.Proofs.YtjdbjjjbgibpaaaGreatDoor
namespace Go.Proofs.YtjdbjjjbgibpaaaGreatDoor
open Go.ChangeShapes Go.WideShapes Go.ChangeAt Go.RowKit Go.Deep

mutual
/-- What every term that comes in holds to. -/
def okT : Tm → Prop
  | .mk k _ limbs text num items tail => (0 ≤ k ∧ k ≤ 255) ∧ (∀ x ∈ limbs, 0 ≤ x ∧ x ≤ 4294967295) ∧ text.size ≤ 140737488355328 ∧ (-9223372036854775808 ≤ num ∧ num ≤ 9223372036854775807) ∧ okTs items ∧ okTs tail
def okTs : List Tm → Prop
  | [] => True
  | t :: ts => okT t ∧ okTs ts
end
/-- Cells that lie one behind the other. -/
theorem tm_cells_of {w : World} {base : Nat} {a : Addr} {n : Nat} {cs : List Value} (h : w.cells? base a n = some cs) (hn : 0 < n) : a.spot = none ∧ cs.length = n ∧ ∀ j, j < n → w.cell? ⟨a.block, a.off + j, none⟩ = cs[j]? := by
  obtain ⟨_, hl, hc⟩ := World.cells?_some h
  have h0 := hc 0 hn
  rw [List.getElem?_eq_getElem (by omega)] at h0
  have hs : a.spot = none := by simpa [Addr.add] using World.cell?_spot h0
  refine ⟨hs, hl, fun j hj => ?_⟩
  rw [← hc j hj, Addr.add_eq _ _ hs]
theorem Tryz.tmcells26 : Tryz.prog.cellsOf 26 = 7 := by kernel_rfl
theorem Tryz.tmcells22 : Tryz.prog.cellsOf 22 = 1 := by kernel_rfl
theorem Tryz.tmcells4 : Tryz.prog.cellsOf 4 = 1 := by kernel_rfl
theorem Tryz.tmcells23 : Tryz.prog.cellsOf 23 = 1 := by kernel_rfl
theorem Tryz.tmcells9 : Tryz.prog.cellsOf 9 = 1 := by kernel_rfl
theorem Tryz.tmcells3 : Tryz.prog.cellsOf 3 = 1 := by kernel_rfl
theorem Tryz.tmcells24 : Tryz.prog.cellsOf 24 = 1 := by kernel_rfl
theorem Tryz.tmcells86 : Tryz.prog.cellsOf 86 = 1 := by kernel_rfl
theorem Tryz.tmbytesT : Tryz.prog.bytesOf 26 = 104 := by kernel_rfl
theorem Tryz.tmbytesL : Tryz.prog.bytesOf 86 = 4 := by kernel_rfl

theorem tm_mem_weightsAll {H : Type} {P : Program} {e : TypeId} : ∀ {ds : List (DataW H)} {d : DataW H} {n : Nat}, d ∈ ds → n ∈ d.weights P e → n ∈ DataW.weightsAll P e ds
  | [], _, _, h, _ => absurd h (by simp)
  | d0 :: ds, d, n, h, hn => by
    unfold DataW.weightsAll
    rcases List.mem_cons.1 h with rfl | h
    · exact List.mem_append_left _ hn
    · exact List.mem_append_right _ (tm_mem_weightsAll h hn)

theorem tm_size_list (tx : ByteArray) : tx.data.toList.length = tx.size := Array.length_toList

theorem tm_blk_lt {w : World} {b o : Nat} {v : Value} (h : w.cell? ⟨b, o, none⟩ = some v) : b < w.heap.size := World.block_lt_of_cell? w _ h

/-- Rows of seven. -/
theorem tm_rows_of {w : World} {B : Nat → Prop} {b o : Nat} : ∀ (m : Nat), (∀ i, i < m → ∃ (cs : List Value) (t : Tm), (∀ j, j < 7 → w.cell? ⟨b, o + i * 7 + j, none⟩ = cs[j]?) ∧ TermIn w B false cs t ∧ okT t) →
    ∃ (css : List (List Value)) (ts : List Tm), css.length = m ∧ TermsIn w B false css ts ∧ okTs ts ∧ ∀ k, k < m * 7 → w.cell? ⟨b, o + k, none⟩ = css.flatten[k]?
  | 0, _ => ⟨[], [], rfl, by unfold TermsIn; trivial, by unfold okTs; trivial, fun k hk => absurd hk (by omega)⟩
  | m + 1, h => by
    obtain ⟨css, ts, hl, ht, hf, hc⟩ := tm_rows_of m (fun i hi => h i (by omega))
    obtain ⟨cs, t, hcs, htt, hft⟩ := h m (by omega)
    have h7 := htt.len
    have hfl : css.flatten.length = m * 7 := by rw [flat_len ht.lens.2, hl]
    refine ⟨css ++ [cs], ts ++ [t], by simp [hl], TermsIn.append ht (TermsIn.one htt), ?_, fun k hk => ?_⟩
    · clear hc hcs hl ht
      induction ts with
      | nil => unfold okTs; exact ⟨hft, by unfold okTs; trivial⟩
      | cons a ts ih => unfold okTs at hf; exact ⟨hf.1, ih hf.2⟩
    · rw [List.flatten_append]
      by_cases hkm : k < m * 7
      · rw [List.getElem?_append_left (by omega)]; exact hc k hkm
      · rw [List.getElem?_append_right (by omega), hfl]
        have := hcs (k - m * 7) (by omega)
        rw [show o + m * 7 + (k - m * 7) = o + k by omega] at this
        rw [this]; simp

section
variable {H : Type} {enc : TypeId × Value → H} {w : World} {base : Nat} {spare : Nat → Bool} {held : Bool}

theorem tm_slice_shape {fuel : Nat} {t e : TypeId} (ht : Tryz.prog.underlying t = some (.slice e)) {v : Value} {x : DataW H × List MemPlace} (h : DataW.trod enc Tryz.prog w base spare held fuel t [v] = some x) : ∃ A n c, v = .slice A n c := by
  rcases DataW.trod_slice ht h with ⟨e, _⟩ | ⟨a, len, cap, _, _, _, _, e, _⟩
  · exact ⟨none, 0, 0, by simpa using e⟩
  · exact ⟨some a, len, cap, by simpa using e⟩

theorem tm_int_ones {fuel : Nat} {k : IntKind} {t : TypeId} (ht : Tryz.prog.underlying t = some (.int k)) {v : Value} {x : DataW H × List MemPlace} (h : DataW.trod enc Tryz.prog w base spare held fuel t [v] = some x) : ∃ n, v = .int k n ∧ (Lit.int k n).wf = true := by
  obtain ⟨n, e, _, hw⟩ := DataW.trod_int ht h
  exact ⟨n, by simpa using e, hw⟩

set_option maxRecDepth 100000 in
theorem tm_open_limbs {fuel : Nat} {A : Option Addr} {n c : Nat} {x : DataW H × List MemPlace} (h : DataW.trod enc Tryz.prog w base spare held fuel 23 [.slice A n c] = some x) (hw : ∀ m ∈ x.1.weights Tryz.prog 23, m ≤ reachBytes) :
    ∃ limbs : List Int, Reads w (fun k => k < w.heap.size) false 1 A n (limbs.map (Value.int .u32)) ∧ (∀ x ∈ limbs, 0 ≤ x ∧ x ≤ 4294967295) ∧ Roomy n 4 ∧ n ≤ c ∧ c ≤ maxLen := by
  rcases DataW.trod_slice Tryz.underlying23 h with ⟨e, _⟩ | ⟨a, len, cap, elems, rest, k, _, e, hx, _, hl, hcap, hlen, hi, _, _⟩
  · simp only [List.cons.injEq, Value.slice.injEq, and_true] at e
    obtain ⟨rfl, rfl, rfl⟩ := e
    exact ⟨[], Reads.zero _ _ _ _ _, (fun _ h => by cases h), by unfold Roomy; omega, Nat.le_refl _, Nat.zero_le _⟩
  · simp only [List.cons.injEq, Value.slice.injEq, and_true] at e
    obtain ⟨rfl, rfl, rfl⟩ := e
    have hroom : Roomy n 4 := by
      have := hw ((elems.length + rest.length) * 4) (by rw [hx]; simp [DataW.weights, Tryz.underlying23, Tryz.tmbytesL])
      unfold Roomy; unfold reachBytes at this; omega
    have hat : ∀ i, i < n → ∃ z, a.spot = none ∧ w.cell? ⟨a.block, a.off + i, none⟩ = some (.int .u32 z) ∧ 0 ≤ z ∧ z ≤ 4294967295 := by
      intro i hin
      have h1 := hi i hin
      rw [List.getElem?_eq_getElem (by omega)] at h1
      obtain ⟨cs', hc, ht⟩ := Option.bind_eq_some_iff.1 h1
      have h0 := hi 0 (by omega)
      rw [List.getElem?_eq_getElem (by omega)] at h0
      obtain ⟨cs0, hc0, _⟩ := Option.bind_eq_some_iff.1 h0
      rw [Tryz.tmcells86] at hc hc0
      have hsp : a.spot = none := by simpa [Addr.add] using (tm_cells_of hc0 (by omega)).1
      obtain ⟨_, h1', hat⟩ := tm_cells_of hc (by omega)
      have hcell := hat 0 (by omega)
      obtain ⟨z, e, _, hwf⟩ := DataW.trod_int Tryz.underlying86 ht
      rw [e, Addr.add_eq _ _ hsp] at hcell
      simp only [Lit.wf, Bool.and_eq_true, decide_eq_true_eq] at hwf
      exact ⟨z, hsp, by simpa using hcell, hwf⟩
    have hl : ∀ m, m ≤ n → ∃ zs : List Int, zs.length = m ∧ (∀ x ∈ zs, 0 ≤ x ∧ x ≤ 4294967295) ∧ ∀ i, i < m → w.cell? ⟨a.block, a.off + i, none⟩ = (zs.map (Value.int .u32))[i]? := by
      intro m
      induction m with
      | zero => intro _; exact ⟨[], rfl, (fun _ h => by cases h), fun i hi => absurd hi (by omega)⟩
      | succ m ih =>
        intro hm
        obtain ⟨zs, hz, hlow, hc⟩ := ih (by omega)
        obtain ⟨z, _, hz2, hz3⟩ := hat m (by omega)
        refine ⟨zs ++ [z], by simp [hz], fun x hx => ?_, fun i hi => ?_⟩
        · rcases List.mem_append.1 hx with hx | hx
          · exact hlow x hx
          · simp at hx; subst hx; exact hz3
        rw [List.map_append]
        by_cases him : i < m
        · rw [List.getElem?_append_left (by simpa [hz] using him)]; exact hc i him
        · obtain rfl : i = m := by omega
          rw [List.getElem?_append_right (by simp [hz]), hz2]; simp [hz]
    obtain ⟨zs, hz, hlow, hc⟩ := hl n (Nat.le_refl _)
    refine ⟨zs, ⟨by simp [hz], fun hn => ?_⟩, hlow, hroom, by assumption, hcap⟩
    obtain ⟨z, hs, hz0, _⟩ := hat 0 hn
    exact ⟨a, rfl, hs, tm_blk_lt hz0, tm_blk_lt hz0, fun j u hu => ⟨by
      have hj : j < n := by
        have := (List.getElem?_eq_some_iff.1 hu).1
        simpa [hz] using this
      rw [hc j hj]; exact hu, fun e => by cases e⟩⟩

theorem tm_field_of {n : Nat} {fs : Array Field} {cs : List Value} {xs : List (DataW H × List MemPlace)} (hf : ∀ (i : Nat) (f : Field), fs[i]? = some f → DataW.trod enc Tryz.prog w base spare held n f.type ((cs.drop f.offset).take (Tryz.prog.cellsOf f.type)) = xs[i]?) (i : Nat) (f : Field) (h : fs[i]? = some f) (t : TypeId) (o : Nat) (ht : f.type = t) (ho : f.offset = o) (h1 : Tryz.prog.cellsOf t = 1) {v : Value} {x : DataW H × List MemPlace} (hv : cs[o]? = some v) (hx : xs[i]? = some x) : DataW.trod enc Tryz.prog w base spare held n t [v] = some x := by
  have h2 := hf i f h
  rw [ht, ho, h1, hx] at h2
  obtain ⟨hlt, e⟩ := List.getElem?_eq_some_iff.1 hv
  rw [List.drop_eq_getElem_cons hlt, e] at h2
  exact h2

def TmOpenSaid (enc : TypeId × Value → H) (w : World) (base : Nat) (spare : Nat → Bool) (held : Bool) (fuel : Nat) : Prop := ∀ (cs : List Value) (x : DataW H × List MemPlace), DataW.trod enc Tryz.prog w base spare held fuel 26 cs = some x → (∀ m ∈ x.1.weights Tryz.prog 26, m ≤ reachBytes) →
  ∃ t, TermIn w (fun k => k < w.heap.size) false cs t ∧ okT t

set_option maxRecDepth 100000 in
theorem tm_open_terms_of {fuel : Nat} (IH : ∀ f, f < fuel → TmOpenSaid enc w base spare held f) {A : Option Addr} {n c : Nat} {x : DataW H × List MemPlace} (h : DataW.trod enc Tryz.prog w base spare held fuel 24 [.slice A n c] = some x) (hw : ∀ m ∈ x.1.weights Tryz.prog 24, m ≤ reachBytes) :
    ∃ (css : List (List Value)) (ts : List Tm), Reads w (fun k => k < w.heap.size) false 7 A n css.flatten ∧ TermsIn w (fun k => k < w.heap.size) false css ts ∧ okTs ts ∧ RoomC n c 104 := by
  rcases DataW.trod_slice Tryz.underlying24 h with ⟨e, _⟩ | ⟨a, len, cap, elems, rest, k, hfu, e, hx, _, hl, hcap, hlen, hi, _, _⟩
  · simp only [List.cons.injEq, Value.slice.injEq, and_true] at e
    obtain ⟨rfl, rfl, rfl⟩ := e
    exact ⟨[], [], Reads.zero _ _ _ _ _, by unfold TermsIn; trivial, by unfold okTs; trivial, RoomC.zero _⟩
  · simp only [List.cons.injEq, Value.slice.injEq, and_true] at e
    obtain ⟨rfl, rfl, rfl⟩ := e
    have hroom : RoomC n c 104 := by
      refine ⟨?_, by assumption, hcap⟩
      clear hcap
      have := hw ((elems.length + rest.length) * 104) (by rw [hx]; simp [DataW.weights, Tryz.underlying24, Tryz.tmbytesT])
      unfold Roomy; unfold reachBytes at this; omega
    have hsub : ∀ d ∈ elems.map (·.1), ∀ m ∈ d.weights Tryz.prog 26, m ≤ reachBytes := by
      intro d hd m hm
      refine hw m ?_
      rw [hx]
      simp only [DataW.weights, Tryz.underlying24]
      exact List.mem_cons_of_mem _ (List.mem_append_left _ (tm_mem_weightsAll hd hm))
    by_cases hn : n = 0
    · subst hn
      exact ⟨[], [], Reads.zero _ _ _ _ _, by unfold TermsIn; trivial, by unfold okTs; trivial, hroom⟩
    · have h0 := hi 0 (by omega)
      rw [List.getElem?_eq_getElem (by omega)] at h0
      obtain ⟨cs0, hc0, _⟩ := Option.bind_eq_some_iff.1 h0
      rw [Tryz.tmcells26] at hc0
      have hsp : a.spot = none := by simpa [Addr.add] using (tm_cells_of hc0 (by omega)).1
      obtain ⟨css, ts, hcl, ht, hf, hc⟩ := tm_rows_of (w := w) (B := fun k => k < w.heap.size) (b := a.block) (o := a.off) n (fun i hin => by
        have h1 := hi i hin
        rw [List.getElem?_eq_getElem (by omega)] at h1
        obtain ⟨cs', hc, ht⟩ := Option.bind_eq_some_iff.1 h1
        obtain ⟨t, h2, h3⟩ := IH k (by omega) cs' _ ht (hsub _ (List.mem_map_of_mem (List.getElem_mem _)))
        rw [Tryz.tmcells26] at hc
        obtain ⟨_, _, hat⟩ := tm_cells_of hc (by omega)
        rw [Addr.add_eq _ _ hsp] at hat
        exact ⟨cs', t, hat, h2, h3⟩)
      have hfl : css.flatten.length = n * 7 := by rw [flat_len ht.lens.2, hcl]
      refine ⟨css, ts, ⟨hfl, fun _ => ?_⟩, ht, hf, hroom⟩
      have hb : a.block < w.heap.size := by
        have h1 := hc 0 (by omega)
        rw [List.getElem?_eq_getElem (by omega)] at h1
        exact tm_blk_lt h1
      exact ⟨a, rfl, hsp, hb, hb, fun j u hu => ⟨by
        have hj : j < n * 7 := by rw [← hfl]; exact (List.getElem?_eq_some_iff.1 hu).1
        rw [hc j hj]; exact hu, fun e => by cases e⟩⟩

set_option maxRecDepth 100000 in
theorem tm_open_term (fuel : Nat) : TmOpenSaid enc w base spare held fuel := by
  induction fuel using Nat.strongRecOn with
  | ind fuel IH =>
  intro cs x h hw
  obtain ⟨xs, n, hfu, hx, h7, hlen, hf⟩ := DataW.trod_struct Tryz.underlying26 h
  have hxl : xs.length = 7 := hlen
  rw [Tryz.tmcells26] at h7
  have hwe : ∀ (j : Nat) (t : TypeId) (d : DataW H), (([22, 4, 23, 9, 3, 24, 24] : List TypeId))[j]? = some t → (xs.map (·.1))[j]? = some d → ∀ m ∈ d.weights Tryz.prog t, m ≤ reachBytes := by
    intro j t d h1 h2 m hm
    refine hw m ?_
    rw [hx]
    simp only [DataW.weights, Tryz.underlying26]
    exact DataW.weights_mem_each h1 h2 m hm
  match cs, h7, xs, hxl, hwe, hf with
  | [v0, v1, v2, v3, v4, v5, v6], _, [x0, x1, x2, x3, x4, x5, x6], _, hwe, hf =>
    have f0 := tm_field_of hf 0 _ rfl 22 0 rfl rfl Tryz.tmcells22 (v := v0) (x := x0) rfl rfl
    have f1 := tm_field_of hf 1 _ rfl 4 1 rfl rfl Tryz.tmcells4 (v := v1) (x := x1) rfl rfl
    have f2 := tm_field_of hf 2 _ rfl 23 2 rfl rfl Tryz.tmcells23 (v := v2) (x := x2) rfl rfl
    have f3 := tm_field_of hf 3 _ rfl 9 3 rfl rfl Tryz.tmcells9 (v := v3) (x := x3) rfl rfl
    have f4 := tm_field_of hf 4 _ rfl 3 4 rfl rfl Tryz.tmcells3 (v := v4) (x := x4) rfl rfl
    have f5 := tm_field_of hf 5 _ rfl 24 5 rfl rfl Tryz.tmcells24 (v := v5) (x := x5) rfl rfl
    have f6 := tm_field_of hf 6 _ rfl 24 6 rfl rfl Tryz.tmcells24 (v := v6) (x := x6) rfl rfl
    obtain ⟨kd, rfl, hkd⟩ := tm_int_ones Tryz.underlying22 f0
    obtain ⟨ng, eb, _⟩ := DataW.trod_bool Tryz.underlying4 f1
    obtain rfl : v1 = .bool ng := by simpa using eb
    obtain ⟨la, ln, lc, rfl⟩ := tm_slice_shape Tryz.underlying23 f2
    obtain ⟨tx, es, hxs, _⟩ := DataW.trod_string Tryz.underlying9 f3
    obtain rfl : v3 = .string tx := by simpa using es
    obtain ⟨nm, rfl, hnm⟩ := tm_int_ones Tryz.underlying3 f4
    obtain ⟨ia, im, ic, rfl⟩ := tm_slice_shape Tryz.underlying24 f5
    obtain ⟨ta, tn, tc, rfl⟩ := tm_slice_shape Tryz.underlying24 f6
    obtain ⟨limbs, hl1, hl3, hl2, hl4, hl5⟩ := tm_open_limbs f2 (hwe 2 23 _ rfl rfl)
    obtain ⟨css, items, hi1, hi2, hi3, hi4⟩ := tm_open_terms_of (fun f hf => IH f (by omega)) f5 (hwe 5 24 _ rfl rfl)
    obtain ⟨dss, tail, ht1, ht2, ht3, ht4⟩ := tm_open_terms_of (fun f hf => IH f (by omega)) f6 (hwe 6 24 _ rfl rfl)
    have htx : tx.size ≤ 140737488355328 := by
      have := hwe 3 9 _ rfl rfl tx.data.toList.length (by rw [hxs]; simp [DataW.weights])
      rw [tm_size_list] at this
      unfold reachBytes at this; omega
    exact ⟨.mk kd ng limbs tx nm items tail, by unfold TermIn; exact ⟨la, ln, lc, ia, im, ic, ta, tn, tc, css, dss, rfl, ⟨⟨hl2, hl4, hl5⟩, hi4, ht4⟩, hl1, hi1, hi2, ht1, ht2⟩, by
      simp only [Lit.wf, Bool.and_eq_true, decide_eq_true_eq] at hkd hnm
      unfold okT; exact ⟨hkd, hl3, htx, hnm, hi3, ht3⟩⟩
end
end Go.Proofs.YtjdbjjjbgibpaaaGreatDoor
