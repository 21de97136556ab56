/- small; what times and div of both sides tell, alike. -/
import Derived.Test.YtfehciiidmgopaaRDiv
import Derived.Test.YtfehciiidmgopaaSame
namespace Go.Proofs.Ytfehciiidmgopaa
open Go.RowKit




set_option maxRecDepth 100000 in
theorem small_any {w : World} {B B' : Nat → Prop} {r r' : Bool} {cs ds : Array Value} (ha : TermA w B r cs) (hb : TermA w B' r' ds) : ∃ b : Bool, ∀ w1, Calls Try.prog 10 #[.agg cs, .agg ds] w1 fun e w' => e = .returned (.bool b) ∧ Keeps NoB w1 w' := by
  obtain ⟨kd, ng, la, ln, lc, tx, nm, ia, im, ic, ta, tm, tc, l, rfl, hl, hi, ht, hr⟩ := ha
  obtain ⟨kd', ng', la', ln', lc', tx', nm', ia', im', ic', ta', tm', tc', l', rfl, hl', hi', ht', hr'⟩ := hb
  have h1 := Nat.le_trans hl.cap hl.max; have h2 := Nat.le_trans hl'.cap hl'.max
  unfold maxLen at h1 h2
  clear hl hl' hr hr'
  by_cases h80 : wrap64 ((ln : Int) + (ln' : Int)) ≤ 80
  · have d1 : decide (wrap64 ((ln : Int) + (ln' : Int)) ≤ 80) = true := decide_eq_true h80
    clear h80
    by_cases h50 : im + im' + tm + tm' ≤ 50
    · have d2 : decide ((im : Int) + (im' : Int) + (tm : Int) + (tm' : Int) ≤ 50) = true := decide_eq_true (by omega)
      clear h50
      refine ⟨true, fun w1 => ?_⟩
      go_enter Try.func10, Try.ntmps10
      go_wp2
      go_ret
      exact ⟨rfl, ((Keeps.refl _ _).alloc _).alloc _⟩
    · have d2 : decide ((im : Int) + (im' : Int) + (tm : Int) + (tm' : Int) ≤ 50) = false := decide_eq_false (by omega)
      clear h50
      refine ⟨false, fun w1 => ?_⟩
      go_enter Try.func10, Try.ntmps10
      go_wp2
      go_ret
      exact ⟨rfl, ((Keeps.refl _ _).alloc _).alloc _⟩
  · have d1 : decide (wrap64 ((ln : Int) + (ln' : Int)) ≤ 80) = false := decide_eq_false h80
    clear h80
    refine ⟨false, fun w1 => ?_⟩
    go_enter Try.func10, Try.ntmps10
    go_wp2
    go_ret
    exact ⟨rfl, ((Keeps.refl _ _).alloc _).alloc _⟩

/-! ### Alike -/
def LikeP (w : World) (kd : Int) (ng : Bool) (l : List Nat) (ok : Bool) (e : Ending) (w' : World) : Prop := ∃ A n c, e = .returned (.tuple #[.agg #[.int .u8 kd, .bool ng, .slice A n c, .string { data := #[] }, .int .i64 0, .slice none 0 0, .slice none 0 0], .bool ok]) ∧ LimbsIn w' (fun k => w.heap.size ≤ k) A n c l ∧ Keeps NoB w w'
theorem any_like (z : Int) : ∃ kd ng l ok, ∀ w e w', AnyP w z e w' → LikeP w kd ng l ok e w' := by
  by_cases h : z.natAbs < Big
  · refine ⟨1, decide (z < 0), dig z.natAbs, true, fun w e w' ⟨kd, ng, A, n, c, ok, he, hk, hkp⟩ => ?_⟩
    rcases hk with ⟨rfl, rfl, hi⟩ | ⟨_, _, _, _, _, _, hbig⟩
    · exact ⟨A, n, c, by rw [he, hi.sign], hi.limbs, hkp⟩
    · omega
  · refine ⟨0, false, [], false, fun w e w' ⟨kd, ng, A, n, c, ok, he, hk, hkp⟩ => ?_⟩
    rcases hk with ⟨rfl, rfl, hi⟩ | ⟨rfl, rfl, rfl, rfl, rfl, rfl, _⟩
    · exact absurd hi.room h
    · exact ⟨none, 0, 0, he, LimbsIn.nil _ _ _ _ (Nat.zero_le _), hkp⟩
theorem no_like : ∀ w e w', NoP w e w' → LikeP w 0 false [] false e w' := fun w e w' ⟨he, hkp⟩ => ⟨none, 0, 0, he, LimbsIn.nil _ _ _ _ (Nat.zero_le _), hkp⟩
def LikeP2 (w : World) (kd : Int) (ngq : Bool) (lq : List Nat) (ngr : Bool) (lr : List Nat) (ok : Bool) (e : Ending) (w' : World) : Prop := ∃ Aq nq cq Ar nr cr, e = .returned (.tuple #[.agg #[.int .u8 kd, .bool ngq, .slice Aq nq cq, .string { data := #[] }, .int .i64 0, .slice none 0 0, .slice none 0 0], .agg #[.int .u8 kd, .bool ngr, .slice Ar nr cr, .string { data := #[] }, .int .i64 0, .slice none 0 0, .slice none 0 0], .bool ok]) ∧ LimbsIn w' (fun k => w.heap.size ≤ k) Aq nq cq lq ∧ LimbsIn w' (fun k => w.heap.size ≤ k) Ar nr cr lr ∧ Keeps NoB w w'
theorem div_like (x y : Int) : ∀ w e w', DivP w x y e w' → LikeP2 w 1 (decide (x.tdiv y < 0)) (dig (x.tdiv y).natAbs) (decide (x.tmod y < 0)) (dig (x.tmod y).natAbs) true e w' := by
  rintro w e w' ⟨ngq, Aq, nq, cq, ngr, Ar, nr, cr, rfl, iq, ir, hk⟩
  exact ⟨Aq, nq, cq, Ar, nr, cr, by rw [iq.sign, ir.sign], iq.limbs, ir.limbs, hk⟩
theorem no_like2 : ∀ w e w', NoP2 w e w' → LikeP2 w 0 false [] false [] false e w' := fun w e w' ⟨he, hkp⟩ => ⟨none, 0, 0, none, 0, 0, he, LimbsIn.nil _ _ _ _ (Nat.zero_le _), LimbsIn.nil _ _ _ _ (Nat.zero_le _), hkp⟩

theorem times_same {w : World} {B B' : Nat → Prop} {r r' : Bool} {cs ds : Array Value} (ha : TermA w B r cs) (hb : TermA w B' r' ds) : ∃ kd ng l ok, ∀ w1, Keeps NoB w w1 →
    Calls Try.prog 11 #[.agg cs, .agg ds] w1 (LikeP w1 kd ng l ok) ∧ Calls Try.prog 12 #[.agg cs, .agg ds] w1 (LikeP w1 kd ng l ok) := by
  cases r with
  | false => exact ⟨_, _, _, _, fun w1 hk => ⟨(times_bad1 (ha.keep hk) (hb.keep hk)).mono (no_like w1), (rtimes_bad1 (ha.keep hk) (hb.keep hk)).mono (no_like w1)⟩⟩
  | true => cases r' with
    | false => exact ⟨_, _, _, _, fun w1 hk => ⟨(times_bad2 (ha.keep hk) (hb.keep hk)).mono (no_like w1), (rtimes_bad2 (ha.keep hk) (hb.keep hk)).mono (no_like w1)⟩⟩
    | true =>
      obtain ⟨ng, A, n, c, x, ia, ta, ic, tc, rfl, i1⟩ := ha.int
      obtain ⟨ng', A', n', c', y, ia', ta', ic', tc', rfl, i2⟩ := hb.int
      obtain ⟨kd, ngz, l, ok, hl⟩ := any_like (x * y)
      exact ⟨kd, ngz, l, ok, fun w1 hk => ⟨(times_any _ _ _ _ _ _ _ _ _ _ _ _ _ _ _ _ x y w1 _ _ (i1.keep hk) (i2.keep hk)).mono (hl w1), (rtimes_any _ _ _ _ _ _ _ _ _ _ _ _ _ _ _ _ x y w1 _ _ (i1.keep hk) (i2.keep hk)).mono (hl w1)⟩⟩
theorem div_same {w : World} {B B' : Nat → Prop} {r r' : Bool} {cs ds : Array Value} (ha : TermA w B r cs) (hb : TermA w B' r' ds) : ∃ kd ngq lq ngr lr ok, ∀ w1, Keeps NoB w w1 →
    Calls Try.prog 13 #[.agg cs, .agg ds] w1 (LikeP2 w1 kd ngq lq ngr lr ok) ∧ Calls Try.prog 14 #[.agg cs, .agg ds] w1 (LikeP2 w1 kd ngq lq ngr lr ok) := by
  cases r with
  | false => exact ⟨_, _, _, _, _, _, fun w1 hk => ⟨(div_bad1 (ha.keep hk) (hb.keep hk)).mono (no_like2 w1), (rdiv_bad1 (ha.keep hk) (hb.keep hk)).mono (no_like2 w1)⟩⟩
  | true => cases r' with
    | false => exact ⟨_, _, _, _, _, _, fun w1 hk => ⟨(div_bad2 (ha.keep hk) (hb.keep hk)).mono (no_like2 w1), (rdiv_bad2 (ha.keep hk) (hb.keep hk)).mono (no_like2 w1)⟩⟩
    | true =>
      obtain ⟨ng', A', n', c', y, ia', ta', ic', tc', rfl, i2⟩ := hb.int
      by_cases hy : y = 0
      · subst hy
        have hn : n' = 0 := by
          have h1 := i2.limbs.len
          rw [show (0 : Int).natAbs = 0 from rfl, dig_zero] at h1
          exact h1.symm
        subst hn
        exact ⟨_, _, _, _, _, _, fun w1 hk => ⟨(div_zero (ha.keep hk) (i2.keep hk)).mono (no_like2 w1), (rdiv_zero (ha.keep hk) (i2.keep hk)).mono (no_like2 w1)⟩⟩
      · obtain ⟨ng, A, n, c, x, ia, ta, ic, tc, rfl, i1⟩ := ha.int
        exact ⟨_, _, _, _, _, _, fun w1 hk => ⟨(div_any _ _ _ _ _ _ _ _ _ _ _ _ _ _ _ _ x y w1 _ _ (i1.keep hk) (i2.keep hk) hy).mono (div_like x y w1), (rdiv_any _ _ _ _ _ _ _ _ _ _ _ _ _ _ _ _ x y w1 _ _ (i1.keep hk) (i2.keep hk) hy).mono (div_like x y w1)⟩⟩
end Go.Proofs.Ytfehciiidmgopaa
