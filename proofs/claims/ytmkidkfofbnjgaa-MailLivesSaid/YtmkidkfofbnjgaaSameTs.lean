/- pigeonholekit: SameTerms. -/
import Derived.Test.YtmkidkfofbnjgaaSameT
import Derived.Deep.LoopGhost
namespace Go.Proofs.Ytmkidkfofbnjgaa
open Go.RowKit

theorem eqTs_step {ts us : List Tm} {k : Nat} {t u : Tm} (h1 : ts[k]? = some t) (h2 : us[k]? = some u) : eqTs (ts.drop k) (us.drop k) = (eqT t u && eqTs (ts.drop (k + 1)) (us.drop (k + 1))) := by
  obtain ⟨a1, e1⟩ := List.getElem?_eq_some_iff.1 h1
  obtain ⟨a2, e2⟩ := List.getElem?_eq_some_iff.1 h2
  rw [List.drop_eq_getElem_cons a1, List.drop_eq_getElem_cons a2, e1, e2, eqTs]

theorem eqTs_len : ∀ {ts us : List Tm}, ts.length ≠ us.length → eqTs ts us = false
  | [], [], h => absurd rfl h
  | [], _ :: _, _ => by unfold eqTs; rfl
  | _ :: _, [], _ => by unfold eqTs; rfl
  | t :: ts, u :: us, h => by unfold eqTs; rw [eqTs_len (ts := ts) (us := us) (by simpa using h), Bool.and_false]

theorem Tm.size_pos (t : Tm) : 0 < t.size := by cases t; simp only [Tm.size]; omega

def TsInv (w : World) (ts us : List Tm) (k : Nat) (wr : World) : Prop := Keeps NoB w wr ∧ eqTs ts us = eqTs (ts.drop k) (us.drop k)

/-- The cells of the k-th, where they lie. -/
theorem cells_at {w : World} {B : Nat → Prop} {F : Bool} {ts : List Tm} {css : List (List Value)} {A : Option Addr} {n : Nat} (hr : Reads w B F 7 A n css.flatten) (ht : TermsIn w B F css ts) (k : Nat) (hk : k < n) :
    ∃ b o kd ng la ln lc tx nm ia im ic ta tn tc t, A = some ⟨b, o, none⟩ ∧ ts[k]? = some t ∧ TermIn w B F [.int .u8 kd, .bool ng, .slice la ln lc, .string tx, .int .i64 nm, .slice ia im ic, .slice ta tn tc] t ∧ t.size ≤ Tm.size.sizes ts ∧
      w.cell? ⟨b, o + k * 7, none⟩ = some (.int .u8 kd) ∧ w.cell? ⟨b, o + k * 7 + 1, none⟩ = some (.bool ng) ∧ w.cell? ⟨b, o + k * 7 + 2, none⟩ = some (.slice la ln lc) ∧ w.cell? ⟨b, o + k * 7 + 3, none⟩ = some (.string tx) ∧
      w.cell? ⟨b, o + k * 7 + 4, none⟩ = some (.int .i64 nm) ∧ w.cell? ⟨b, o + k * 7 + 5, none⟩ = some (.slice ia im ic) ∧ w.cell? ⟨b, o + k * 7 + 6, none⟩ = some (.slice ta tn tc) := by
  obtain ⟨hl, h7⟩ := ht.lens
  have hn : css.length = n := by have h1 := hr.1; rw [flat_len h7] at h1; omega
  obtain ⟨kd, ng, la, ln, lc, tx, nm, ia, im, ic, ta, tn, tc, limbs, items, tail, dss, ess, hcs, htk, hroom, hrl, hri, hti, hrt, htt, hsz⟩ := TermsIn.at ht k (by omega)
  have hg := TermsIn.get ht k (by omega) (by omega)
  obtain ⟨_, e1⟩ := List.getElem?_eq_some_iff.1 hcs
  obtain ⟨_, e2⟩ := List.getElem?_eq_some_iff.1 htk
  rw [e1, e2] at hg
  obtain ⟨⟨b, o, sp⟩, hA, hs, _, _, hc⟩ := hr.2 (by omega)
  simp only at hs
  subst hs hA
  obtain ⟨g0, g1, g2, g3, g4, g5, g6⟩ := flat_cells h7 hcs
  exact ⟨b, o, kd, ng, la, ln, lc, tx, nm, ia, im, ic, ta, tn, tc, _, rfl, htk, hg, by simp only [Tm.size]; omega, (hc _ _ g0).1, (hc _ _ g1).1, (hc _ _ g2).1, (hc _ _ g3).1, (hc _ _ g4).1, (hc _ _ g5).1, (hc _ _ g6).1⟩

set_option maxRecDepth 100000 in
set_option maxHeartbeats 2000000 in
theorem same_terms (M : Nat) : SamesSaid M := by
  induction M using Nat.strongRecOn with
  | ind M IH =>
  intro ts us hM css dss A A' n c n' c' w B B' F F' hr ht hr' ht' hroom
  have hln : ts.length = n := by have h1 := hr.1; rw [flat_len ht.lens.2, ht.lens.1] at h1; omega
  have hln' : us.length = n' := by have h1 := hr'.1; rw [flat_len ht'.lens.2, ht'.lens.1] at h1; omega
  have hnm : n ≤ 9223372036854775807 := by have := hroom.len (by omega); unfold maxLen at this; exact this
  have HR := hide hr; have HT := hide ht; have HR' := hide hr'; have HT' := hide ht'; have HLN := hide hln; have HLN' := hide hln'; have HM := hide hM; have HIH := hide IH
  clear hr ht hr' ht' hln hln' hM IH hroom
  by_cases hne : n = n'
  · have HN := hide hne
    have hb : ((n : Int) != (n' : Int)) = false := by simp [hne]
    clear hne
    go_enter Try.func28, Try.ntmps28
    go_wp2
    go_loopw [5] (fun i wr => ∃ k : Nat, k ≤ n ∧ i = .int .i64 k ∧ TsInv w ts us k wr) (fun i _ => n - (intOf i).toNat)
    case atStart => exact ⟨0, Nat.zero_le _, rfl, Keeps.refl _ _, rfl⟩
    case round =>
      obtain ⟨k, hk, rfl, hinv⟩ := hrel
      have HI := hide hinv; clear hinv
      by_cases hlt : k < n
      · obtain ⟨b, o, kd, ng, la, ln, lc, tx, nm, ia, im, ic, ta, tn, tc, t, hA, h1, h2, h3, f0, f1, f2, f3, f4, f5, f6⟩ := cells_at (HR.out.keep HI.out.1 (fun _ _ => id)) (TermsIn.keep HI.out.1 (fun _ _ => id) _ _ HT.out) k hlt
        obtain ⟨b', o', kd', ng', la', ln', lc', tx', nm', ia', im', ic', ta', tn', tc', t', hA', h1', h2', h3', f0', f1', f2', f3', f4', f5', f6'⟩ := cells_at (HR'.out.keep HI.out.1 (fun _ _ => id)) (TermsIn.keep HI.out.1 (fun _ _ => id) _ _ HT'.out) k (by have := HN.out; omega)
        subst hA hA'
        have hk1 : (k : Int) < (n : Int) := by omega
        have hk2 : (k : Int) < (n' : Int) := by have := HN.out; omega
        have hk0 : (0 : Int) ≤ (k : Int) := by omega
        have HE := hide h1; have HE' := hide h1'; have HT2 := hide h2; have HT2' := hide h2'; have HZ := hide h3
        clear h1 h1' h2 h2' h3 h3'
        have HC := hide (And.intro f0 (And.intro f1 (And.intro f2 (And.intro f3 (And.intro f4 (And.intro f5 f6))))))
        have HC' := hide (And.intro f0' (And.intro f1' (And.intro f2' (And.intro f3' (And.intro f4' (And.intro f5' f6'))))))
        clear f0 f1 f2 f3 f4 f5 f6 f0' f1' f2' f3' f4' f5' f6'
        go_wp2_with fail
        refine order_begin (fun W => Keeps NoB wr W) (fun _ => true) (by kernel_rfl) 10 rfl ?_
        have HS : Keeps NoB wr wr.drew := (Keeps.refl NoB wr).drew
        generalize wr.drew = W0 at *
        refine order_pure (i := 0) rfl (by kernel_rfl) (fun _ _ _ h => h) (.inl ⟨rfl, fun _ => by go_simp; rfl⟩) ?_
        try simp only [Act.put, List.setIfInBounds_toArray, List.set_cons_succ, List.set_cons_zero]
        refine order_pure (i := 1) rfl (by kernel_rfl) (fun _ _ _ h => h) (.inl ⟨rfl, fun _ => by go_simp; rfl⟩) ?_
        try simp only [Act.put, List.setIfInBounds_toArray, List.set_cons_succ, List.set_cons_zero]
        refine order_pure (i := 2) rfl (by kernel_rfl) (fun _ _ _ h => h) (.inl ⟨rfl, fun _ => by go_simp; rfl⟩) ?_
        try simp only [Act.put, List.setIfInBounds_toArray, List.set_cons_succ, List.set_cons_zero]
        refine order_held (i := 3) rfl (by kernel_rfl) (fun _ _ _ h => h) (.inl ⟨rfl, fun W hW => by
          have q0 : W.cell? ⟨b, o + k * 7, none⟩ = some (.int .u8 kd) := hW.cell id HC.out.1
          have q1 : W.cell? ⟨b, o + k * 7 + 1, none⟩ = some (.bool ng) := hW.cell id HC.out.2.1
          have q2 : W.cell? ⟨b, o + k * 7 + 2, none⟩ = some (.slice la ln lc) := hW.cell id HC.out.2.2.1
          have q3 : W.cell? ⟨b, o + k * 7 + 3, none⟩ = some (.string tx) := hW.cell id HC.out.2.2.2.1
          have q4 : W.cell? ⟨b, o + k * 7 + 4, none⟩ = some (.int .i64 nm) := hW.cell id HC.out.2.2.2.2.1
          have q5 : W.cell? ⟨b, o + k * 7 + 5, none⟩ = some (.slice ia im ic) := hW.cell id HC.out.2.2.2.2.2.1
          have q6 : W.cell? ⟨b, o + k * 7 + 6, none⟩ = some (.slice ta tn tc) := hW.cell id HC.out.2.2.2.2.2.2
          go_simp; rfl⟩) HS ?_
        try simp only [Act.put, List.setIfInBounds_toArray, List.set_cons_succ, List.set_cons_zero]
        refine order_pure (i := 4) rfl (by kernel_rfl) (fun _ _ _ h => h) (.inl ⟨rfl, fun _ => by go_simp; rfl⟩) ?_
        try simp only [Act.put, List.setIfInBounds_toArray, List.set_cons_succ, List.set_cons_zero]
        refine order_pure (i := 5) rfl (by kernel_rfl) (fun _ _ _ h => h) (.inl ⟨rfl, fun _ => by go_simp; rfl⟩) ?_
        try simp only [Act.put, List.setIfInBounds_toArray, List.set_cons_succ, List.set_cons_zero]
        refine order_pure (i := 6) rfl (by kernel_rfl) (fun _ _ _ h => h) (.inl ⟨rfl, fun _ => by go_simp; rfl⟩) ?_
        try simp only [Act.put, List.setIfInBounds_toArray, List.set_cons_succ, List.set_cons_zero]
        refine order_held (i := 7) rfl (by kernel_rfl) (fun _ _ _ h => h) (.inl ⟨rfl, fun W hW => by
          have q0 : W.cell? ⟨b', o' + k * 7, none⟩ = some (.int .u8 kd') := hW.cell id HC'.out.1
          have q1 : W.cell? ⟨b', o' + k * 7 + 1, none⟩ = some (.bool ng') := hW.cell id HC'.out.2.1
          have q2 : W.cell? ⟨b', o' + k * 7 + 2, none⟩ = some (.slice la' ln' lc') := hW.cell id HC'.out.2.2.1
          have q3 : W.cell? ⟨b', o' + k * 7 + 3, none⟩ = some (.string tx') := hW.cell id HC'.out.2.2.2.1
          have q4 : W.cell? ⟨b', o' + k * 7 + 4, none⟩ = some (.int .i64 nm') := hW.cell id HC'.out.2.2.2.2.1
          have q5 : W.cell? ⟨b', o' + k * 7 + 5, none⟩ = some (.slice ia' im' ic') := hW.cell id HC'.out.2.2.2.2.2.1
          have q6 : W.cell? ⟨b', o' + k * 7 + 6, none⟩ = some (.slice ta' tn' tc') := hW.cell id HC'.out.2.2.2.2.2.2
          go_simp; rfl⟩) HS ?_
        try simp only [Act.put, List.setIfInBounds_toArray, List.set_cons_succ, List.set_cons_zero]
        refine order_one (i := 8) rfl (by kernel_rfl) (fun K hK => ?_)
        go_simp
        refine (same_term_of (M - 1) (hide (HIH.out (M - 1) (by have := HM.out; have := HZ.out; have := Tm.size_pos t; omega))) t t' (by have := HM.out; have := HZ.out; omega) W0 B B' F F' kd ng la ln lc tx nm ia im ic ta tn tc kd' ng' la' ln' lc' tx' nm' ia' im' ic' ta' tn' tc' (TermIn.keep HS (fun _ _ => id) _ _ HT2.out) (TermIn.keep HS (fun _ _ => id) _ _ HT2'.out)).mono ?_
        rintro e w2 ⟨rfl, hk3⟩
        refine hK _ _ (fun _ hS => hS.trans' hk3 (fun _ _ => id) (fun _ _ => id)) ?_
        clear hK
        have HK3 := hide (HI.out.1.trans' (HS.trans' hk3 (fun _ _ => id) (fun _ _ => id) : Keeps NoB wr w2) (fun _ _ => id) (fun _ _ => id) : Keeps NoB w w2)
        clear hk3 HS
        try simp only [Act.put, List.setIfInBounds_toArray, List.set_cons_succ, List.set_cons_zero]
        refine order_pure (i := 9) rfl (by kernel_rfl) (fun _ _ _ h => h) (.inl ⟨rfl, fun _ => by go_simp; rfl⟩) ?_
        try simp only [Act.put, List.setIfInBounds_toArray, List.set_cons_succ, List.set_cons_zero]
        refine order_done (by kernel_rfl) ?_
        have HST := hide (eqTs_step HE.out HE'.out)
        cases hq : eqT t t' with
        | true =>
          have HQ := hide hq; clear hq
          go_wp2
          go_roundw
          case rel => exact ⟨k + 1, by omega, by go_num, HK3.out, by rw [HI.out.2, HST.out, HQ.out, Bool.true_and]⟩
          case measure => simp [intOf]; omega
        | false =>
          have HQ := hide hq; clear hq
          go_wp2
          go_ret
          refine ⟨?_, HK3.out⟩
          rw [HI.out.2, HST.out, HQ.out, Bool.false_and]; rfl
      · go_wp2
        go_ret
        refine ⟨?_, HI.out.1⟩
        have h3 := HLN.out; have h4 := HLN'.out; have h5 := HN.out
        rw [HI.out.2, List.drop_eq_nil_of_le (by omega), List.drop_eq_nil_of_le (by omega)]
        unfold eqTs; rfl
  · have hb : ((n : Int) != (n' : Int)) = true := by simp; omega
    have HE := hide (eqTs_len (ts := ts) (us := us) (by have := HLN.out; have := HLN'.out; omega))
    clear hne
    go_enter Try.func28, Try.ntmps28
    go_wp2
    go_ret
    exact ⟨by rw [HE.out]; rfl, Keeps.refl _ _⟩

theorem same_term (t u : Tm) (w : World) (B B' : Nat → Prop) (F F' : Bool)
    (kd : Int) (ng : Bool) (la : Option Addr) (ln lc : Nat) (tx : ByteArray) (nm : Int) (ia : Option Addr) (im ic : Nat) (ta : Option Addr) (tn tc : Nat)
    (kd' : Int) (ng' : Bool) (la' : Option Addr) (ln' lc' : Nat) (tx' : ByteArray) (nm' : Int) (ia' : Option Addr) (im' ic' : Nat) (ta' : Option Addr) (tn' tc' : Nat)
    (ht : TermIn w B F [.int .u8 kd, .bool ng, .slice la ln lc, .string tx, .int .i64 nm, .slice ia im ic, .slice ta tn tc] t)
    (hu : TermIn w B' F' [.int .u8 kd', .bool ng', .slice la' ln' lc', .string tx', .int .i64 nm', .slice ia' im' ic', .slice ta' tn' tc'] u) :
    Calls Try.prog 27 #[.agg #[.int .u8 kd, .bool ng, .slice la ln lc, .string tx, .int .i64 nm, .slice ia im ic, .slice ta tn tc], .agg #[.int .u8 kd', .bool ng', .slice la' ln' lc', .string tx', .int .i64 nm', .slice ia' im' ic', .slice ta' tn' tc']] w (SamesPost w (eqT t u)) :=
  same_term_of t.size (hide (same_terms _)) t u (Nat.le_succ _) w B B' F F' _ _ _ _ _ _ _ _ _ _ _ _ _ _ _ _ _ _ _ _ _ _ _ _ _ _ ht hu
end Go.Proofs.Ytmkidkfofbnjgaa
