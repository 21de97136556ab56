/- pigeonholekit: TermsOf: a number, never below one. pigeonholekit: TermsOf: what it does not leave off is small. -/
import Derived.Test.YtmkidkfofbnjgaaSameTsJn
import Derived.Deep.LoopGhost
import Derived.Deep.CutRange
import Derived.Deep.CutBlock
import Derived.Deep.DeepCutAuto
namespace Go.Proofs.Ytmkidkfofbnjgaa
open Go.RowKit

mutual
/-- All texts in it are such as a machine holds. -/
def fitsT : Tm → Prop
  | .mk _ _ _ tx _ items tail => tx.size ≤ 140737488355328 ∧ fitsTs items ∧ fitsTs tail
def fitsTs : List Tm → Prop
  | [] => True
  | t :: ts => fitsT t ∧ fitsTs ts
end

theorem fitsTs_at : ∀ {ts : List Tm} {k : Nat} {t : Tm}, fitsTs ts → ts[k]? = some t → fitsT t
  | [], _, _, _, h => by simp at h
  | t :: ts, 0, u, hf, h => by
    obtain rfl : t = u := by simpa using h
    unfold fitsTs at hf; exact hf.1
  | t :: ts, k + 1, u, hf, h => by
    unfold fitsTs at hf
    exact fitsTs_at hf.2 (by simpa using h)

def OfPost (w : World) (most : Int) (e : Ending) (w' : World) : Prop := ∃ r : Int, e = .returned (.int .i64 r) ∧ 1 ≤ r ∧ r ≤ most + 281474976710656 ∧ Keeps NoB w w'

def OfSaid (M : Nat) : Prop := ∀ (t : Tm), t.size ≤ M → fitsT t → ∀ (w : World) (B : Nat → Prop) (F : Bool) (kd : Int) (ng : Bool) (la : Option Addr) (ln lc : Nat) (tx : ByteArray) (nm : Int) (ia : Option Addr) (im ic : Nat) (ta : Option Addr) (tn tc : Nat) (most : Int),
  TermIn w B F [.int .u8 kd, .bool ng, .slice la ln lc, .string tx, .int .i64 nm, .slice ia im ic, .slice ta tn tc] t → 0 ≤ most → most ≤ 3000 →
  Calls Try.prog 25 #[.agg #[.int .u8 kd, .bool ng, .slice la ln lc, .string tx, .int .i64 nm, .slice ia im ic, .slice ta tn tc], .int .i64 most] w (OfPost w most)

set_option maxRecDepth 100000 in
set_option maxHeartbeats 1000000 in
theorem terms_of_all (M : Nat) : OfSaid M := by
  induction M using Nat.strongRecOn with
  | ind M IH =>
  intro t hM hfit w B F kd ng la ln lc tx nm ia im ic ta tn tc most ht h0 h3
  obtain ⟨limbs, items, tail, css, dss, rfl, hroom, hrl, hri, hti, hrt, htt⟩ : ∃ limbs items tail css dss, t = .mk kd ng limbs tx nm items tail ∧ (Roomy ln 4 ∧ Roomy im 104 ∧ Roomy tn 104) ∧ Reads w B F 1 la ln (limbs.map (Value.int .u32)) ∧ Reads w B F 7 ia im (List.flatten css) ∧ TermsIn w B F css items ∧ Reads w B F 7 ta tn (List.flatten dss) ∧ TermsIn w B F dss tail := by
    cases t
    unfold TermIn at ht
    obtain ⟨_, _, _, _, _, _, _, _, _, css, dss, e, hb, h1, h2, h3, h4, h5⟩ := ht
    simp only [List.cons.injEq, Value.int.injEq, Value.bool.injEq, Value.slice.injEq, Value.string.injEq, true_and, and_true] at e
    obtain ⟨rfl, rfl, ⟨rfl, rfl, rfl⟩, rfl, rfl, ⟨rfl, rfl, rfl⟩, rfl, rfl, rfl⟩ := e
    exact ⟨_, _, _, css, dss, rfl, hb, h1, h2, h3, h4, h5⟩
  have hsz : Tm.size.sizes items < M ∧ Tm.size.sizes tail < M := by
    have := hM; simp only [Tm.size] at this; omega
  have hln : (ln : Int) ≤ 35184372088832 := by have := hroom.1; unfold Roomy at this; omega
  have him : (im : Int) ≤ 35184372088832 := by have := hroom.2.1; unfold Roomy at this; omega
  have htn : (tn : Int) ≤ 35184372088832 := by have := hroom.2.2; unfold Roomy at this; omega
  unfold fitsT at hfit
  obtain ⟨hf1, hf2, hf3⟩ := hfit
  have htx : (tx.size : Int) ≤ 140737488355328 := by omega
  have HRI := hide hri; have HTI := hide hti; have HRT := hide hrt; have HTT := hide htt; have HSZ := hide hsz; have HF2 := hide hf2; have HF3 := hide hf3; have HIH := hide IH
  have hdiv0 : 0 ≤ (tx.size : Int).tdiv 8 := Int.tdiv_nonneg (by omega) (by omega)
  have hdiv : (tx.size : Int).tdiv 8 ≤ 140737488355328 := by have := Int.tdiv_le_self (a := (tx.size : Int)) 8 (by omega); omega
  clear hrl hri hti hrt htt hroom hsz hf1 hf2 hf3 hM IH ht
  go_enter Try.func25, Try.ntmps25
  have hn1 : 1 ≤ 1 + (ln : Int) + (tx.size : Int) / 8 := by omega
  have hn2 : 1 + (ln : Int) + (tx.size : Int) / 8 ≤ 281474976710656 := by omega
  clear hdiv hdiv0
  go_upto_block 0 with fail
  generalize 1 + (ln : Int) + (tx.size : Int) / 8 = n0 at *
  have HBX := hide (Blk.new w 33 #[.int .u8 kd, .bool ng, .slice la ln lc, .string tx, .int .i64 nm, .slice ia im ic, .slice ta tn tc])
  have HK0 := hide ((Keeps.refl NoB w).alloc (.cells #[.int .u8 kd, .bool ng, .slice la ln lc, .string tx, .int .i64 nm, .slice ia im ic, .slice ta tn tc] 33))
  generalize w.alloc (.cells #[.int .u8 kd, .bool ng, .slice la ln lc, .string tx, .int .i64 nm, .slice ia im ic, .slice ta tn tc] 33) = W0 at *
  go_cut [5] (fun s5 wx => ∃ r : Int, s5 = .int .i64 r ∧ 1 ≤ r ∧ r ≤ most + 281474976710656 ∧ Keeps NoB W0 wx)
  case first =>
    go_wp2_with fail
    go_loopg [5, 6] im (fun g s5 s6 wx => ∃ (i : Nat) (r : Int), i ≤ im ∧ g = im - i ∧ s5 = .int .i64 r ∧ s6 = .int .i64 i ∧ 1 ≤ r ∧ r ≤ most + 281474976710656 ∧ Keeps NoB W0 wx)
    case atStart => exact ⟨0, n0, Nat.zero_le _, rfl, rfl, rfl, by omega, by omega, Keeps.refl _ _⟩
    case round =>
      obtain ⟨i, r, hi, rfl, rfl, rfl, hr1, hr2, hkw⟩ := hrel
      have HKW := hide hkw; clear hkw
      have p5 : wr.cell? ⟨w.heap.size, 5, none⟩ = some (.slice ia im ic) := (HBX.out.keep HKW.out id).cell 5
      have p6 : wr.cell? ⟨w.heap.size, 6, none⟩ = some (.slice ta tn tc) := (HBX.out.keep HKW.out id).cell 6
      have hi0 : (0 : Int) ≤ i := by omega
      by_cases hin : i < im
      · have hiz : (i : Int) < im := by omega
        by_cases hrm : r ≤ most
        · obtain ⟨b, o, kd', ng', la', ln', lc', tx', nm', ia', im', ic', ta', tn', tc', u, hA, h1, h2, hu, f0, f1, f2, f3, f4, f5, f6⟩ := cells_at (HRI.out.keep (HK0.out.trans' HKW.out (fun _ _ => id) (fun _ _ => id)) (fun _ _ => id)) (TermsIn.keep (HK0.out.trans' HKW.out (fun _ _ => id) (fun _ _ => id)) (fun _ _ => id) _ _ HTI.out) i hin
          subst hA
          have HT2 := hide h2; have HU := hide hu; have HFU := hide (fitsTs_at HF2.out h1)
          clear h1 h2 hu
          go_wp2_with
            first
            | (go_at_call 25
               refine (HIH.out _ HSZ.out.1 u HU.out HFU.out _ B F kd' ng' la' ln' lc' tx' nm' ia' im' ic' ta' tn' tc' (most - r) HT2.out (by omega) (by omega)).mono ?_
               rintro e w2 ⟨s, rfl, hs1, hs2, hk2⟩
               have HKS := hide (HKW.out.trans' hk2 (fun _ _ => id) (fun _ _ => id) : Keeps NoB W0 w2)
               clear hk2)
            | fail
          go_roundg (im - (i + 1))
          case measure => omega
          case rel => exact ⟨i + 1, r + s, by omega, rfl, by go_num, by go_num, by omega, by omega, HKS.out⟩
        · have hrm' : most < r := by omega
          clear hrm
          go_wp2
          go_meet
          exact ⟨r, rfl, hr1, hr2, HKW.out⟩
      · have hiz : (im : Int) ≤ i := by omega
        go_wp2
        go_meet
        exact ⟨r, rfl, hr1, hr2, HKW.out⟩
  case rest =>
    obtain ⟨r0, rfl, hr1, hr2, hkw⟩ := hcut
    have HKC := hide hkw; clear hkw
    go_upto_block 2 with fail
    go_cut [5] (fun s5 wx => ∃ r : Int, s5 = .int .i64 r ∧ 1 ≤ r ∧ r ≤ most + 281474976710656 ∧ Keeps NoB W0 wx)
    case first =>
      go_wp2_with fail
      go_loopg [5, 7] tn (fun g s5 s6 wx => ∃ (i : Nat) (r : Int), i ≤ tn ∧ g = tn - i ∧ s5 = .int .i64 r ∧ s6 = .int .i64 i ∧ 1 ≤ r ∧ r ≤ most + 281474976710656 ∧ Keeps NoB W0 wx)
      case atStart => exact ⟨0, r0, Nat.zero_le _, rfl, rfl, rfl, by omega, by omega, HKC.out⟩
      case round =>
        obtain ⟨i, r, hi, rfl, rfl, rfl, hr1, hr2, hkw⟩ := hrel
        have HKW := hide hkw; clear hkw
        have p5 : wr.cell? ⟨w.heap.size, 5, none⟩ = some (.slice ia im ic) := (HBX.out.keep HKW.out id).cell 5
        have p6 : wr.cell? ⟨w.heap.size, 6, none⟩ = some (.slice ta tn tc) := (HBX.out.keep HKW.out id).cell 6
        have hi0 : (0 : Int) ≤ i := by omega
        by_cases hin : i < tn
        · have hiz : (i : Int) < tn := by omega
          by_cases hrm : r ≤ most
          · obtain ⟨b, o, kd', ng', la', ln', lc', tx', nm', ia', im', ic', ta', tn', tc', u, hA, h1, h2, hu, f0, f1, f2, f3, f4, f5, f6⟩ := cells_at (HRT.out.keep (HK0.out.trans' HKW.out (fun _ _ => id) (fun _ _ => id)) (fun _ _ => id)) (TermsIn.keep (HK0.out.trans' HKW.out (fun _ _ => id) (fun _ _ => id)) (fun _ _ => id) _ _ HTT.out) i hin
            subst hA
            have HT2 := hide h2; have HU := hide hu; have HFU := hide (fitsTs_at HF3.out h1)
            clear h1 h2 hu
            go_wp2_with
              first
              | (go_at_call 25
                 refine (HIH.out _ HSZ.out.2 u HU.out HFU.out _ B F kd' ng' la' ln' lc' tx' nm' ia' im' ic' ta' tn' tc' (most - r) HT2.out (by omega) (by omega)).mono ?_
                 rintro e w2 ⟨s, rfl, hs1, hs2, hk2⟩
                 have HKS := hide (HKW.out.trans' hk2 (fun _ _ => id) (fun _ _ => id) : Keeps NoB W0 w2)
                 clear hk2)
              | fail
            go_roundg (tn - (i + 1))
            case measure => omega
            case rel => exact ⟨i + 1, r + s, by omega, rfl, by go_num, by go_num, by omega, by omega, HKS.out⟩
          · have hrm' : most < r := by omega
            clear hrm
            go_wp2
            go_meet
            exact ⟨r, rfl, hr1, hr2, HKW.out⟩
        · have hiz : (tn : Int) ≤ i := by omega
          go_wp2
          go_meet
          exact ⟨r, rfl, hr1, hr2, HKW.out⟩
    case rest =>
      obtain ⟨r, rfl, hr1, hr2, hkw⟩ := hcut
      have HKD := hide hkw; clear hkw
      go_wp2
      go_ret
      exact ⟨r, rfl, hr1, hr2, HK0.out.trans' HKD.out (fun _ _ => id) (fun _ _ => id)⟩

theorem terms_of_any (t : Tm) (hf : fitsT t) (w : World) (B : Nat → Prop) (F : Bool) (kd : Int) (ng : Bool) (la : Option Addr) (ln lc : Nat) (tx : ByteArray) (nm : Int) (ia : Option Addr) (im ic : Nat) (ta : Option Addr) (tn tc : Nat)
    (ht : TermIn w B F [.int .u8 kd, .bool ng, .slice la ln lc, .string tx, .int .i64 nm, .slice ia im ic, .slice ta tn tc] t) :
    Calls Try.prog 25 #[.agg #[.int .u8 kd, .bool ng, .slice la ln lc, .string tx, .int .i64 nm, .slice ia im ic, .slice ta tn tc], .int .i64 3000] w (OfPost w 3000) :=
  terms_of_all t.size t (Nat.le_refl _) hf w B F kd ng la ln lc tx nm ia im ic ta tn tc 3000 ht (by omega) (by omega)
end Go.Proofs.Ytmkidkfofbnjgaa
namespace Go.Proofs.Ytmkidkfofbnjgaa
open Go.RowKit

mutual
/-- All lists in it are short. -/
def smallT : Tm → Prop
  | .mk _ _ limbs _ _ items tail => limbs.length ≤ 3000 ∧ items.length ≤ 3000 ∧ tail.length ≤ 3000 ∧ smallTs items ∧ smallTs tail
def smallTs : List Tm → Prop
  | [] => True
  | t :: ts => smallT t ∧ smallTs ts
end
theorem smallTs_of : ∀ {ts : List Tm}, (∀ (j : Nat) (u : Tm), ts[j]? = some u → smallT u) → smallTs ts
  | [], _ => by unfold smallTs; trivial
  | t :: ts, h => by unfold smallTs; exact ⟨h 0 t rfl, smallTs_of (fun j u hu => h (j + 1) u (by simpa using hu))⟩
theorem smallTs_at : ∀ {ts : List Tm} {k : Nat} {t : Tm}, smallTs ts → ts[k]? = some t → smallT t
  | [], _, _, _, h => by simp at h
  | t :: ts, 0, u, hf, h => by
    obtain rfl : t = u := by simpa using h
    unfold smallTs at hf; exact hf.1
  | t :: ts, k + 1, u, hf, h => by
    unfold smallTs at hf
    exact smallTs_at hf.2 (by simpa using h)

/-- The first i of some are small. -/
def SmallTo (most : Int) (ts : List Tm) (A : Prop) (S : Nat) (i : Nat) (r : Int) : Prop := r ≤ most → A ∧ (i : Int) ≤ r ∧ (∀ (j : Nat) (u : Tm), j < i → ts[j]? = some u → smallT u) ∧ ((S + Tm.size.sizes (ts.take i) + 1 : Nat) : Int) ≤ 2 * r
theorem sizes_app : ∀ (xs ys : List Tm), Tm.size.sizes (xs ++ ys) = Tm.size.sizes xs + Tm.size.sizes ys
  | [], ys => by simp [Tm.size.sizes]
  | x :: xs, ys => by rw [List.cons_append, Tm.size.sizes, Tm.size.sizes, sizes_app xs ys]; omega
theorem sizes_take_succ {ts : List Tm} {i : Nat} {u : Tm} (h : ts[i]? = some u) : Tm.size.sizes (ts.take (i + 1)) = Tm.size.sizes (ts.take i) + u.size + 1 := by
  rw [List.take_add_one, h, sizes_app]
  simp only [Option.toList_some, Tm.size.sizes]; omega
theorem SmallTo.start {most : Int} {ts : List Tm} {A : Prop} {S : Nat} {r : Int} (h : r ≤ most → A ∧ ((S + 1 : Nat) : Int) ≤ 2 * r) (h0 : 0 ≤ r) : SmallTo most ts A S 0 r := fun hr => ⟨(h hr).1, by omega, fun j u hj => by omega, by have := (h hr).2; rw [List.take_zero, Tm.size.sizes]; omega⟩
theorem SmallTo.step {most : Int} {ts : List Tm} {A : Prop} {S : Nat} {i : Nat} {r s : Int} {u : Tm} (h : SmallTo most ts A S i r) (hu : ts[i]? = some u) (hs : 1 ≤ s) (hsm : s ≤ most - r → smallT u ∧ ((u.size + 1 : Nat) : Int) ≤ 2 * s) : SmallTo most ts A S (i + 1) (r + s) := by
  intro hr
  obtain ⟨h1, h2, h3, h4⟩ := h (by omega)
  obtain ⟨g1, g2⟩ := hsm (by omega)
  refine ⟨h1, by omega, fun j v hj hv => ?_, by rw [sizes_take_succ hu]; omega⟩
  by_cases e : j = i
  · subst e
    rw [hu] at hv; injection hv with hv; subst hv
    exact g1
  · exact h3 j v (by omega) hv
theorem SmallTo.all {most : Int} {ts : List Tm} {A : Prop} {S : Nat} {n : Nat} {r : Int} (h : SmallTo most ts A S n r) (hn : ts.length = n) (h3 : most ≤ 3000) (hr : r ≤ most) : (A ∧ n ≤ 3000 ∧ smallTs ts) ∧ ((S + Tm.size.sizes ts + 1 : Nat) : Int) ≤ 2 * r := by
  obtain ⟨h1, h2, h4, h5⟩ := h hr
  subst hn
  rw [List.take_length] at h5
  refine ⟨⟨h1, by omega, ?_⟩, h5⟩
  exact smallTs_of (fun j u hu => h4 j u (by have := (List.getElem?_eq_some_iff.1 hu).1; omega) hu)

def OfPost2 (w : World) (t : Tm) (most : Int) (e : Ending) (w' : World) : Prop := ∃ r : Int, e = .returned (.int .i64 r) ∧ 1 ≤ r ∧ r ≤ most + 281474976710656 ∧ (r ≤ most → smallT t ∧ ((t.size + 1 : Nat) : Int) ≤ 2 * r) ∧ Keeps NoB w w'

def OfSaid2 (M : Nat) : Prop := ∀ (t : Tm), t.size ≤ M → fitsT t → ∀ (w : World) (B : Nat → Prop) (F : Bool) (kd : Int) (ng : Bool) (la : Option Addr) (ln lc : Nat) (tx : ByteArray) (nm : Int) (ia : Option Addr) (im ic : Nat) (ta : Option Addr) (tn tc : Nat) (most : Int),
  TermIn w B F [.int .u8 kd, .bool ng, .slice la ln lc, .string tx, .int .i64 nm, .slice ia im ic, .slice ta tn tc] t → 0 ≤ most → most ≤ 3000 →
  Calls Try.prog 25 #[.agg #[.int .u8 kd, .bool ng, .slice la ln lc, .string tx, .int .i64 nm, .slice ia im ic, .slice ta tn tc], .int .i64 most] w (OfPost2 w t most)

set_option maxRecDepth 100000 in
set_option maxHeartbeats 1000000 in
theorem terms_of_all2 (M : Nat) : OfSaid2 M := by
  induction M using Nat.strongRecOn with
  | ind M IH =>
  intro t hM hfit w B F kd ng la ln lc tx nm ia im ic ta tn tc most ht h0 h3
  obtain ⟨limbs, items, tail, css, dss, rfl, hroom, hrl, hri, hti, hrt, htt⟩ : ∃ limbs items tail css dss, t = .mk kd ng limbs tx nm items tail ∧ (Roomy ln 4 ∧ Roomy im 104 ∧ Roomy tn 104) ∧ Reads w B F 1 la ln (limbs.map (Value.int .u32)) ∧ Reads w B F 7 ia im (List.flatten css) ∧ TermsIn w B F css items ∧ Reads w B F 7 ta tn (List.flatten dss) ∧ TermsIn w B F dss tail := by
    cases t
    unfold TermIn at ht
    obtain ⟨_, _, _, _, _, _, _, _, _, css, dss, e, hb, h1, h2, h3, h4, h5⟩ := ht
    simp only [List.cons.injEq, Value.int.injEq, Value.bool.injEq, Value.slice.injEq, Value.string.injEq, true_and, and_true] at e
    obtain ⟨rfl, rfl, ⟨rfl, rfl, rfl⟩, rfl, rfl, ⟨rfl, rfl, rfl⟩, rfl, rfl, rfl⟩ := e
    exact ⟨_, _, _, css, dss, rfl, hb, h1, h2, h3, h4, h5⟩
  have hll : limbs.length = ln := by have := hrl.1; simpa using this
  have hil : items.length = im := by have h1 := hri.1; rw [flat_len hti.lens.2, hti.lens.1] at h1; omega
  have htl : tail.length = tn := by have h1 := hrt.1; rw [flat_len htt.lens.2, htt.lens.1] at h1; omega
  have HLL := hide hll; have HIL := hide hil; have HTL := hide htl
  clear hll hil htl
  have hsz : Tm.size.sizes items < M ∧ Tm.size.sizes tail < M := by
    have := hM; simp only [Tm.size] at this; omega
  have hln : (ln : Int) ≤ 35184372088832 := by have := hroom.1; unfold Roomy at this; omega
  have him : (im : Int) ≤ 35184372088832 := by have := hroom.2.1; unfold Roomy at this; omega
  have htn : (tn : Int) ≤ 35184372088832 := by have := hroom.2.2; unfold Roomy at this; omega
  unfold fitsT at hfit
  obtain ⟨hf1, hf2, hf3⟩ := hfit
  have htx : (tx.size : Int) ≤ 140737488355328 := by omega
  have HRI := hide hri; have HTI := hide hti; have HRT := hide hrt; have HTT := hide htt; have HSZ := hide hsz; have HF2 := hide hf2; have HF3 := hide hf3; have HIH := hide IH
  have hdiv0 : 0 ≤ (tx.size : Int).tdiv 8 := Int.tdiv_nonneg (by omega) (by omega)
  have hdiv : (tx.size : Int).tdiv 8 ≤ 140737488355328 := by have := Int.tdiv_le_self (a := (tx.size : Int)) 8 (by omega); omega
  clear hrl hri hti hrt htt hroom hsz hf1 hf2 hf3 hM IH ht
  go_enter Try.func25, Try.ntmps25
  have hn1 : 1 ≤ 1 + (ln : Int) + (tx.size : Int) / 8 := by omega
  have HN0 := hide (show 1 + (ln : Int) + (tx.size : Int) / 8 ≤ most → ln ≤ 3000 from fun h => by omega)
  have hn2 : 1 + (ln : Int) + (tx.size : Int) / 8 ≤ 281474976710656 := by omega
  clear hdiv hdiv0
  go_upto_block 0 with fail
  generalize 1 + (ln : Int) + (tx.size : Int) / 8 = n0 at *
  have HBX := hide (Blk.new w 33 #[.int .u8 kd, .bool ng, .slice la ln lc, .string tx, .int .i64 nm, .slice ia im ic, .slice ta tn tc])
  have HK0 := hide ((Keeps.refl NoB w).alloc (.cells #[.int .u8 kd, .bool ng, .slice la ln lc, .string tx, .int .i64 nm, .slice ia im ic, .slice ta tn tc] 33))
  generalize w.alloc (.cells #[.int .u8 kd, .bool ng, .slice la ln lc, .string tx, .int .i64 nm, .slice ia im ic, .slice ta tn tc] 33) = W0 at *
  go_cut [5] (fun s5 wx => ∃ r : Int, s5 = .int .i64 r ∧ 1 ≤ r ∧ r ≤ most + 281474976710656 ∧ Hid (r ≤ most → (ln ≤ 3000 ∧ im ≤ 3000 ∧ smallTs items) ∧ ((1 + Tm.size.sizes items + 1 : Nat) : Int) ≤ 2 * r) ∧ Keeps NoB W0 wx)
  case first =>
    go_wp2_with fail
    go_loopg [5, 6] im (fun g s5 s6 wx => ∃ (i : Nat) (r : Int), i ≤ im ∧ g = im - i ∧ s5 = .int .i64 r ∧ s6 = .int .i64 i ∧ 1 ≤ r ∧ r ≤ most + 281474976710656 ∧ Hid (SmallTo most items (ln ≤ 3000) 1 i r) ∧ Keeps NoB W0 wx)
    case atStart => exact ⟨0, n0, Nat.zero_le _, rfl, rfl, rfl, by omega, by omega, hide (SmallTo.start (fun h => ⟨HN0.out h, by omega⟩) (by omega)), Keeps.refl _ _⟩
    case round =>
      obtain ⟨i, r, hi, rfl, rfl, rfl, hr1, hr2, HSM, hkw⟩ := hrel
      have HKW := hide hkw; clear hkw
      have p5 : wr.cell? ⟨w.heap.size, 5, none⟩ = some (.slice ia im ic) := (HBX.out.keep HKW.out id).cell 5
      have p6 : wr.cell? ⟨w.heap.size, 6, none⟩ = some (.slice ta tn tc) := (HBX.out.keep HKW.out id).cell 6
      have hi0 : (0 : Int) ≤ i := by omega
      by_cases hin : i < im
      · have hiz : (i : Int) < im := by omega
        by_cases hrm : r ≤ most
        · obtain ⟨b, o, kd', ng', la', ln', lc', tx', nm', ia', im', ic', ta', tn', tc', u, hA, h1, h2, hu, f0, f1, f2, f3, f4, f5, f6⟩ := cells_at (HRI.out.keep (HK0.out.trans' HKW.out (fun _ _ => id) (fun _ _ => id)) (fun _ _ => id)) (TermsIn.keep (HK0.out.trans' HKW.out (fun _ _ => id) (fun _ _ => id)) (fun _ _ => id) _ _ HTI.out) i hin
          subst hA
          have HAT := hide h1; have HT2 := hide h2; have HU := hide hu; have HFU := hide (fitsTs_at HF2.out h1)
          clear h1 h2 hu
          go_wp2_with
            first
            | (go_at_call 25
               refine (HIH.out _ HSZ.out.1 u HU.out HFU.out _ B F kd' ng' la' ln' lc' tx' nm' ia' im' ic' ta' tn' tc' (most - r) HT2.out (by omega) (by omega)).mono ?_
               rintro e w2 ⟨s, rfl, hs1, hs2, hs3, hk2⟩
               have HS3 := hide hs3
               have HKS := hide (HKW.out.trans' hk2 (fun _ _ => id) (fun _ _ => id) : Keeps NoB W0 w2)
               clear hk2 hs3)
            | fail
          go_roundg (im - (i + 1))
          case measure => omega
          case rel => exact ⟨i + 1, r + s, by omega, rfl, by go_num, by go_num, by omega, by omega, hide (HSM.out.step HAT.out hs1 HS3.out), HKS.out⟩
        · have hrm' : most < r := by omega
          clear hrm
          have HBIG := hide (show r ≤ most → (ln ≤ 3000 ∧ im ≤ 3000 ∧ smallTs items) ∧ ((1 + Tm.size.sizes items + 1 : Nat) : Int) ≤ 2 * r from fun h => by omega)
          go_wp2
          go_meet
          exact ⟨r, rfl, hr1, hr2, HBIG, HKW.out⟩
      · have hiz : (im : Int) ≤ i := by omega
        obtain rfl : i = im := by omega
        have HBIG := hide (fun h => HSM.out.all HIL.out h3 h)
        go_wp2
        go_meet
        exact ⟨r, rfl, hr1, hr2, HBIG, HKW.out⟩
  case rest =>
    obtain ⟨r0, rfl, hr1, hr2, HC1, hkw⟩ := hcut
    have HKC := hide hkw; clear hkw
    go_upto_block 2 with fail
    go_cut [5] (fun s5 wx => ∃ r : Int, s5 = .int .i64 r ∧ 1 ≤ r ∧ r ≤ most + 281474976710656 ∧ Hid (r ≤ most → ((ln ≤ 3000 ∧ im ≤ 3000 ∧ smallTs items) ∧ tn ≤ 3000 ∧ smallTs tail) ∧ ((1 + Tm.size.sizes items + Tm.size.sizes tail + 1 : Nat) : Int) ≤ 2 * r) ∧ Keeps NoB W0 wx)
    case first =>
      go_wp2_with fail
      go_loopg [5, 7] tn (fun g s5 s6 wx => ∃ (i : Nat) (r : Int), i ≤ tn ∧ g = tn - i ∧ s5 = .int .i64 r ∧ s6 = .int .i64 i ∧ 1 ≤ r ∧ r ≤ most + 281474976710656 ∧ Hid (SmallTo most tail (ln ≤ 3000 ∧ im ≤ 3000 ∧ smallTs items) (1 + Tm.size.sizes items) i r) ∧ Keeps NoB W0 wx)
      case atStart => exact ⟨0, r0, Nat.zero_le _, rfl, rfl, rfl, by omega, by omega, hide (SmallTo.start HC1.out (by omega)), HKC.out⟩
      case round =>
        obtain ⟨i, r, hi, rfl, rfl, rfl, hr1, hr2, HSM, hkw⟩ := hrel
        have HKW := hide hkw; clear hkw
        have p5 : wr.cell? ⟨w.heap.size, 5, none⟩ = some (.slice ia im ic) := (HBX.out.keep HKW.out id).cell 5
        have p6 : wr.cell? ⟨w.heap.size, 6, none⟩ = some (.slice ta tn tc) := (HBX.out.keep HKW.out id).cell 6
        have hi0 : (0 : Int) ≤ i := by omega
        by_cases hin : i < tn
        · have hiz : (i : Int) < tn := by omega
          by_cases hrm : r ≤ most
          · obtain ⟨b, o, kd', ng', la', ln', lc', tx', nm', ia', im', ic', ta', tn', tc', u, hA, h1, h2, hu, f0, f1, f2, f3, f4, f5, f6⟩ := cells_at (HRT.out.keep (HK0.out.trans' HKW.out (fun _ _ => id) (fun _ _ => id)) (fun _ _ => id)) (TermsIn.keep (HK0.out.trans' HKW.out (fun _ _ => id) (fun _ _ => id)) (fun _ _ => id) _ _ HTT.out) i hin
            subst hA
            have HAT := hide h1; have HT2 := hide h2; have HU := hide hu; have HFU := hide (fitsTs_at HF3.out h1)
            clear h1 h2 hu
            go_wp2_with
              first
              | (go_at_call 25
                 refine (HIH.out _ HSZ.out.2 u HU.out HFU.out _ B F kd' ng' la' ln' lc' tx' nm' ia' im' ic' ta' tn' tc' (most - r) HT2.out (by omega) (by omega)).mono ?_
                 rintro e w2 ⟨s, rfl, hs1, hs2, hs3, hk2⟩
                 have HS3 := hide hs3
                 have HKS := hide (HKW.out.trans' hk2 (fun _ _ => id) (fun _ _ => id) : Keeps NoB W0 w2)
                 clear hk2 hs3)
              | fail
            go_roundg (tn - (i + 1))
            case measure => omega
            case rel => exact ⟨i + 1, r + s, by omega, rfl, by go_num, by go_num, by omega, by omega, hide (HSM.out.step HAT.out hs1 HS3.out), HKS.out⟩
          · have hrm' : most < r := by omega
            clear hrm
            have HBIG := hide (show r ≤ most → ((ln ≤ 3000 ∧ im ≤ 3000 ∧ smallTs items) ∧ tn ≤ 3000 ∧ smallTs tail) ∧ ((1 + Tm.size.sizes items + Tm.size.sizes tail + 1 : Nat) : Int) ≤ 2 * r from fun h => by omega)
            go_wp2
            go_meet
            exact ⟨r, rfl, hr1, hr2, HBIG, HKW.out⟩
        · have hiz : (tn : Int) ≤ i := by omega
          obtain rfl : i = tn := by omega
          have HBIG := hide (fun h => HSM.out.all HTL.out h3 h)
          go_wp2
          go_meet
          exact ⟨r, rfl, hr1, hr2, HBIG, HKW.out⟩
    case rest =>
      obtain ⟨r, rfl, hr1, hr2, HC2, hkw⟩ := hcut
      have HKD := hide hkw; clear hkw
      go_wp2
      go_ret
      refine ⟨r, rfl, hr1, hr2, fun h => ?_, HK0.out.trans' HKD.out (fun _ _ => id) (fun _ _ => id)⟩
      obtain ⟨⟨⟨s1, s2, s3⟩, s4, s5⟩, s6⟩ := HC2.out h
      refine ⟨?_, by rw [Tm.size]; exact s6⟩
      unfold smallT
      exact ⟨by rw [HLL.out]; exact s1, by rw [HIL.out]; exact s2, by rw [HTL.out]; exact s4, s3, s5⟩

theorem terms_of_any2 (t : Tm) (hf : fitsT t) (w : World) (B : Nat → Prop) (F : Bool) (kd : Int) (ng : Bool) (la : Option Addr) (ln lc : Nat) (tx : ByteArray) (nm : Int) (ia : Option Addr) (im ic : Nat) (ta : Option Addr) (tn tc : Nat)
    (ht : TermIn w B F [.int .u8 kd, .bool ng, .slice la ln lc, .string tx, .int .i64 nm, .slice ia im ic, .slice ta tn tc] t) :
    Calls Try.prog 25 #[.agg #[.int .u8 kd, .bool ng, .slice la ln lc, .string tx, .int .i64 nm, .slice ia im ic, .slice ta tn tc], .int .i64 3000] w (OfPost2 w t 3000) :=
  terms_of_all2 t.size t (Nat.le_refl _) hf w B F kd ng la ln lc tx nm ia im ic ta tn tc 3000 ht (by omega) (by omega)
end Go.Proofs.Ytmkidkfofbnjgaa
