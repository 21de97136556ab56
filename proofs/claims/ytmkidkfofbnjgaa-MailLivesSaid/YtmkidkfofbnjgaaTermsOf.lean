/- pigeonholekit: TermsOf: a number, never below one. -/
import Derived.Test.YtmkidkfofbnjgaaSameTs
import Derived.Deep.LoopGhost
import Derived.Deep.CutRange
import Derived.Deep.CutBlock
import Derived.Deep.DeepCutAuto
namespace Go.Proofs.Ytmkidkfofbnjgaa
open Go.RowKit

mutual
/-- All texts in it are such as a machine holds. -/
def fitsT : Tm → Prop
  | .mk _ _ _ tx _ items tail => tx.size ≤ 140737488355328 ∧ fitsTs items ∧ fitsTs tail
def fitsTs : List Tm → Prop
  | [] => True
  | t :: ts => fitsT t ∧ fitsTs ts
end

theorem fitsTs_at : ∀ {ts : List Tm} {k : Nat} {t : Tm}, fitsTs ts → ts[k]? = some t → fitsT t
  | [], _, _, _, h => by simp at h
  | t :: ts, 0, u, hf, h => by
    obtain rfl : t = u := by simpa using h
    unfold fitsTs at hf; exact hf.1
  | t :: ts, k + 1, u, hf, h => by
    unfold fitsTs at hf
    exact fitsTs_at hf.2 (by simpa using h)

def OfPost (w : World) (most : Int) (e : Ending) (w' : World) : Prop := ∃ r : Int, e = .returned (.int .i64 r) ∧ 1 ≤ r ∧ r ≤ most + 281474976710656 ∧ Keeps NoB w w'

def OfSaid (M : Nat) : Prop := ∀ (t : Tm), t.size ≤ M → fitsT t → ∀ (w : World) (B : Nat → Prop) (F : Bool) (kd : Int) (ng : Bool) (la : Option Addr) (ln lc : Nat) (tx : ByteArray) (nm : Int) (ia : Option Addr) (im ic : Nat) (ta : Option Addr) (tn tc : Nat) (most : Int),
  TermIn w B F [.int .u8 kd, .bool ng, .slice la ln lc, .string tx, .int .i64 nm, .slice ia im ic, .slice ta tn tc] t → 0 ≤ most → most ≤ 3000 →
  Calls Try.prog 25 #[.agg #[.int .u8 kd, .bool ng, .slice la ln lc, .string tx, .int .i64 nm, .slice ia im ic, .slice ta tn tc], .int .i64 most] w (OfPost w most)

set_option maxRecDepth 100000 in
set_option maxHeartbeats 1000000 in
theorem terms_of_all (M : Nat) : OfSaid M := by
  induction M using Nat.strongRecOn with
  | ind M IH =>
  intro t hM hfit w B F kd ng la ln lc tx nm ia im ic ta tn tc most ht h0 h3
  obtain ⟨limbs, items, tail, css, dss, rfl, hroom, hrl, hri, hti, hrt, htt⟩ : ∃ limbs items tail css dss, t = .mk kd ng limbs tx nm items tail ∧ (Roomy ln 4 ∧ Roomy im 104 ∧ Roomy tn 104) ∧ Reads w B F 1 la ln (limbs.map (Value.int .u32)) ∧ Reads w B F 7 ia im (List.flatten css) ∧ TermsIn w B F css items ∧ Reads w B F 7 ta tn (List.flatten dss) ∧ TermsIn w B F dss tail := by
    cases t
    unfold TermIn at ht
    obtain ⟨_, _, _, _, _, _, _, _, _, css, dss, e, hb, h1, h2, h3, h4, h5⟩ := ht
    simp only [List.cons.injEq, Value.int.injEq, Value.bool.injEq, Value.slice.injEq, Value.string.injEq, true_and, and_true] at e
    obtain ⟨rfl, rfl, ⟨rfl, rfl, rfl⟩, rfl, rfl, ⟨rfl, rfl, rfl⟩, rfl, rfl, rfl⟩ := e
    exact ⟨_, _, _, css, dss, rfl, hb, h1, h2, h3, h4, h5⟩
  have hsz : Tm.size.sizes items < M ∧ Tm.size.sizes tail < M := by
    have := hM; simp only [Tm.size] at this; omega
  have hln : (ln : Int) ≤ 35184372088832 := by have := hroom.1; unfold Roomy at this; omega
  have him : (im : Int) ≤ 35184372088832 := by have := hroom.2.1; unfold Roomy at this; omega
  have htn : (tn : Int) ≤ 35184372088832 := by have := hroom.2.2; unfold Roomy at this; omega
  unfold fitsT at hfit
  obtain ⟨hf1, hf2, hf3⟩ := hfit
  have htx : (tx.size : Int) ≤ 140737488355328 := by omega
  have HRI := hide hri; have HTI := hide hti; have HRT := hide hrt; have HTT := hide htt; have HSZ := hide hsz; have HF2 := hide hf2; have HF3 := hide hf3; have HIH := hide IH
  have hdiv0 : 0 ≤ (tx.size : Int).tdiv 8 := Int.tdiv_nonneg (by omega) (by omega)
  have hdiv : (tx.size : Int).tdiv 8 ≤ 140737488355328 := by have := Int.tdiv_le_self (a := (tx.size : Int)) 8 (by omega); omega
  clear hrl hri hti hrt htt hroom hsz hf1 hf2 hf3 hM IH ht
  go_enter Try.func25, Try.ntmps25
  have hn1 : 1 ≤ 1 + (ln : Int) + (tx.size : Int) / 8 := by omega
  have hn2 : 1 + (ln : Int) + (tx.size : Int) / 8 ≤ 281474976710656 := by omega
  clear hdiv hdiv0
  go_upto_block 0 with fail
  generalize 1 + (ln : Int) + (tx.size : Int) / 8 = n0 at *
  have HBX := hide (Blk.new w 33 #[.int .u8 kd, .bool ng, .slice la ln lc, .string tx, .int .i64 nm, .slice ia im ic, .slice ta tn tc])
  have HK0 := hide ((Keeps.refl NoB w).alloc (.cells #[.int .u8 kd, .bool ng, .slice la ln lc, .string tx, .int .i64 nm, .slice ia im ic, .slice ta tn tc] 33))
  generalize w.alloc (.cells #[.int .u8 kd, .bool ng, .slice la ln lc, .string tx, .int .i64 nm, .slice ia im ic, .slice ta tn tc] 33) = W0 at *
  go_cut [5] (fun s5 wx => ∃ r : Int, s5 = .int .i64 r ∧ 1 ≤ r ∧ r ≤ most + 281474976710656 ∧ Keeps NoB W0 wx)
  case first =>
    go_wp2_with fail
    go_loopg [5, 6] im (fun g s5 s6 wx => ∃ (i : Nat) (r : Int), i ≤ im ∧ g = im - i ∧ s5 = .int .i64 r ∧ s6 = .int .i64 i ∧ 1 ≤ r ∧ r ≤ most + 281474976710656 ∧ Keeps NoB W0 wx)
    case atStart => exact ⟨0, n0, Nat.zero_le _, rfl, rfl, rfl, by omega, by omega, Keeps.refl _ _⟩
    case round =>
      obtain ⟨i, r, hi, rfl, rfl, rfl, hr1, hr2, hkw⟩ := hrel
      have HKW := hide hkw; clear hkw
      have p5 : wr.cell? ⟨w.heap.size, 5, none⟩ = some (.slice ia im ic) := (HBX.out.keep HKW.out id).cell 5
      have p6 : wr.cell? ⟨w.heap.size, 6, none⟩ = some (.slice ta tn tc) := (HBX.out.keep HKW.out id).cell 6
      have hi0 : (0 : Int) ≤ i := by omega
      by_cases hin : i < im
      · have hiz : (i : Int) < im := by omega
        by_cases hrm : r ≤ most
        · obtain ⟨b, o, kd', ng', la', ln', lc', tx', nm', ia', im', ic', ta', tn', tc', u, hA, h1, h2, hu, f0, f1, f2, f3, f4, f5, f6⟩ := cells_at (HRI.out.keep (HK0.out.trans' HKW.out (fun _ _ => id) (fun _ _ => id)) (fun _ _ => id)) (TermsIn.keep (HK0.out.trans' HKW.out (fun _ _ => id) (fun _ _ => id)) (fun _ _ => id) _ _ HTI.out) i hin
          subst hA
          have HT2 := hide h2; have HU := hide hu; have HFU := hide (fitsTs_at HF2.out h1)
          clear h1 h2 hu
          go_wp2_with
            first
            | (go_at_call 25
               refine (HIH.out _ HSZ.out.1 u HU.out HFU.out _ B F kd' ng' la' ln' lc' tx' nm' ia' im' ic' ta' tn' tc' (most - r) HT2.out (by omega) (by omega)).mono ?_
               rintro e w2 ⟨s, rfl, hs1, hs2, hk2⟩
               have HKS := hide (HKW.out.trans' hk2 (fun _ _ => id) (fun _ _ => id) : Keeps NoB W0 w2)
               clear hk2)
            | fail
          go_roundg (im - (i + 1))
          case measure => omega
          case rel => exact ⟨i + 1, r + s, by omega, rfl, by go_num, by go_num, by omega, by omega, HKS.out⟩
        · have hrm' : most < r := by omega
          clear hrm
          go_wp2
          go_meet
          exact ⟨r, rfl, hr1, hr2, HKW.out⟩
      · have hiz : (im : Int) ≤ i := by omega
        go_wp2
        go_meet
        exact ⟨r, rfl, hr1, hr2, HKW.out⟩
  case rest =>
    obtain ⟨r0, rfl, hr1, hr2, hkw⟩ := hcut
    have HKC := hide hkw; clear hkw
    go_upto_block 2 with fail
    go_cut [5] (fun s5 wx => ∃ r : Int, s5 = .int .i64 r ∧ 1 ≤ r ∧ r ≤ most + 281474976710656 ∧ Keeps NoB W0 wx)
    case first =>
      go_wp2_with fail
      go_loopg [5, 7] tn (fun g s5 s6 wx => ∃ (i : Nat) (r : Int), i ≤ tn ∧ g = tn - i ∧ s5 = .int .i64 r ∧ s6 = .int .i64 i ∧ 1 ≤ r ∧ r ≤ most + 281474976710656 ∧ Keeps NoB W0 wx)
      case atStart => exact ⟨0, r0, Nat.zero_le _, rfl, rfl, rfl, by omega, by omega, HKC.out⟩
      case round =>
        obtain ⟨i, r, hi, rfl, rfl, rfl, hr1, hr2, hkw⟩ := hrel
        have HKW := hide hkw; clear hkw
        have p5 : wr.cell? ⟨w.heap.size, 5, none⟩ = some (.slice ia im ic) := (HBX.out.keep HKW.out id).cell 5
        have p6 : wr.cell? ⟨w.heap.size, 6, none⟩ = some (.slice ta tn tc) := (HBX.out.keep HKW.out id).cell 6
        have hi0 : (0 : Int) ≤ i := by omega
        by_cases hin : i < tn
        · have hiz : (i : Int) < tn := by omega
          by_cases hrm : r ≤ most
          · obtain ⟨b, o, kd', ng', la', ln', lc', tx', nm', ia', im', ic', ta', tn', tc', u, hA, h1, h2, hu, f0, f1, f2, f3, f4, f5, f6⟩ := cells_at (HRT.out.keep (HK0.out.trans' HKW.out (fun _ _ => id) (fun _ _ => id)) (fun _ _ => id)) (TermsIn.keep (HK0.out.trans' HKW.out (fun _ _ => id) (fun _ _ => id)) (fun _ _ => id) _ _ HTT.out) i hin
            subst hA
            have HT2 := hide h2; have HU := hide hu; have HFU := hide (fitsTs_at HF3.out h1)
            clear h1 h2 hu
            go_wp2_with
              first
              | (go_at_call 25
                 refine (HIH.out _ HSZ.out.2 u HU.out HFU.out _ B F kd' ng' la' ln' lc' tx' nm' ia' im' ic' ta' tn' tc' (most - r) HT2.out (by omega) (by omega)).mono ?_
                 rintro e w2 ⟨s, rfl, hs1, hs2, hk2⟩
                 have HKS := hide (HKW.out.trans' hk2 (fun _ _ => id) (fun _ _ => id) : Keeps NoB W0 w2)
                 clear hk2)
              | fail
            go_roundg (tn - (i + 1))
            case measure => omega
            case rel => exact ⟨i + 1, r + s, by omega, rfl, by go_num, by go_num, by omega, by omega, HKS.out⟩
          · have hrm' : most < r := by omega
            clear hrm
            go_wp2
            go_meet
            exact ⟨r, rfl, hr1, hr2, HKW.out⟩
        · have hiz : (tn : Int) ≤ i := by omega
          go_wp2
          go_meet
          exact ⟨r, rfl, hr1, hr2, HKW.out⟩
    case rest =>
      obtain ⟨r, rfl, hr1, hr2, hkw⟩ := hcut
      have HKD := hide hkw; clear hkw
      go_wp2
      go_ret
      exact ⟨r, rfl, hr1, hr2, HK0.out.trans' HKD.out (fun _ _ => id) (fun _ _ => id)⟩

theorem terms_of_any (t : Tm) (hf : fitsT t) (w : World) (B : Nat → Prop) (F : Bool) (kd : Int) (ng : Bool) (la : Option Addr) (ln lc : Nat) (tx : ByteArray) (nm : Int) (ia : Option Addr) (im ic : Nat) (ta : Option Addr) (tn tc : Nat)
    (ht : TermIn w B F [.int .u8 kd, .bool ng, .slice la ln lc, .string tx, .int .i64 nm, .slice ia im ic, .slice ta tn tc] t) :
    Calls Try.prog 25 #[.agg #[.int .u8 kd, .bool ng, .slice la ln lc, .string tx, .int .i64 nm, .slice ia im ic, .slice ta tn tc], .int .i64 3000] w (OfPost w 3000) :=
  terms_of_all t.size t (Nat.le_refl _) hf w B F kd ng la ln lc tx nm ia im ic ta tn tc 3000 ht (by omega) (by omega)
end Go.Proofs.Ytmkidkfofbnjgaa
