/- pigeonholekit: TermsOf: what it does not leave off is small. pigeonholekit: CoresOf: how many cores there are, if it does not leave off. law11.great where no variables are given: it returns. Printed by mkmatgr.py. -/
import Derived.Test.YtjdbjjjbgibpaaaGreatDoorOrdLawJn
import Derived.Test.YtjdbjjjbgibpaaaGreatDoorTmSamesJn
import Derived.Deep.CutRange
import Derived.Deep.CutBlock
import Derived.Deep.DeepCutAuto
import Derived.Test.YtjdbjjjbgibpaaaGreatDoorMatLawJn
import Derived.Test.YtjdbjjjbgibpaaaGreatDoorMatAwkJn
namespace Go.Proofs.YtjdbjjjbgibpaaaGreatDoor
open Go.RowKit

mutual
/-- All lists in it are short. -/
def smallT : Tm → Prop
  | .mk _ _ limbs _ _ items tail => limbs.length ≤ 6000 ∧ items.length ≤ 6000 ∧ tail.length ≤ 6000 ∧ smallTs items ∧ smallTs tail
def smallTs : List Tm → Prop
  | [] => True
  | t :: ts => smallT t ∧ smallTs ts
end
theorem okTs_in : ∀ {ts : List Tm} {k : Nat} {t : Tm}, okTs ts → ts[k]? = some t → okT t
  | [], _, _, _, h => by simp at h
  | t :: ts, 0, u, hf, h => by
    obtain rfl : t = u := by simpa using h
    unfold okTs at hf; exact hf.1
  | t :: ts, k + 1, u, hf, h => by
    unfold okTs at hf
    exact okTs_in hf.2 (by simpa using h)
theorem smallTs_of : ∀ {ts : List Tm}, (∀ (j : Nat) (u : Tm), ts[j]? = some u → smallT u) → smallTs ts
  | [], _ => by unfold smallTs; trivial
  | t :: ts, h => by unfold smallTs; exact ⟨h 0 t rfl, smallTs_of (fun j u hu => h (j + 1) u (by simpa using hu))⟩
/-- The first i of some are small. -/
def SmallTo (most : Int) (ts : List Tm) (A : Prop) (i : Nat) (r : Int) : Prop := r ≤ most → A ∧ (i : Int) ≤ r ∧ ∀ (j : Nat) (u : Tm), j < i → ts[j]? = some u → smallT u
theorem SmallTo.start {most : Int} {ts : List Tm} {A : Prop} {r : Int} (h : r ≤ most → A) (h0 : 0 ≤ r) : SmallTo most ts A 0 r := fun hr => ⟨h hr, by omega, fun j u hj => by omega⟩
theorem SmallTo.step {most : Int} {ts : List Tm} {A : Prop} {i : Nat} {r s : Int} {u : Tm} (h : SmallTo most ts A i r) (hu : ts[i]? = some u) (hs : 1 ≤ s) (hsm : s ≤ most - r → smallT u) : SmallTo most ts A (i + 1) (r + s) := by
  intro hr
  obtain ⟨h1, h2, h3⟩ := h (by omega)
  refine ⟨h1, by omega, fun j v hj hv => ?_⟩
  by_cases e : j = i
  · subst e
    rw [hu] at hv; injection hv with hv; subst hv
    exact hsm (by omega)
  · exact h3 j v (by omega) hv
theorem SmallTo.all {most : Int} {ts : List Tm} {A : Prop} {n : Nat} {r : Int} (h : SmallTo most ts A n r) (hn : ts.length = n) (h3 : most ≤ 6000) (hr : r ≤ most) : A ∧ n ≤ 6000 ∧ smallTs ts := by
  obtain ⟨h1, h2, h4⟩ := h hr
  exact ⟨h1, by omega, smallTs_of (fun j u hu => h4 j u (by have := (List.getElem?_eq_some_iff.1 hu).1; omega) hu)⟩

def OfPost2 (w : World) (t : Tm) (most : Int) (e : Ending) (w' : World) : Prop := ∃ r : Int, e = .returned (.int .i64 r) ∧ 1 ≤ r ∧ r ≤ most + 281474976710656 ∧ (r ≤ most → smallT t) ∧ Keeps NoB w w'

def OfSaid2 (M : Nat) : Prop := ∀ (t : Tm), t.size ≤ M → okT t → ∀ (w : World) (B : Nat → Prop) (F : Bool) (kd : Int) (ng : Bool) (la : Option Addr) (ln lc : Nat) (tx : ByteArray) (nm : Int) (ia : Option Addr) (im ic : Nat) (ta : Option Addr) (tn tc : Nat) (most : Int),
  TermIn w B F [.int .u8 kd, .bool ng, .slice la ln lc, .string tx, .int .i64 nm, .slice ia im ic, .slice ta tn tc] t → 0 ≤ most → most ≤ 6000 →
  Calls Tryz.prog 6 #[.agg #[.int .u8 kd, .bool ng, .slice la ln lc, .string tx, .int .i64 nm, .slice ia im ic, .slice ta tn tc], .int .i64 most] w (OfPost2 w t most)

set_option maxRecDepth 100000 in
set_option maxHeartbeats 1000000 in
theorem terms_of_all2 (M : Nat) : OfSaid2 M := by
  induction M using Nat.strongRecOn with
  | ind M IH =>
  intro t hM hfit w B F kd ng la ln lc tx nm ia im ic ta tn tc most ht h0 h3
  obtain ⟨limbs, items, tail, css, dss, rfl, hroom, hrl, hri, hti, hrt, htt⟩ : ∃ limbs items tail css dss, t = .mk kd ng limbs tx nm items tail ∧ (Roomy ln 4 ∧ Roomy im 104 ∧ Roomy tn 104) ∧ Reads w B F 1 la ln (limbs.map (Value.int .u32)) ∧ Reads w B F 7 ia im (List.flatten css) ∧ TermsIn w B F css items ∧ Reads w B F 7 ta tn (List.flatten dss) ∧ TermsIn w B F dss tail := by
    cases t
    unfold TermIn at ht
    obtain ⟨_, _, _, _, _, _, _, _, _, css, dss, e, hb, h1, h2, h3, h4, h5⟩ := ht
    simp only [List.cons.injEq, Value.int.injEq, Value.bool.injEq, Value.slice.injEq, Value.string.injEq, true_and, and_true] at e
    obtain ⟨rfl, rfl, ⟨rfl, rfl, rfl⟩, rfl, rfl, ⟨rfl, rfl, rfl⟩, rfl, rfl, rfl⟩ := e
    exact ⟨_, _, _, css, dss, rfl, ⟨hb.1.1, hb.2.1.1, hb.2.2.1⟩, h1, h2, h3, h4, h5⟩
  have hll : limbs.length = ln := by have := hrl.1; simpa using this
  have hil : items.length = im := by have h1 := hri.1; rw [flat_len hti.lens.2, hti.lens.1] at h1; omega
  have htl : tail.length = tn := by have h1 := hrt.1; rw [flat_len htt.lens.2, htt.lens.1] at h1; omega
  have HLL := hide hll; have HIL := hide hil; have HTL := hide htl
  clear hll hil htl
  have hsz : Tm.size.sizes items < M ∧ Tm.size.sizes tail < M := by
    have := hM; simp only [Tm.size] at this; omega
  have hln : (ln : Int) ≤ 35184372088832 := by have := hroom.1; unfold Roomy at this; omega
  have him : (im : Int) ≤ 35184372088832 := by have := hroom.2.1; unfold Roomy at this; omega
  have htn : (tn : Int) ≤ 35184372088832 := by have := hroom.2.2; unfold Roomy at this; omega
  unfold okT at hfit
  obtain ⟨_, _, hf1, _, hf2, hf3⟩ := hfit
  have htx : (tx.size : Int) ≤ 140737488355328 := by omega
  have HRI := hide hri; have HTI := hide hti; have HRT := hide hrt; have HTT := hide htt; have HSZ := hide hsz; have HF2 := hide hf2; have HF3 := hide hf3; have HIH := hide IH
  have hdiv0 : 0 ≤ (tx.size : Int).tdiv 8 := Int.tdiv_nonneg (by omega) (by omega)
  have hdiv : (tx.size : Int).tdiv 8 ≤ 140737488355328 := by have := Int.tdiv_le_self (a := (tx.size : Int)) 8 (by omega); omega
  clear hrl hri hti hrt htt hroom hsz hf1 hf2 hf3 hM IH ht
  go_enter Tryz.func6, Tryz.ntmps6
  have hn1 : 1 ≤ 1 + (ln : Int) + (tx.size : Int) / 8 := by omega
  have HN0 := hide (show 1 + (ln : Int) + (tx.size : Int) / 8 ≤ most → ln ≤ 6000 from fun h => by omega)
  have hn2 : 1 + (ln : Int) + (tx.size : Int) / 8 ≤ 281474976710656 := by omega
  clear hdiv hdiv0
  go_upto_block 0 with fail
  generalize 1 + (ln : Int) + (tx.size : Int) / 8 = n0 at *
  have HBX := hide (Blk.new w 26 #[.int .u8 kd, .bool ng, .slice la ln lc, .string tx, .int .i64 nm, .slice ia im ic, .slice ta tn tc])
  have HK0 := hide ((Keeps.refl NoB w).alloc (.cells #[.int .u8 kd, .bool ng, .slice la ln lc, .string tx, .int .i64 nm, .slice ia im ic, .slice ta tn tc] 26))
  generalize w.alloc (.cells #[.int .u8 kd, .bool ng, .slice la ln lc, .string tx, .int .i64 nm, .slice ia im ic, .slice ta tn tc] 26) = W0 at *
  go_cut [5] (fun s5 wx => ∃ r : Int, s5 = .int .i64 r ∧ 1 ≤ r ∧ r ≤ most + 281474976710656 ∧ Hid (r ≤ most → ln ≤ 6000 ∧ im ≤ 6000 ∧ smallTs items) ∧ Keeps NoB W0 wx)
  case first =>
    go_wp2_with fail
    go_loopg [5, 6] im (fun g s5 s6 wx => ∃ (i : Nat) (r : Int), i ≤ im ∧ g = im - i ∧ s5 = .int .i64 r ∧ s6 = .int .i64 i ∧ 1 ≤ r ∧ r ≤ most + 281474976710656 ∧ Hid (SmallTo most items (ln ≤ 6000) i r) ∧ Keeps NoB W0 wx)
    case atStart => exact ⟨0, n0, Nat.zero_le _, rfl, rfl, rfl, by omega, by omega, hide (SmallTo.start HN0.out (by omega)), Keeps.refl _ _⟩
    case round =>
      obtain ⟨i, r, hi, rfl, rfl, rfl, hr1, hr2, HSM, hkw⟩ := hrel
      have HKW := hide hkw; clear hkw
      have p5 := (HBX.out.keep HKW.out id).cell 5
      have p6 := (HBX.out.keep HKW.out id).cell 6
      have hi0 : (0 : Int) ≤ i := by omega
      by_cases hin : i < im
      · have hiz : (i : Int) < im := by omega
        by_cases hrm : r ≤ most
        · obtain ⟨b, o, kd', ng', la', ln', lc', tx', nm', ia', im', ic', ta', tn', tc', u, hA, h1, h2, hu, f0, f1, f2, f3, f4, f5, f6⟩ := cells_at (HRI.out.keep (HK0.out.trans' HKW.out (fun _ _ => id) (fun _ _ => id)) (fun _ _ => id)) (TermsIn.keep (HK0.out.trans' HKW.out (fun _ _ => id) (fun _ _ => id)) (fun _ _ => id) _ _ HTI.out) i hin
          subst hA
          have HAT := hide h1; have HT2 := hide h2; have HU := hide hu; have HFU := hide (okTs_in HF2.out h1)
          clear h1 h2 hu
          go_wp2_with
            first
            | (go_at_call 6
               refine (HIH.out _ HSZ.out.1 u HU.out HFU.out _ B F kd' ng' la' ln' lc' tx' nm' ia' im' ic' ta' tn' tc' (most - r) HT2.out (by omega) (by omega)).mono ?_
               rintro e w2 ⟨s, rfl, hs1, hs2, hs3, hk2⟩
               have HS3 := hide hs3
               have HKS := hide (HKW.out.trans' hk2 (fun _ _ => id) (fun _ _ => id) : Keeps NoB W0 w2)
               clear hk2 hs3)
            | fail
          go_roundg (im - (i + 1))
          case measure => omega
          case rel => exact ⟨i + 1, r + s, by omega, rfl, by go_num, by go_num, by omega, by omega, hide (HSM.out.step HAT.out hs1 HS3.out), HKS.out⟩
        · have hrm' : most < r := by omega
          clear hrm
          have HBIG := hide (show r ≤ most → ln ≤ 6000 ∧ im ≤ 6000 ∧ smallTs items from fun h => by omega)
          go_wp2
          go_meet
          exact ⟨r, rfl, hr1, hr2, HBIG, HKW.out⟩
      · have hiz : (im : Int) ≤ i := by omega
        obtain rfl : i = im := by omega
        have HBIG := hide (fun h => HSM.out.all HIL.out h3 h)
        go_wp2
        go_meet
        exact ⟨r, rfl, hr1, hr2, HBIG, HKW.out⟩
  case rest =>
    obtain ⟨r0, rfl, hr1, hr2, HC1, hkw⟩ := hcut
    have HKC := hide hkw; clear hkw
    go_upto_block 2 with fail
    go_cut [5] (fun s5 wx => ∃ r : Int, s5 = .int .i64 r ∧ 1 ≤ r ∧ r ≤ most + 281474976710656 ∧ Hid (r ≤ most → (ln ≤ 6000 ∧ im ≤ 6000 ∧ smallTs items) ∧ tn ≤ 6000 ∧ smallTs tail) ∧ Keeps NoB W0 wx)
    case first =>
      go_wp2_with fail
      go_loopg [5, 7] tn (fun g s5 s6 wx => ∃ (i : Nat) (r : Int), i ≤ tn ∧ g = tn - i ∧ s5 = .int .i64 r ∧ s6 = .int .i64 i ∧ 1 ≤ r ∧ r ≤ most + 281474976710656 ∧ Hid (SmallTo most tail (ln ≤ 6000 ∧ im ≤ 6000 ∧ smallTs items) i r) ∧ Keeps NoB W0 wx)
      case atStart => exact ⟨0, r0, Nat.zero_le _, rfl, rfl, rfl, by omega, by omega, hide (SmallTo.start HC1.out (by omega)), HKC.out⟩
      case round =>
        obtain ⟨i, r, hi, rfl, rfl, rfl, hr1, hr2, HSM, hkw⟩ := hrel
        have HKW := hide hkw; clear hkw
        have p5 := (HBX.out.keep HKW.out id).cell 5
        have p6 := (HBX.out.keep HKW.out id).cell 6
        have hi0 : (0 : Int) ≤ i := by omega
        by_cases hin : i < tn
        · have hiz : (i : Int) < tn := by omega
          by_cases hrm : r ≤ most
          · obtain ⟨b, o, kd', ng', la', ln', lc', tx', nm', ia', im', ic', ta', tn', tc', u, hA, h1, h2, hu, f0, f1, f2, f3, f4, f5, f6⟩ := cells_at (HRT.out.keep (HK0.out.trans' HKW.out (fun _ _ => id) (fun _ _ => id)) (fun _ _ => id)) (TermsIn.keep (HK0.out.trans' HKW.out (fun _ _ => id) (fun _ _ => id)) (fun _ _ => id) _ _ HTT.out) i hin
            subst hA
            have HAT := hide h1; have HT2 := hide h2; have HU := hide hu; have HFU := hide (okTs_in HF3.out h1)
            clear h1 h2 hu
            go_wp2_with
              first
              | (go_at_call 6
                 refine (HIH.out _ HSZ.out.2 u HU.out HFU.out _ B F kd' ng' la' ln' lc' tx' nm' ia' im' ic' ta' tn' tc' (most - r) HT2.out (by omega) (by omega)).mono ?_
                 rintro e w2 ⟨s, rfl, hs1, hs2, hs3, hk2⟩
                 have HS3 := hide hs3
                 have HKS := hide (HKW.out.trans' hk2 (fun _ _ => id) (fun _ _ => id) : Keeps NoB W0 w2)
                 clear hk2 hs3)
              | fail
            go_roundg (tn - (i + 1))
            case measure => omega
            case rel => exact ⟨i + 1, r + s, by omega, rfl, by go_num, by go_num, by omega, by omega, hide (HSM.out.step HAT.out hs1 HS3.out), HKS.out⟩
          · have hrm' : most < r := by omega
            clear hrm
            have HBIG := hide (show r ≤ most → (ln ≤ 6000 ∧ im ≤ 6000 ∧ smallTs items) ∧ tn ≤ 6000 ∧ smallTs tail from fun h => by omega)
            go_wp2
            go_meet
            exact ⟨r, rfl, hr1, hr2, HBIG, HKW.out⟩
        · have hiz : (tn : Int) ≤ i := by omega
          obtain rfl : i = tn := by omega
          have HBIG := hide (fun h => HSM.out.all HTL.out h3 h)
          go_wp2
          go_meet
          exact ⟨r, rfl, hr1, hr2, HBIG, HKW.out⟩
    case rest =>
      obtain ⟨r, rfl, hr1, hr2, HC2, hkw⟩ := hcut
      have HKD := hide hkw; clear hkw
      go_wp2
      go_ret
      refine ⟨r, rfl, hr1, hr2, fun h => ?_, HK0.out.trans' HKD.out (fun _ _ => id) (fun _ _ => id)⟩
      obtain ⟨⟨s1, s2, s3⟩, s4, s5⟩ := HC2.out h
      unfold smallT
      exact ⟨by rw [HLL.out]; exact s1, by rw [HIL.out]; exact s2, by rw [HTL.out]; exact s4, s3, s5⟩

end Go.Proofs.YtjdbjjjbgibpaaaGreatDoor
namespace Go.Proofs.YtjdbjjjbgibpaaaGreatDoor
open Go.RowKit

def Co.count : Co → Nat
  | .mk _ _ _ _ kids => 1 + counts kids
where counts : List Co → Nat
  | [] => 0
  | t :: ts => t.count + counts ts
def OfCPost (w : World) (t : Co) (most : Int) (e : Ending) (w' : World) : Prop := ∃ r : Int, e = .returned (.int .i64 r) ∧ 1 ≤ r ∧ r ≤ most + 562949953421312 ∧ (r ≤ most → (t.count : Int) ≤ r) ∧ Keeps NoB w w'

def OfCSaid (M : Nat) : Prop := ∀ (t : Co), t.size ≤ M → okC t → ∀ (w : World) (B : Nat → Prop) (F : Bool)
    (kd : Int) (tx : ByteArray) (nm tk : Int) (ng : Bool) (la : Option Addr) (ln lc : Nat) (tt : ByteArray) (tn : Int) (ia : Option Addr) (im ic : Nat) (ta : Option Addr) (tm tc : Nat) (ka : Option Addr) (kn kc : Nat) (most : Int),
    CoreIn w B F [.int .u8 kd, .string tx, .int .i64 nm, .int .u8 tk, .bool ng, .slice la ln lc, .string tt, .int .i64 tn, .slice ia im ic, .slice ta tm tc, .slice ka kn kc] t → 0 ≤ most → most ≤ 6000 → Calls Tryz.prog 31 #[.agg #[.int .u8 kd, .string tx, .int .i64 nm, .int .u8 tk, .bool ng, .slice la ln lc, .string tt, .int .i64 tn, .slice ia im ic, .slice ta tm tc, .slice ka kn kc], .int .i64 most] w (OfCPost w t most)

end Go.Proofs.YtjdbjjjbgibpaaaGreatDoor
namespace Go.Proofs.YtjdbjjjbgibpaaaGreatDoor
open Go.RowKit

def Amt (N : Int) (v : Value) : Prop := ∃ r : Int, v = .int .i64 r ∧ 1 ≤ r ∧ r ≤ N
end Go.Proofs.YtjdbjjjbgibpaaaGreatDoor
