/- node.Deep, node.many: trees not too large. -/
import Derived.Test.YtincajfanhanjaaDoorNdAfter
namespace Go.Proofs.YtincajfanhanjaaDoor
open Go.RowKit

theorem deeps_take : ∀ {ts : List Nd} {k : Nat} {t : Nd}, ts[k]? = some t → deepsN (ts.take (k + 1)) = max (deepsN (ts.take k)) (deepN t)
  | [], k, t, h => by simp at h
  | a :: ts, 0, t, h => by
    have e : a = t := by simpa using h
    subst e
    simp only [List.take_succ_cons, List.take_zero, deepsN]; omega
  | a :: ts, k + 1, t, h => by
    have e := deeps_take (ts := ts) (k := k) (t := t) (by simpa using h)
    simp only [List.take_succ_cons, deepsN] at e ⊢; rw [e]; omega
theorem manys_take : ∀ {ts : List Nd} {k : Nat} {t : Nd}, ts[k]? = some t → manysN (ts.take (k + 1)) = manysN (ts.take k) + manyN t
  | [], k, t, h => by simp at h
  | a :: ts, 0, t, h => by
    have e : a = t := by simpa using h
    subst e
    simp only [List.take_succ_cons, List.take_zero, manysN]; omega
  | a :: ts, k + 1, t, h => by
    have e := manys_take (ts := ts) (k := k) (t := t) (by simpa using h)
    simp only [List.take_succ_cons, manysN] at e ⊢; rw [e]; omega
theorem manys_take_le : ∀ (ts : List Nd) (k : Nat), manysN (ts.take k) ≤ manysN ts
  | [], k => by simp
  | a :: ts, 0 => by simp only [List.take_zero, manysN]; omega
  | a :: ts, k + 1 => by
    have := manys_take_le ts k
    simp only [List.take_succ_cons, manysN]; omega
mutual
theorem deep_many : ∀ t : Nd, deepN t ≤ manyN t
  | .mk _ _ _ _ kids => by
    have := deeps_manys kids
    unfold deepN manyN; omega
theorem deeps_manys : ∀ ts : List Nd, deepsN ts ≤ manysN ts
  | [] => by unfold deepsN; omega
  | t :: ts => by
    have := deep_many t; have := deeps_manys ts
    unfold deepsN manysN; omega
end
def DeepSaid (M : Nat) : Prop := ∀ t : Nd, t.size ≤ M → manyN t ≤ 4611686018427387904 → ∀ (w : World) (B : Nat → Prop) (F : Bool) (kd : Int) (tx : ByteArray) (nm pl : Int) (ka : Option Addr) (kn kc : Nat), NodeIn w B F [.int .u8 kd, .string tx, .int .i64 nm, .int .i64 pl, .slice ka kn kc] t →
  Calls Tryd.prog 33 #[.agg #[.int .u8 kd, .string tx, .int .i64 nm, .int .i64 pl, .slice ka kn kc]] w fun e w' => e = .returned (.int .i64 ((deepN t : Nat) : Int)) ∧ Keeps NoB w w'
set_option maxRecDepth 100000 in
theorem Deep_walk (M : Nat) (IH : DeepSaid M) (t : Nd) (hM : t.size ≤ M + 1) (hm : manyN t ≤ 4611686018427387904) (w : World) (B : Nat → Prop) (F : Bool) (kd : Int) (tx : ByteArray) (nm pl : Int) (ka : Option Addr) (kn kc : Nat) (ht : NodeIn w B F [.int .u8 kd, .string tx, .int .i64 nm, .int .i64 pl, .slice ka kn kc] t) :
    Calls Tryd.prog 33 #[.agg #[.int .u8 kd, .string tx, .int .i64 nm, .int .i64 pl, .slice ka kn kc]] w fun e w' => e = .returned (.int .i64 ((deepN t : Nat) : Int)) ∧ Keeps NoB w w' := by
  obtain ⟨kids, css, rfl, hroom, hr, hc, hkl⟩ := ht.kidsIn
  have hnm : kn ≤ 9223372036854775807 := by have := hroom.1.len (by omega); unfold maxLen at this; exact this
  have hks : Nd.size.sizes kids ≤ M := by simp only [Nd.size] at hM; omega
  have hmk : manysN kids + 1 ≤ 4611686018427387904 := by unfold manyN at hm; exact hm
  have HE : Hid (deepN (.mk kd tx nm pl kids) = deepsN kids + 1) := hide (by unfold deepN; rfl)
  have HKS := hide hks; have HMK := hide hmk; have HR := hide hr; have HC := hide hc; have HKL := hide hkl; have HIH := hide IH
  have HK0 := hide ((Keeps.refl NoB w).alloc (.cells #[.int .u8 kd, .string tx, .int .i64 nm, .int .i64 pl, .slice ka kn kc] 29))
  clear ht hroom hr hc hkl hM hm hks hmk IH
  go_enter Tryd.func33, Tryd.ntmps33
  go_wp2
  go_loopg [3, 9] kn (fun g s3 s9 wx => ∃ k : Nat, k ≤ kn ∧ g = kn - k ∧ s9 = .int .i64 k ∧ s3 = .int .i64 ((deepsN (kids.take k) : Nat) : Int) ∧ Keeps NoB w wx)
  case atStart => exact ⟨0, Nat.zero_le _, rfl, rfl, by simp [deepsN], HK0.out⟩
  case round =>
    obtain ⟨k, hk, rfl, rfl, rfl, hkw⟩ := hrel
    have HKW := hide hkw; clear hkw
    by_cases hlt : k < kn
    · obtain ⟨b, o, kd1, tx1, nm1, pl1, ka1, kn1, kc1, t1, hA, _, _, h1, hsz, hu, f0, f1, f2, f3, f4⟩ := node_at (HR.out.keep HKW.out (fun _ _ => id)) (NodesIn.keep HKW.out (fun _ _ => id) _ _ HC.out) k hlt
      subst hA
      have hT := deeps_take h1
      have hT2 := manys_take h1
      have hT3 := manys_take_le kids (k + 1)
      have hT4 := deep_many t1
      have hT5 := deeps_manys (kids.take k)
      have HU := hide hu
      have HS := hide (show t1.size ≤ M from Nat.le_trans hsz HKS.out)
      have HT := hide hT
      have HB := hide (show deepsN (kids.take k) ≤ 4611686018427387904 ∧ deepN t1 ≤ 4611686018427387904 ∧ deepsN (kids.take k) + deepN t1 ≤ 4611686018427387904 ∧ manyN t1 ≤ 4611686018427387904 by have := HMK.out; omega)
      clear h1 hu hT hT2 hT3 hT4 hT5
      have hk1 : (k : Int) < (kn : Int) := by omega
      have hk0 : (0 : Int) ≤ (k : Int) := by omega
      go_wp2_with
        first
        | (go_at_call 33
           refine (HIH.out t1 HS.out HB.out.2.2.2 _ B F kd1 tx1 nm1 pl1 ka1 kn1 kc1 (NodeIn.keep ((Keeps.refl NoB _).alloc _) (fun _ _ => id) _ _ HU.out)).mono ?_
           rintro e w2 ⟨rfl, hk2⟩
           have HK2 := hide ((HKW.out.alloc _).trans' hk2 (fun _ _ => id) (fun _ _ => id) : Keeps NoB w w2)
           clear hk2
           have hb1 := HB.out.1
           have hb2 := HB.out.2.1
           have hb3 := HB.out.2.2.1)
        | fail
      go_roundg (kn - (k + 1))
      case measure => omega
      case rel => exact ⟨k + 1, by omega, rfl, by go_num, by rw [HT.out]; go_num, HK2.out⟩
    · obtain rfl : k = kn := by omega
      have hb := deeps_manys kids
      have hmk := HMK.out
      have he : kids.take k = kids := List.take_of_length_le (by have := HKL.out; omega)
      go_wp2
      go_ret
      exact ⟨by rw [HE.out, he]; go_num, HKW.out⟩
theorem deep_any (t : Nd) (hm : manyN t ≤ 4611686018427387904) (w : World) (B : Nat → Prop) (F : Bool) (kd : Int) (tx : ByteArray) (nm pl : Int) (ka : Option Addr) (kn kc : Nat) (ht : NodeIn w B F [.int .u8 kd, .string tx, .int .i64 nm, .int .i64 pl, .slice ka kn kc] t) :
    Calls Tryd.prog 33 #[.agg #[.int .u8 kd, .string tx, .int .i64 nm, .int .i64 pl, .slice ka kn kc]] w fun e w' => e = .returned (.int .i64 ((deepN t : Nat) : Int)) ∧ Keeps NoB w w' := by
  have H : ∀ M, DeepSaid M := by
    intro M
    induction M with
    | zero => intro t h; have := t.size_pos; omega
    | succ M IH => intro t h hm w B F kd tx nm pl ka kn kc ht; exact Deep_walk M IH t h hm w B F kd tx nm pl ka kn kc ht
  exact H _ t (Nat.le_refl _) hm w B F kd tx nm pl ka kn kc ht
def ManySaid (M : Nat) : Prop := ∀ t : Nd, t.size ≤ M → manyN t ≤ 4611686018427387904 → ∀ (w : World) (B : Nat → Prop) (F : Bool) (kd : Int) (tx : ByteArray) (nm pl : Int) (ka : Option Addr) (kn kc : Nat), NodeIn w B F [.int .u8 kd, .string tx, .int .i64 nm, .int .i64 pl, .slice ka kn kc] t →
  Calls Tryd.prog 34 #[.agg #[.int .u8 kd, .string tx, .int .i64 nm, .int .i64 pl, .slice ka kn kc]] w fun e w' => e = .returned (.int .i64 ((manyN t : Nat) : Int)) ∧ Keeps NoB w w'
set_option maxRecDepth 100000 in
theorem Many_walk (M : Nat) (IH : ManySaid M) (t : Nd) (hM : t.size ≤ M + 1) (hm : manyN t ≤ 4611686018427387904) (w : World) (B : Nat → Prop) (F : Bool) (kd : Int) (tx : ByteArray) (nm pl : Int) (ka : Option Addr) (kn kc : Nat) (ht : NodeIn w B F [.int .u8 kd, .string tx, .int .i64 nm, .int .i64 pl, .slice ka kn kc] t) :
    Calls Tryd.prog 34 #[.agg #[.int .u8 kd, .string tx, .int .i64 nm, .int .i64 pl, .slice ka kn kc]] w fun e w' => e = .returned (.int .i64 ((manyN t : Nat) : Int)) ∧ Keeps NoB w w' := by
  obtain ⟨kids, css, rfl, hroom, hr, hc, hkl⟩ := ht.kidsIn
  have hnm : kn ≤ 9223372036854775807 := by have := hroom.1.len (by omega); unfold maxLen at this; exact this
  have hks : Nd.size.sizes kids ≤ M := by simp only [Nd.size] at hM; omega
  have hmk : manysN kids + 1 ≤ 4611686018427387904 := by unfold manyN at hm; exact hm
  have HE : Hid (manyN (.mk kd tx nm pl kids) = manysN kids + 1) := hide (by unfold manyN; rfl)
  have HKS := hide hks; have HMK := hide hmk; have HR := hide hr; have HC := hide hc; have HKL := hide hkl; have HIH := hide IH
  have HK0 := hide ((Keeps.refl NoB w).alloc (.cells #[.int .u8 kd, .string tx, .int .i64 nm, .int .i64 pl, .slice ka kn kc] 29))
  clear ht hroom hr hc hkl hM hm hks hmk IH
  go_enter Tryd.func34, Tryd.ntmps34
  go_wp2
  go_loopg [3, 9] kn (fun g s3 s9 wx => ∃ k : Nat, k ≤ kn ∧ g = kn - k ∧ s9 = .int .i64 k ∧ s3 = .int .i64 ((manysN (kids.take k) + 1 : Nat) : Int) ∧ Keeps NoB w wx)
  case atStart => exact ⟨0, Nat.zero_le _, rfl, rfl, by simp [manysN], HK0.out⟩
  case round =>
    obtain ⟨k, hk, rfl, rfl, rfl, hkw⟩ := hrel
    have HKW := hide hkw; clear hkw
    by_cases hlt : k < kn
    · obtain ⟨b, o, kd1, tx1, nm1, pl1, ka1, kn1, kc1, t1, hA, _, _, h1, hsz, hu, f0, f1, f2, f3, f4⟩ := node_at (HR.out.keep HKW.out (fun _ _ => id)) (NodesIn.keep HKW.out (fun _ _ => id) _ _ HC.out) k hlt
      subst hA
      have hT := deeps_take h1
      have hT2 := manys_take h1
      have hT3 := manys_take_le kids (k + 1)
      have hT4 := deep_many t1
      have hT5 := deeps_manys (kids.take k)
      have HU := hide hu
      have HS := hide (show t1.size ≤ M from Nat.le_trans hsz HKS.out)
      have HT := hide hT2
      have HB := hide (show manysN (kids.take k) + 1 ≤ 4611686018427387904 ∧ manyN t1 ≤ 4611686018427387904 ∧ manysN (kids.take k) + 1 + manyN t1 ≤ 4611686018427387904 ∧ manyN t1 ≤ 4611686018427387904 by have := HMK.out; omega)
      clear h1 hu hT hT2 hT3 hT4 hT5
      have hk1 : (k : Int) < (kn : Int) := by omega
      have hk0 : (0 : Int) ≤ (k : Int) := by omega
      go_wp2_with
        first
        | (go_at_call 34
           refine (HIH.out t1 HS.out HB.out.2.2.2 _ B F kd1 tx1 nm1 pl1 ka1 kn1 kc1 (NodeIn.keep ((Keeps.refl NoB _).alloc _) (fun _ _ => id) _ _ HU.out)).mono ?_
           rintro e w2 ⟨rfl, hk2⟩
           have HK2 := hide ((HKW.out.alloc _).trans' hk2 (fun _ _ => id) (fun _ _ => id) : Keeps NoB w w2)
           clear hk2
           have hb1 := HB.out.1
           have hb2 := HB.out.2.1
           have hb3 := HB.out.2.2.1)
        | fail
      go_roundg (kn - (k + 1))
      case measure => omega
      case rel => exact ⟨k + 1, by omega, rfl, by go_num, by rw [HT.out]; go_num, HK2.out⟩
    · obtain rfl : k = kn := by omega
      have hb := deeps_manys kids
      have hmk := HMK.out
      have he : kids.take k = kids := List.take_of_length_le (by have := HKL.out; omega)
      go_wp2
      go_ret
      exact ⟨by rw [HE.out, he]; go_num, HKW.out⟩
theorem many_any (t : Nd) (hm : manyN t ≤ 4611686018427387904) (w : World) (B : Nat → Prop) (F : Bool) (kd : Int) (tx : ByteArray) (nm pl : Int) (ka : Option Addr) (kn kc : Nat) (ht : NodeIn w B F [.int .u8 kd, .string tx, .int .i64 nm, .int .i64 pl, .slice ka kn kc] t) :
    Calls Tryd.prog 34 #[.agg #[.int .u8 kd, .string tx, .int .i64 nm, .int .i64 pl, .slice ka kn kc]] w fun e w' => e = .returned (.int .i64 ((manyN t : Nat) : Int)) ∧ Keeps NoB w w' := by
  have H : ∀ M, ManySaid M := by
    intro M
    induction M with
    | zero => intro t h; have := t.size_pos; omega
    | succ M IH => intro t h hm w B F kd tx nm pl ka kn kc ht; exact Many_walk M IH t h hm w B F kd tx nm pl ka kn kc ht
  exact H _ t (Nat.le_refl _) hm w B F kd tx nm pl ka kn kc ht
end Go.Proofs.YtincajfanhanjaaDoor
