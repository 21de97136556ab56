/- node.after, qualifies (where the functions on smaller nodes are known), and all of them. -/
import Derived.Test.YtincajfanhanjaaDoorNdCaught
namespace Go.Proofs.YtincajfanhanjaaDoor
open Go.RowKit

theorem okM_after (k : Int) (tx : ByteArray) (num pl : Int) (kids : List Nd) : okM 6 (.mk k tx num pl kids) = (plainN (.mk k tx num pl kids) 15 && decide (kids.length = 2) && okAs [0] 1 kids) := by
  unfold okM; rw [if_neg (by decide), if_neg (by decide), if_pos rfl]
theorem okM_qual (k : Int) (tx : ByteArray) (num pl : Int) (kids : List Nd) : okM 7 (.mk k tx num pl kids) = (okM 0 (.mk k tx num pl kids) || (plainN (.mk k tx num pl kids) 18 && decide (kids.length = 2) && kids.all (okM 0))) := by
  rw [okM_zero]; unfold okM; rw [if_neg (by decide), if_neg (by decide), if_neg (by decide), if_pos rfl, okAs_nil]
theorem okAs_two (m d : Nat) (a b : Nd) : okAs [m] d [a, b] = (okM m a && okM d b) := by
  unfold okAs okAs okAs; simp
set_option maxRecDepth 100000 in
theorem after_short (t : Nd) (w : World) (B : Nat → Prop) (F : Bool) (kd : Int) (tx : ByteArray) (nm pl : Int) (ka : Option Addr) (kn kc : Nat) (ht : NodeIn w B F [.int .u8 kd, .string tx, .int .i64 nm, .int .i64 pl, .slice ka kn kc] t) (h : plainN t 15 = false ∨ kn ≠ 2) : Calls Tryd.prog 59 #[.agg #[.int .u8 kd, .string tx, .int .i64 nm, .int .i64 pl, .slice ka kn kc]] w (BoolP false w) := by
  have hk : Keeps NoB w (w.alloc (.cells #[.int .u8 kd, .string tx, .int .i64 nm, .int .i64 pl, .slice ka kn kc] 29)) := (Keeps.refl NoB w).alloc _
  have HP := hide (plain_any 15 t _ B F kd tx nm pl ka kn kc (NodeIn.keep hk (fun _ _ => id) _ _ ht))
  have HK := hide hk
  have HBX := hide (Blk.new w 29 #[.int .u8 kd, .string tx, .int .i64 nm, .int .i64 pl, .slice ka kn kc])
  clear ht hk
  cases hp : plainN t 15 with
  | false =>
    have HPB := hide hp
    clear hp h
    go_enter Tryd.func59, Tryd.ntmps59
    go_wp2_with
      first
      | (go_at_call 29
         refine HP.out.mono ?_
         rintro e w2 ⟨rfl, hk⟩
         rw [HPB.out]
         have HK2 := hide (HK.out.trans' hk (fun _ _ => id) (fun _ _ => id) : Keeps NoB w w2)
         clear hk)
      | fail
    go_ret
    exact ⟨rfl, HK2.out⟩
  | true =>
    have hn3 : kn ≠ 2 := by
      rcases h with h | h
      · rw [hp] at h; cases h
      · exact h
    have b3 : ((kn : Int) == 2) = false := by simp; omega
    have HPB := hide hp
    clear hp h hn3
    go_enter Tryd.func59, Tryd.ntmps59
    go_wp2_with
      first
      | (go_at_call 29
         refine HP.out.mono ?_
         rintro e w2 ⟨rfl, hk⟩
         rw [HPB.out]
         have q4 : w2.cell? ⟨w.heap.size, 4, none⟩ = some (.slice ka kn kc) := hk.cell id (HBX.out.cell 4)
         have HK2 := hide (HK.out.trans' hk (fun _ _ => id) (fun _ _ => id) : Keeps NoB w w2)
         clear hk)
      | fail
    go_ret
    exact ⟨rfl, HK2.out⟩

set_option maxRecDepth 100000 in
set_option maxHeartbeats 4000000 in
theorem after_two (t p g : Nd) (hkd : t.kids = [p, g]) (hpt : plainN t 15 = true) (w : World) (B : Nat → Prop) (F : Bool) (kd : Int) (tx : ByteArray) (nm pl : Int) (ka : Option Addr) (kc : Nat) (hL : LaidN w) (ho : okN t) (ht : NodeIn w B F [.int .u8 kd, .string tx, .int .i64 nm, .int .i64 pl, .slice ka 2 kc] t) (H : Smaller t) :
    Calls Tryd.prog 59 #[.agg #[.int .u8 kd, .string tx, .int .i64 nm, .int .i64 pl, .slice ka 2 kc]] w (BoolP (okM 0 p && okM 1 g) w) := by
  have hp := H.kid ho (show p ∈ t.kids by rw [hkd]; simp)
  have hg := H.kid ho (show g ∈ t.kids by rw [hkd]; simp)
  obtain ⟨kids, css, rfl, hroom, hr, hc, hkl⟩ := ht.kidsIn
  obtain rfl : kids = [p, g] := hkd
  obtain ⟨b0, o0, kd1, tx1, nm1, pl1, ka1, kn1, kc1, t1, hA0, _, hbl0, e0, _, hu0, f00, f01, f02, f03, f04⟩ := node_at hr hc 0 (by omega)
  obtain rfl : p = t1 := by simpa using e0
  obtain ⟨b1, o1, kd2, tx2, nm2, pl2, ka2, kn2, kc2, t2, hA1, _, hbl1, e1, _, hu1, f10, f11, f12, f13, f14⟩ := node_at hr hc 1 (by omega)
  obtain rfl : g = t2 := by simpa using e1
  subst hA0
  injection hA1 with hA1; injection hA1 with hA1 hA1'; subst hA1 hA1'
  obtain ⟨b, o, rfl, rfl⟩ : ∃ b o, b = b0 ∧ o = o0 := ⟨_, _, rfl, rfl⟩
  have hk1 : Keeps NoB w (w.alloc (.cells #[.int .u8 kd, .string tx, .int .i64 nm, .int .i64 pl, .slice (some ⟨b, o, none⟩) 2 kc] 29)) := (Keeps.refl NoB w).alloc _
  have P1 := hide (plain_any 15 _ (w.alloc (.cells #[.int .u8 kd, .string tx, .int .i64 nm, .int .i64 pl, .slice (some ⟨b, o, none⟩) 2 kc] 29)) B F kd tx nm pl (some ⟨b, o, none⟩) 2 kc (NodeIn.keep hk1 (fun _ _ => id) _ _ ht))
  have P2 := hide (fun (W : World) (hk : Keeps NoB w W) => hp.item W B F kd1 tx1 nm1 pl1 ka1 kn1 kc1 (hL.keep hk) hp.ok (NodeIn.keep hk (fun _ _ => id) _ _ hu0))
  have P3 := hide (fun (W : World) (hk : Keeps NoB w W) => hg.body W B F kd2 tx2 nm2 pl2 ka2 kn2 kc2 (hL.keep hk) hg.ok (NodeIn.keep hk (fun _ _ => id) _ _ hu1))
  have HPT := hide hpt
  have HK := hide hk1
  have HBX := hide (Blk.new w 29 #[.int .u8 kd, .string tx, .int .i64 nm, .int .i64 pl, .slice (some ⟨b, o, none⟩) 2 kc])
  have HF := hide (And.intro (And.intro f00 (And.intro f01 (And.intro f02 (And.intro f03 f04)))) (And.intro f10 (And.intro f11 (And.intro f12 (And.intro f13 f14)))))
  obtain ⟨v1, hv1⟩ : ∃ v, okM 0 p = v := ⟨_, rfl⟩
  obtain ⟨v2, hv2⟩ : ∃ v, okM 1 g = v := ⟨_, rfl⟩
  rw [hv1, hv2]
  have H1 := hide hv1; have H2 := hide hv2
  clear hv1 hv2 hpt hp hg hu0 hu1 f00 f01 f02 f03 f04 f10 f11 f12 f13 f14 hr hc ht hroom hL ho H e0 e1 hkl hk1
  cases v1 with
  | false =>
    go_enter Tryd.func59, Tryd.ntmps59
    go_wp2_with
      first
      | (go_at_call 29
         refine (P1.out).mono ?_
         rintro e w2 ⟨rfl, hk⟩
         rw [HPT.out]
         have HKD := hide hk
         have HKC := hide (HK.out.trans' hk (fun _ _ => id) (fun _ _ => id) : Keeps NoB w w2)
         have qw2 : w2.cell? ⟨w.heap.size, 4, none⟩ = some (.slice (some ⟨b, o, none⟩) 2 kc) := (HKD.out).cell id (HBX.out.cell 4)
         have fw200 : w2.cell? ⟨b, o, none⟩ = some (.int .u8 kd1) := by have h := HKC.out.cell id (HF.out.1.1); simpa using h
         have fw201 : w2.cell? ⟨b, o + 1, none⟩ = some (.string tx1) := by have h := HKC.out.cell id (HF.out.1.2.1); simpa using h
         have fw202 : w2.cell? ⟨b, o + 2, none⟩ = some (.int .i64 nm1) := by have h := HKC.out.cell id (HF.out.1.2.2.1); simpa using h
         have fw203 : w2.cell? ⟨b, o + 3, none⟩ = some (.int .i64 pl1) := by have h := HKC.out.cell id (HF.out.1.2.2.2.1); simpa using h
         have fw204 : w2.cell? ⟨b, o + 4, none⟩ = some (.slice ka1 kn1 kc1) := by have h := HKC.out.cell id (HF.out.1.2.2.2.2); simpa using h
         clear hk)
      | (go_at_call 32
         refine (P2.out _ HKC.out).mono ?_
         rintro e w3 ⟨rfl, hk⟩
         rw [H1.out]
         have HKD1 := hide (HKD.out.trans' hk (fun _ _ => id) (fun _ _ => id) : Keeps NoB (w.alloc (.cells #[.int .u8 kd, .string tx, .int .i64 nm, .int .i64 pl, .slice (some ⟨b, o, none⟩) 2 kc] 29)) w3)
         have HKC1 := hide (HKC.out.trans' hk (fun _ _ => id) (fun _ _ => id) : Keeps NoB w w3)
         clear HKD HKC
         have HKD := HKD1; have HKC := HKC1
         clear HKD1 HKC1
         have qw3 : w3.cell? ⟨w.heap.size, 4, none⟩ = some (.slice (some ⟨b, o, none⟩) 2 kc) := (HKD.out).cell id (HBX.out.cell 4)
         have fw310 : w3.cell? ⟨b, o + 5, none⟩ = some (.int .u8 kd2) := by have h := HKC.out.cell id (HF.out.2.1); simpa using h
         have fw311 : w3.cell? ⟨b, o + 6, none⟩ = some (.string tx2) := by have h := HKC.out.cell id (HF.out.2.2.1); simpa using h
         have fw312 : w3.cell? ⟨b, o + 7, none⟩ = some (.int .i64 nm2) := by have h := HKC.out.cell id (HF.out.2.2.2.1); simpa using h
         have fw313 : w3.cell? ⟨b, o + 8, none⟩ = some (.int .i64 pl2) := by have h := HKC.out.cell id (HF.out.2.2.2.2.1); simpa using h
         have fw314 : w3.cell? ⟨b, o + 9, none⟩ = some (.slice ka2 kn2 kc2) := by have h := HKC.out.cell id (HF.out.2.2.2.2.2); simpa using h
         clear hk)
      | (go_at_call 54
         refine (P3.out _ HKC.out).mono ?_
         rintro e w4 ⟨rfl, hk⟩
         rw [H2.out]
         have HKD1 := hide (HKD.out.trans' hk (fun _ _ => id) (fun _ _ => id) : Keeps NoB (w.alloc (.cells #[.int .u8 kd, .string tx, .int .i64 nm, .int .i64 pl, .slice (some ⟨b, o, none⟩) 2 kc] 29)) w4)
         have HKC1 := hide (HKC.out.trans' hk (fun _ _ => id) (fun _ _ => id) : Keeps NoB w w4)
         clear HKD HKC
         have HKD := HKD1; have HKC := HKC1
         clear HKD1 HKC1
         clear hk)
      | fail
    go_ret
    exact ⟨by simp, HKC.out⟩
  | true =>
    cases v2 with
    | false =>
      go_enter Tryd.func59, Tryd.ntmps59
      go_wp2_with
        first
        | (go_at_call 29
           refine (P1.out).mono ?_
           rintro e w2 ⟨rfl, hk⟩
           rw [HPT.out]
           have HKD := hide hk
           have HKC := hide (HK.out.trans' hk (fun _ _ => id) (fun _ _ => id) : Keeps NoB w w2)
           have qw2 : w2.cell? ⟨w.heap.size, 4, none⟩ = some (.slice (some ⟨b, o, none⟩) 2 kc) := (HKD.out).cell id (HBX.out.cell 4)
           have fw200 : w2.cell? ⟨b, o, none⟩ = some (.int .u8 kd1) := by have h := HKC.out.cell id (HF.out.1.1); simpa using h
           have fw201 : w2.cell? ⟨b, o + 1, none⟩ = some (.string tx1) := by have h := HKC.out.cell id (HF.out.1.2.1); simpa using h
           have fw202 : w2.cell? ⟨b, o + 2, none⟩ = some (.int .i64 nm1) := by have h := HKC.out.cell id (HF.out.1.2.2.1); simpa using h
           have fw203 : w2.cell? ⟨b, o + 3, none⟩ = some (.int .i64 pl1) := by have h := HKC.out.cell id (HF.out.1.2.2.2.1); simpa using h
           have fw204 : w2.cell? ⟨b, o + 4, none⟩ = some (.slice ka1 kn1 kc1) := by have h := HKC.out.cell id (HF.out.1.2.2.2.2); simpa using h
           clear hk)
        | (go_at_call 32
           refine (P2.out _ HKC.out).mono ?_
           rintro e w3 ⟨rfl, hk⟩
           rw [H1.out]
           have HKD1 := hide (HKD.out.trans' hk (fun _ _ => id) (fun _ _ => id) : Keeps NoB (w.alloc (.cells #[.int .u8 kd, .string tx, .int .i64 nm, .int .i64 pl, .slice (some ⟨b, o, none⟩) 2 kc] 29)) w3)
           have HKC1 := hide (HKC.out.trans' hk (fun _ _ => id) (fun _ _ => id) : Keeps NoB w w3)
           clear HKD HKC
           have HKD := HKD1; have HKC := HKC1
           clear HKD1 HKC1
           have qw3 : w3.cell? ⟨w.heap.size, 4, none⟩ = some (.slice (some ⟨b, o, none⟩) 2 kc) := (HKD.out).cell id (HBX.out.cell 4)
           have fw310 : w3.cell? ⟨b, o + 5, none⟩ = some (.int .u8 kd2) := by have h := HKC.out.cell id (HF.out.2.1); simpa using h
           have fw311 : w3.cell? ⟨b, o + 6, none⟩ = some (.string tx2) := by have h := HKC.out.cell id (HF.out.2.2.1); simpa using h
           have fw312 : w3.cell? ⟨b, o + 7, none⟩ = some (.int .i64 nm2) := by have h := HKC.out.cell id (HF.out.2.2.2.1); simpa using h
           have fw313 : w3.cell? ⟨b, o + 8, none⟩ = some (.int .i64 pl2) := by have h := HKC.out.cell id (HF.out.2.2.2.2.1); simpa using h
           have fw314 : w3.cell? ⟨b, o + 9, none⟩ = some (.slice ka2 kn2 kc2) := by have h := HKC.out.cell id (HF.out.2.2.2.2.2); simpa using h
           clear hk)
        | (go_at_call 54
           refine (P3.out _ HKC.out).mono ?_
           rintro e w4 ⟨rfl, hk⟩
           rw [H2.out]
           have HKD1 := hide (HKD.out.trans' hk (fun _ _ => id) (fun _ _ => id) : Keeps NoB (w.alloc (.cells #[.int .u8 kd, .string tx, .int .i64 nm, .int .i64 pl, .slice (some ⟨b, o, none⟩) 2 kc] 29)) w4)
           have HKC1 := hide (HKC.out.trans' hk (fun _ _ => id) (fun _ _ => id) : Keeps NoB w w4)
           clear HKD HKC
           have HKD := HKD1; have HKC := HKC1
           clear HKD1 HKC1
           clear hk)
        | fail
      go_ret
      exact ⟨by simp, HKC.out⟩
    | true =>
      go_enter Tryd.func59, Tryd.ntmps59
      go_wp2_with
        first
        | (go_at_call 29
           refine (P1.out).mono ?_
           rintro e w2 ⟨rfl, hk⟩
           rw [HPT.out]
           have HKD := hide hk
           have HKC := hide (HK.out.trans' hk (fun _ _ => id) (fun _ _ => id) : Keeps NoB w w2)
           have qw2 : w2.cell? ⟨w.heap.size, 4, none⟩ = some (.slice (some ⟨b, o, none⟩) 2 kc) := (HKD.out).cell id (HBX.out.cell 4)
           have fw200 : w2.cell? ⟨b, o, none⟩ = some (.int .u8 kd1) := by have h := HKC.out.cell id (HF.out.1.1); simpa using h
           have fw201 : w2.cell? ⟨b, o + 1, none⟩ = some (.string tx1) := by have h := HKC.out.cell id (HF.out.1.2.1); simpa using h
           have fw202 : w2.cell? ⟨b, o + 2, none⟩ = some (.int .i64 nm1) := by have h := HKC.out.cell id (HF.out.1.2.2.1); simpa using h
           have fw203 : w2.cell? ⟨b, o + 3, none⟩ = some (.int .i64 pl1) := by have h := HKC.out.cell id (HF.out.1.2.2.2.1); simpa using h
           have fw204 : w2.cell? ⟨b, o + 4, none⟩ = some (.slice ka1 kn1 kc1) := by have h := HKC.out.cell id (HF.out.1.2.2.2.2); simpa using h
           clear hk)
        | (go_at_call 32
           refine (P2.out _ HKC.out).mono ?_
           rintro e w3 ⟨rfl, hk⟩
           rw [H1.out]
           have HKD1 := hide (HKD.out.trans' hk (fun _ _ => id) (fun _ _ => id) : Keeps NoB (w.alloc (.cells #[.int .u8 kd, .string tx, .int .i64 nm, .int .i64 pl, .slice (some ⟨b, o, none⟩) 2 kc] 29)) w3)
           have HKC1 := hide (HKC.out.trans' hk (fun _ _ => id) (fun _ _ => id) : Keeps NoB w w3)
           clear HKD HKC
           have HKD := HKD1; have HKC := HKC1
           clear HKD1 HKC1
           have qw3 : w3.cell? ⟨w.heap.size, 4, none⟩ = some (.slice (some ⟨b, o, none⟩) 2 kc) := (HKD.out).cell id (HBX.out.cell 4)
           have fw310 : w3.cell? ⟨b, o + 5, none⟩ = some (.int .u8 kd2) := by have h := HKC.out.cell id (HF.out.2.1); simpa using h
           have fw311 : w3.cell? ⟨b, o + 6, none⟩ = some (.string tx2) := by have h := HKC.out.cell id (HF.out.2.2.1); simpa using h
           have fw312 : w3.cell? ⟨b, o + 7, none⟩ = some (.int .i64 nm2) := by have h := HKC.out.cell id (HF.out.2.2.2.1); simpa using h
           have fw313 : w3.cell? ⟨b, o + 8, none⟩ = some (.int .i64 pl2) := by have h := HKC.out.cell id (HF.out.2.2.2.2.1); simpa using h
           have fw314 : w3.cell? ⟨b, o + 9, none⟩ = some (.slice ka2 kn2 kc2) := by have h := HKC.out.cell id (HF.out.2.2.2.2.2); simpa using h
           clear hk)
        | (go_at_call 54
           refine (P3.out _ HKC.out).mono ?_
           rintro e w4 ⟨rfl, hk⟩
           rw [H2.out]
           have HKD1 := hide (HKD.out.trans' hk (fun _ _ => id) (fun _ _ => id) : Keeps NoB (w.alloc (.cells #[.int .u8 kd, .string tx, .int .i64 nm, .int .i64 pl, .slice (some ⟨b, o, none⟩) 2 kc] 29)) w4)
           have HKC1 := hide (HKC.out.trans' hk (fun _ _ => id) (fun _ _ => id) : Keeps NoB w w4)
           clear HKD HKC
           have HKD := HKD1; have HKC := HKC1
           clear HKD1 HKC1
           clear hk)
        | fail
      go_ret
      exact ⟨by simp, HKC.out⟩
theorem after_of (t : Nd) (ho : okN t) (H : Smaller t) : Says 59 (okM 6) t := by
  intro w B F kd tx nm pl ka kn kc hL _ ht
  obtain ⟨kids, css, rfl, _, _, _, hkl⟩ := ht.kidsIn
  rw [okM_after]
  by_cases h : plainN (.mk kd tx nm pl kids) 15 = false ∨ kn ≠ 2
  · have hv : (plainN (.mk kd tx nm pl kids) 15 && decide (kids.length = 2) && okAs [0] 1 kids) = false := by
      rcases h with h | h
      · rw [h]; rfl
      · rw [decide_eq_false (by omega)]; simp
    rw [hv]
    exact after_short _ w B F kd tx nm pl ka kn kc ht h
  · simp only [not_or, Bool.not_eq_false, Decidable.not_not] at h
    obtain ⟨h1, rfl⟩ := h
    match kids, hkl with
    | [p, g], _ =>
      rw [h1, okAs_two]
      exact after_two _ p g rfl h1 w B F kd tx nm pl ka kc hL ho ht H
set_option maxRecDepth 100000 in
set_option maxHeartbeats 4000000 in
theorem qual_of (t : Nd) (ho : okN t) (H : Smaller t) (HI : Says 32 (okM 0) t) : Says 61 (okM 7) t := by
  intro w B F kd tx nm pl ka kn kc hL _ ht
  have hn : ∀ x ∈ t.kids, Not1 32 (okM 0) x := fun x hx => not1_32 _ x (H.kid ho hx).ok (H.kid ho hx).item
  obtain ⟨kids, css, rfl, hroom, hr, hc, hkl⟩ := ht.kidsIn
  have hk1 : Keeps NoB w (w.alloc (.cells #[.int .u8 kd, .string tx, .int .i64 nm, .int .i64 pl, .slice ka kn kc] 29)) := (Keeps.refl NoB w).alloc _
  have P1 := hide (HI (w.alloc (.cells #[.int .u8 kd, .string tx, .int .i64 nm, .int .i64 pl, .slice ka kn kc] 29)) B F kd tx nm pl ka kn kc (hL.keep hk1) ho (NodeIn.keep hk1 (fun _ _ => id) _ _ ht))
  have P2 := hide (fun (W : World) (hk : Keeps NoB w W) => plain_any 18 _ W B F kd tx nm pl ka kn kc (NodeIn.keep hk (fun _ _ => id) _ _ ht))
  have P3 := hide (fun (W : World) (hk : Keeps NoB w W) => nd_all 32 (okM 0) kids hn css ka kn kc W B F (hL.keep hk) (hr.keep hk (fun _ _ => id)) (NodesIn.keep hk (fun _ _ => id) _ _ hc) hroom.1)
  have HK := hide hk1
  have HBX := hide (Blk.new w 29 #[.int .u8 kd, .string tx, .int .i64 nm, .int .i64 pl, .slice ka kn kc])
  have HE := hide (okM_qual kd tx nm pl kids)
  rw [HE.out, hkl]
  obtain ⟨v1, hv1⟩ : ∃ v, okM 0 (.mk kd tx nm pl kids) = v := ⟨_, rfl⟩
  obtain ⟨v2, hv2⟩ : ∃ v, plainN (.mk kd tx nm pl kids) 18 = v := ⟨_, rfl⟩
  obtain ⟨v3, hv3⟩ : ∃ v, kids.all (okM 0) = v := ⟨_, rfl⟩
  rw [hv1, hv2, hv3]
  have H1 := hide hv1; have H2 := hide hv2; have H3 := hide hv3
  clear HE hv1 hv2 hv3 hn hr hc ht hroom hL ho H hkl hk1 HI
  cases v1 with
  | true =>
    go_enter Tryd.func61, Tryd.ntmps61
    go_wp2_with
      first
      | (go_at_call 32
         refine (P1.out).mono ?_
         rintro e w2 ⟨rfl, hk⟩
         rw [H1.out]
         have HKD := hide hk
         have HKC := hide (HK.out.trans' hk (fun _ _ => id) (fun _ _ => id) : Keeps NoB w w2)
         have qw20 : w2.cell? ⟨w.heap.size, 0, none⟩ = some (.int .u8 kd) := (HKD.out).cell id (HBX.out.cell 0)
         have qw21 : w2.cell? ⟨w.heap.size, 1, none⟩ = some (.string tx) := (HKD.out).cell id (HBX.out.cell 1)
         have qw22 : w2.cell? ⟨w.heap.size, 2, none⟩ = some (.int .i64 nm) := (HKD.out).cell id (HBX.out.cell 2)
         have qw23 : w2.cell? ⟨w.heap.size, 3, none⟩ = some (.int .i64 pl) := (HKD.out).cell id (HBX.out.cell 3)
         have qw24 : w2.cell? ⟨w.heap.size, 4, none⟩ = some (.slice ka kn kc) := (HKD.out).cell id (HBX.out.cell 4)
         clear hk)
      | (go_at_call 29
         refine (P2.out _ HKC.out).mono ?_
         rintro e w3 ⟨rfl, hk⟩
         rw [H2.out]
         have HKD1 := hide (HKD.out.trans' hk (fun _ _ => id) (fun _ _ => id) : Keeps NoB (w.alloc (.cells #[.int .u8 kd, .string tx, .int .i64 nm, .int .i64 pl, .slice ka kn kc] 29)) w3)
         have HKC1 := hide (HKC.out.trans' hk (fun _ _ => id) (fun _ _ => id) : Keeps NoB w w3)
         clear HKD HKC
         have HKD := HKD1; have HKC := HKC1
         clear HKD1 HKC1
         have qw34 : w3.cell? ⟨w.heap.size, 4, none⟩ = some (.slice ka kn kc) := (HKD.out).cell id (HBX.out.cell 4)
         clear hk)
      | (go_at_call 30
         refine (P3.out _ HKC.out).mono ?_
         rintro e w4 ⟨rfl, hk⟩
         rw [H3.out]
         have HKD1 := hide (HKD.out.trans' hk (fun _ _ => id) (fun _ _ => id) : Keeps NoB (w.alloc (.cells #[.int .u8 kd, .string tx, .int .i64 nm, .int .i64 pl, .slice ka kn kc] 29)) w4)
         have HKC1 := hide (HKC.out.trans' hk (fun _ _ => id) (fun _ _ => id) : Keeps NoB w w4)
         clear HKD HKC
         have HKD := HKD1; have HKC := HKC1
         clear HKD1 HKC1
         clear hk)
      | fail
    go_ret
    exact ⟨by simp, HKC.out⟩
  | false =>
    cases v2 with
    | false =>
      go_enter Tryd.func61, Tryd.ntmps61
      go_wp2_with
        first
        | (go_at_call 32
           refine (P1.out).mono ?_
           rintro e w2 ⟨rfl, hk⟩
           rw [H1.out]
           have HKD := hide hk
           have HKC := hide (HK.out.trans' hk (fun _ _ => id) (fun _ _ => id) : Keeps NoB w w2)
           have qw20 : w2.cell? ⟨w.heap.size, 0, none⟩ = some (.int .u8 kd) := (HKD.out).cell id (HBX.out.cell 0)
           have qw21 : w2.cell? ⟨w.heap.size, 1, none⟩ = some (.string tx) := (HKD.out).cell id (HBX.out.cell 1)
           have qw22 : w2.cell? ⟨w.heap.size, 2, none⟩ = some (.int .i64 nm) := (HKD.out).cell id (HBX.out.cell 2)
           have qw23 : w2.cell? ⟨w.heap.size, 3, none⟩ = some (.int .i64 pl) := (HKD.out).cell id (HBX.out.cell 3)
           have qw24 : w2.cell? ⟨w.heap.size, 4, none⟩ = some (.slice ka kn kc) := (HKD.out).cell id (HBX.out.cell 4)
           clear hk)
        | (go_at_call 29
           refine (P2.out _ HKC.out).mono ?_
           rintro e w3 ⟨rfl, hk⟩
           rw [H2.out]
           have HKD1 := hide (HKD.out.trans' hk (fun _ _ => id) (fun _ _ => id) : Keeps NoB (w.alloc (.cells #[.int .u8 kd, .string tx, .int .i64 nm, .int .i64 pl, .slice ka kn kc] 29)) w3)
           have HKC1 := hide (HKC.out.trans' hk (fun _ _ => id) (fun _ _ => id) : Keeps NoB w w3)
           clear HKD HKC
           have HKD := HKD1; have HKC := HKC1
           clear HKD1 HKC1
           have qw34 : w3.cell? ⟨w.heap.size, 4, none⟩ = some (.slice ka kn kc) := (HKD.out).cell id (HBX.out.cell 4)
           clear hk)
        | (go_at_call 30
           refine (P3.out _ HKC.out).mono ?_
           rintro e w4 ⟨rfl, hk⟩
           rw [H3.out]
           have HKD1 := hide (HKD.out.trans' hk (fun _ _ => id) (fun _ _ => id) : Keeps NoB (w.alloc (.cells #[.int .u8 kd, .string tx, .int .i64 nm, .int .i64 pl, .slice ka kn kc] 29)) w4)
           have HKC1 := hide (HKC.out.trans' hk (fun _ _ => id) (fun _ _ => id) : Keeps NoB w w4)
           clear HKD HKC
           have HKD := HKD1; have HKC := HKC1
           clear HKD1 HKC1
           clear hk)
        | fail
      go_ret
      exact ⟨by simp, HKC.out⟩
    | true =>
      by_cases hn : kn = 2
      · have b2 : ((kn : Int) == 2) = true := by simp; omega
        have hd : decide (kn = 2) = true := decide_eq_true hn
        clear hn
        cases v3 with
        | false =>
          go_enter Tryd.func61, Tryd.ntmps61
          go_wp2_with
            first
            | (go_at_call 32
               refine (P1.out).mono ?_
               rintro e w2 ⟨rfl, hk⟩
               rw [H1.out]
               have HKD := hide hk
               have HKC := hide (HK.out.trans' hk (fun _ _ => id) (fun _ _ => id) : Keeps NoB w w2)
               have qw20 : w2.cell? ⟨w.heap.size, 0, none⟩ = some (.int .u8 kd) := (HKD.out).cell id (HBX.out.cell 0)
               have qw21 : w2.cell? ⟨w.heap.size, 1, none⟩ = some (.string tx) := (HKD.out).cell id (HBX.out.cell 1)
               have qw22 : w2.cell? ⟨w.heap.size, 2, none⟩ = some (.int .i64 nm) := (HKD.out).cell id (HBX.out.cell 2)
               have qw23 : w2.cell? ⟨w.heap.size, 3, none⟩ = some (.int .i64 pl) := (HKD.out).cell id (HBX.out.cell 3)
               have qw24 : w2.cell? ⟨w.heap.size, 4, none⟩ = some (.slice ka kn kc) := (HKD.out).cell id (HBX.out.cell 4)
               clear hk)
            | (go_at_call 29
               refine (P2.out _ HKC.out).mono ?_
               rintro e w3 ⟨rfl, hk⟩
               rw [H2.out]
               have HKD1 := hide (HKD.out.trans' hk (fun _ _ => id) (fun _ _ => id) : Keeps NoB (w.alloc (.cells #[.int .u8 kd, .string tx, .int .i64 nm, .int .i64 pl, .slice ka kn kc] 29)) w3)
               have HKC1 := hide (HKC.out.trans' hk (fun _ _ => id) (fun _ _ => id) : Keeps NoB w w3)
               clear HKD HKC
               have HKD := HKD1; have HKC := HKC1
               clear HKD1 HKC1
               have qw34 : w3.cell? ⟨w.heap.size, 4, none⟩ = some (.slice ka kn kc) := (HKD.out).cell id (HBX.out.cell 4)
               clear hk)
            | (go_at_call 30
               refine (P3.out _ HKC.out).mono ?_
               rintro e w4 ⟨rfl, hk⟩
               rw [H3.out]
               have HKD1 := hide (HKD.out.trans' hk (fun _ _ => id) (fun _ _ => id) : Keeps NoB (w.alloc (.cells #[.int .u8 kd, .string tx, .int .i64 nm, .int .i64 pl, .slice ka kn kc] 29)) w4)
               have HKC1 := hide (HKC.out.trans' hk (fun _ _ => id) (fun _ _ => id) : Keeps NoB w w4)
               clear HKD HKC
               have HKD := HKD1; have HKC := HKC1
               clear HKD1 HKC1
               clear hk)
            | fail
          go_ret
          exact ⟨by simp [hd], HKC.out⟩
        | true =>
          go_enter Tryd.func61, Tryd.ntmps61
          go_wp2_with
            first
            | (go_at_call 32
               refine (P1.out).mono ?_
               rintro e w2 ⟨rfl, hk⟩
               rw [H1.out]
               have HKD := hide hk
               have HKC := hide (HK.out.trans' hk (fun _ _ => id) (fun _ _ => id) : Keeps NoB w w2)
               have qw20 : w2.cell? ⟨w.heap.size, 0, none⟩ = some (.int .u8 kd) := (HKD.out).cell id (HBX.out.cell 0)
               have qw21 : w2.cell? ⟨w.heap.size, 1, none⟩ = some (.string tx) := (HKD.out).cell id (HBX.out.cell 1)
               have qw22 : w2.cell? ⟨w.heap.size, 2, none⟩ = some (.int .i64 nm) := (HKD.out).cell id (HBX.out.cell 2)
               have qw23 : w2.cell? ⟨w.heap.size, 3, none⟩ = some (.int .i64 pl) := (HKD.out).cell id (HBX.out.cell 3)
               have qw24 : w2.cell? ⟨w.heap.size, 4, none⟩ = some (.slice ka kn kc) := (HKD.out).cell id (HBX.out.cell 4)
               clear hk)
            | (go_at_call 29
               refine (P2.out _ HKC.out).mono ?_
               rintro e w3 ⟨rfl, hk⟩
               rw [H2.out]
               have HKD1 := hide (HKD.out.trans' hk (fun _ _ => id) (fun _ _ => id) : Keeps NoB (w.alloc (.cells #[.int .u8 kd, .string tx, .int .i64 nm, .int .i64 pl, .slice ka kn kc] 29)) w3)
               have HKC1 := hide (HKC.out.trans' hk (fun _ _ => id) (fun _ _ => id) : Keeps NoB w w3)
               clear HKD HKC
               have HKD := HKD1; have HKC := HKC1
               clear HKD1 HKC1
               have qw34 : w3.cell? ⟨w.heap.size, 4, none⟩ = some (.slice ka kn kc) := (HKD.out).cell id (HBX.out.cell 4)
               clear hk)
            | (go_at_call 30
               refine (P3.out _ HKC.out).mono ?_
               rintro e w4 ⟨rfl, hk⟩
               rw [H3.out]
               have HKD1 := hide (HKD.out.trans' hk (fun _ _ => id) (fun _ _ => id) : Keeps NoB (w.alloc (.cells #[.int .u8 kd, .string tx, .int .i64 nm, .int .i64 pl, .slice ka kn kc] 29)) w4)
               have HKC1 := hide (HKC.out.trans' hk (fun _ _ => id) (fun _ _ => id) : Keeps NoB w w4)
               clear HKD HKC
               have HKD := HKD1; have HKC := HKC1
               clear HKD1 HKC1
               clear hk)
            | fail
          go_ret
          exact ⟨by simp [hd], HKC.out⟩
      · have b2 : ((kn : Int) == 2) = false := by simp; omega
        have hd : decide (kn = 2) = false := decide_eq_false hn
        clear hn
        go_enter Tryd.func61, Tryd.ntmps61
        go_wp2_with
          first
          | (go_at_call 32
             refine (P1.out).mono ?_
             rintro e w2 ⟨rfl, hk⟩
             rw [H1.out]
             have HKD := hide hk
             have HKC := hide (HK.out.trans' hk (fun _ _ => id) (fun _ _ => id) : Keeps NoB w w2)
             have qw20 : w2.cell? ⟨w.heap.size, 0, none⟩ = some (.int .u8 kd) := (HKD.out).cell id (HBX.out.cell 0)
             have qw21 : w2.cell? ⟨w.heap.size, 1, none⟩ = some (.string tx) := (HKD.out).cell id (HBX.out.cell 1)
             have qw22 : w2.cell? ⟨w.heap.size, 2, none⟩ = some (.int .i64 nm) := (HKD.out).cell id (HBX.out.cell 2)
             have qw23 : w2.cell? ⟨w.heap.size, 3, none⟩ = some (.int .i64 pl) := (HKD.out).cell id (HBX.out.cell 3)
             have qw24 : w2.cell? ⟨w.heap.size, 4, none⟩ = some (.slice ka kn kc) := (HKD.out).cell id (HBX.out.cell 4)
             clear hk)
          | (go_at_call 29
             refine (P2.out _ HKC.out).mono ?_
             rintro e w3 ⟨rfl, hk⟩
             rw [H2.out]
             have HKD1 := hide (HKD.out.trans' hk (fun _ _ => id) (fun _ _ => id) : Keeps NoB (w.alloc (.cells #[.int .u8 kd, .string tx, .int .i64 nm, .int .i64 pl, .slice ka kn kc] 29)) w3)
             have HKC1 := hide (HKC.out.trans' hk (fun _ _ => id) (fun _ _ => id) : Keeps NoB w w3)
             clear HKD HKC
             have HKD := HKD1; have HKC := HKC1
             clear HKD1 HKC1
             have qw34 : w3.cell? ⟨w.heap.size, 4, none⟩ = some (.slice ka kn kc) := (HKD.out).cell id (HBX.out.cell 4)
             clear hk)
          | (go_at_call 30
             refine (P3.out _ HKC.out).mono ?_
             rintro e w4 ⟨rfl, hk⟩
             rw [H3.out]
             have HKD1 := hide (HKD.out.trans' hk (fun _ _ => id) (fun _ _ => id) : Keeps NoB (w.alloc (.cells #[.int .u8 kd, .string tx, .int .i64 nm, .int .i64 pl, .slice ka kn kc] 29)) w4)
             have HKC1 := hide (HKC.out.trans' hk (fun _ _ => id) (fun _ _ => id) : Keeps NoB w w4)
             clear HKD HKC
             have HKD := HKD1; have HKC := HKC1
             clear HKD1 HKC1
             clear hk)
          | fail
        go_ret
        exact ⟨by simp [hd], HKC.out⟩
/-- All that the functions say, of any node. -/
theorem said_all : ∀ (n : Nat) (t : Nd), t.size ≤ n → okN t → SaidOf t
  | 0, t, h, _ => by have := t.size_pos; omega
  | n + 1, t, h, ho => by
    have H : Smaller t := fun x hx hox => said_all n x (by omega) hox
    have H0 := item_of t ho (fun x hx => H.kid ho hx)
    have H2 := clause_of t ho H
    have H3 := single_of t H2
    exact ⟨ho, H0, body_of t H0, H2, H3, guarded_of t H2, caught_of t H3, after_of t ho H, qual_of t ho H H0⟩
theorem said_any (t : Nd) (ho : okN t) : SaidOf t := said_all _ t (Nat.le_refl _) ho
end Go.Proofs.YtincajfanhanjaaDoor
