/- node.clause, after, qualifies (where the functions on smaller nodes are known). -/
import Derived.Test.YtincajfanhanjaaDoorNdItem3
namespace Go.Proofs.YtincajfanhanjaaDoor
open Go.RowKit

theorem sizes_mem {x : Nd} : ∀ {l : List Nd}, x ∈ l → x.size ≤ Nd.size.sizes l
  | [], h => by cases h
  | a :: l, h => by
    rcases List.mem_cons.1 h with rfl | h
    · simp only [Nd.size.sizes]; omega
    · have := sizes_mem h; simp only [Nd.size.sizes]; omega
theorem kids_smaller {t x : Nd} (h : x ∈ t.kids) : x.size < t.size := by
  cases t
  have := sizes_mem (l := _) h
  simp only [Nd.size, Nd.kids] at this ⊢; omega
theorem ok_kids {t x : Nd} (ho : okN t) (h : x ∈ t.kids) : okN x := by
  cases t
  unfold okN at ho
  exact okNs_mem ho.2.2.2.2 x h
def Smaller (t : Nd) : Prop := ∀ x, x.size < t.size → okN x → SaidOf x
theorem Smaller.kid {t x : Nd} (H : Smaller t) (ho : okN t) (h : x ∈ t.kids) : SaidOf x := H x (kids_smaller h) (ok_kids ho h)
theorem Smaller.grand {t x y : Nd} (H : Smaller t) (ho : okN t) (h : x ∈ t.kids) (h2 : y ∈ x.kids) : SaidOf y := H y (Nat.lt_trans (kids_smaller h2) (kids_smaller h)) (ok_kids (ok_kids ho h) h2)
theorem okM_clause (m : Nat) (hm : m = 2) (k : Int) (tx : ByteArray) (num pl : Int) (kids : List Nd) : okM m (.mk k tx num pl kids) = (plainN (.mk k tx num pl kids) 20 && decide (kids.length = 3) && okAs [8, 9] 1 kids) := by
  subst hm; unfold okM; rw [if_neg (by decide), if_neg (by decide), if_neg (by decide), if_neg (by decide), if_neg (by decide), if_neg (by decide), if_pos rfl, Bool.and_true]
theorem okM_pats (t : Nd) : okM 8 t = (plainN t 19 && t.kids.all (okM 0)) := by
  cases t; unfold okM; rw [if_neg (by decide), if_neg (by decide), if_neg (by decide), if_neg (by decide), if_pos rfl, okAs_nil]; rfl
theorem okM_guards (t : Nd) : okM 9 t = (plainN t 19 && t.kids.all (okM 1)) := by
  cases t; unfold okM; rw [if_neg (by decide), if_neg (by decide), if_neg (by decide), if_neg (by decide), if_neg (by decide), if_pos rfl, okAs_nil]; rfl
theorem okAs_three (m m' d : Nat) (a b c : Nd) : okAs [m, m'] d [a, b, c] = (okM m a && (okM m' b && okM d c)) := by
  unfold okAs okAs okAs okAs; simp
set_option maxRecDepth 100000 in
theorem clause_short (t : Nd) (w : World) (B : Nat → Prop) (F : Bool) (kd : Int) (tx : ByteArray) (nm pl : Int) (ka : Option Addr) (kn kc : Nat) (ht : NodeIn w B F [.int .u8 kd, .string tx, .int .i64 nm, .int .i64 pl, .slice ka kn kc] t) (h : plainN t 20 = false ∨ kn ≠ 3) : Calls Tryd.prog 42 #[.agg #[.int .u8 kd, .string tx, .int .i64 nm, .int .i64 pl, .slice ka kn kc]] w (BoolP false w) := by
  have hk : Keeps NoB w (w.alloc (.cells #[.int .u8 kd, .string tx, .int .i64 nm, .int .i64 pl, .slice ka kn kc] 29)) := (Keeps.refl NoB w).alloc _
  have HP := hide (plain_any 20 t _ B F kd tx nm pl ka kn kc (NodeIn.keep hk (fun _ _ => id) _ _ ht))
  have HK := hide hk
  have HBX := hide (Blk.new w 29 #[.int .u8 kd, .string tx, .int .i64 nm, .int .i64 pl, .slice ka kn kc])
  clear ht hk
  cases hp : plainN t 20 with
  | false =>
    have HPB := hide hp
    clear hp h
    go_enter Tryd.func42, Tryd.ntmps42
    go_wp2_with
      first
      | (go_at_call 29
         refine HP.out.mono ?_
         rintro e w2 ⟨rfl, hk⟩
         rw [HPB.out]
         have HK2 := hide (HK.out.trans' hk (fun _ _ => id) (fun _ _ => id) : Keeps NoB w w2)
         clear hk)
      | fail
    go_ret
    exact ⟨rfl, HK2.out⟩
  | true =>
    have hn3 : kn ≠ 3 := by
      rcases h with h | h
      · rw [hp] at h; cases h
      · exact h
    have b3 : ((kn : Int) == 3) = false := by simp; omega
    have HPB := hide hp
    clear hp h hn3
    go_enter Tryd.func42, Tryd.ntmps42
    go_wp2_with
      first
      | (go_at_call 29
         refine HP.out.mono ?_
         rintro e w2 ⟨rfl, hk⟩
         rw [HPB.out]
         have q4 : w2.cell? ⟨w.heap.size, 4, none⟩ = some (.slice ka kn kc) := hk.cell id (HBX.out.cell 4)
         have HK2 := hide (HK.out.trans' hk (fun _ _ => id) (fun _ _ => id) : Keeps NoB w w2)
         clear hk)
      | fail
    go_ret
    exact ⟨rfl, HK2.out⟩

set_option maxRecDepth 100000 in
set_option maxHeartbeats 4000000 in
theorem clause_three (t p g d : Nd) (hkd : t.kids = [p, g, d]) (hpt : plainN t 20 = true) (w : World) (B : Nat → Prop) (F : Bool) (kd : Int) (tx : ByteArray) (nm pl : Int) (ka : Option Addr) (kc : Nat) (hL : LaidN w) (ho : okN t) (ht : NodeIn w B F [.int .u8 kd, .string tx, .int .i64 nm, .int .i64 pl, .slice ka 3 kc] t) (H : Smaller t) :
    Calls Tryd.prog 42 #[.agg #[.int .u8 kd, .string tx, .int .i64 nm, .int .i64 pl, .slice ka 3 kc]] w (BoolP (okM 8 p && (okM 9 g && okM 1 d)) w) := by
  have SP : p ∈ t.kids := by rw [hkd]; simp
  have SG : g ∈ t.kids := by rw [hkd]; simp
  have SD : d ∈ t.kids := by rw [hkd]; simp
  have np : ∀ x ∈ p.kids, Not1 32 (okM 0) x := fun x hx => not1_32 _ x (H.grand ho SP hx).ok (H.grand ho SP hx).item
  have ng : ∀ x ∈ g.kids, Not1 54 (okM 1) x := fun x hx => not1_54 _ x (H.grand ho SG hx).ok (H.grand ho SG hx).body
  have hd := (H.kid ho SD)
  obtain ⟨kids, css, rfl, hroom, hr, hc, hkl⟩ := ht.kidsIn
  obtain rfl : kids = [p, g, d] := hkd
  obtain ⟨b0, o0, kd1, tx1, nm1, pl1, ka1, kn1, kc1, t1, hA0, _, hbl0, e0, _, hu0, f00, f01, f02, f03, f04⟩ := node_at hr hc 0 (by omega)
  obtain rfl : p = t1 := by simpa using e0
  obtain ⟨b1, o1, kd2, tx2, nm2, pl2, ka2, kn2, kc2, t2, hA1, _, hbl1, e1, _, hu1, f10, f11, f12, f13, f14⟩ := node_at hr hc 1 (by omega)
  obtain rfl : g = t2 := by simpa using e1
  obtain ⟨b2, o2, kd3, tx3, nm3, pl3, ka3, kn3, kc3, t3, hA2, _, hbl2, e2, _, hu2, f20, f21, f22, f23, f24⟩ := node_at hr hc 2 (by omega)
  obtain rfl : d = t3 := by simpa using e2
  subst hA0
  injection hA1 with hA1; injection hA1 with hA1 hA1'; subst hA1 hA1'
  injection hA2 with hA2; injection hA2 with hA2 hA2'; subst hA2 hA2'
  obtain ⟨b, o, rfl, rfl⟩ : ∃ b o, b = b0 ∧ o = o0 := ⟨_, _, rfl, rfl⟩
  have hk1 : Keeps NoB w (w.alloc (.cells #[.int .u8 kd, .string tx, .int .i64 nm, .int .i64 pl, .slice (some ⟨b, o, none⟩) 3 kc] 29)) := (Keeps.refl NoB w).alloc _
  obtain ⟨ks1, cs1, ep, hro1, hr1, hc1, _⟩ := hu0.kidsIn
  obtain ⟨ks2, cs2, eg, hro2, hr2, hc2, _⟩ := hu1.kidsIn
  have e1k : p.kids = ks1 := by rw [ep]; rfl
  have e2k : g.kids = ks2 := by rw [eg]; rfl
  have P1 := hide (plain_any 20 _ (w.alloc (.cells #[.int .u8 kd, .string tx, .int .i64 nm, .int .i64 pl, .slice (some ⟨b, o, none⟩) 3 kc] 29)) B F kd tx nm pl (some ⟨b, o, none⟩) 3 kc (NodeIn.keep hk1 (fun _ _ => id) _ _ ht))
  have P2 := hide (fun (W : World) (hk : Keeps NoB w W) => plain_any 19 p W B F kd1 tx1 nm1 pl1 ka1 kn1 kc1 (NodeIn.keep hk (fun _ _ => id) _ _ hu0))
  have P3 := hide (fun (W : World) (hk : Keeps NoB w W) => nd_all 32 (okM 0) ks1 (e1k ▸ np) cs1 ka1 kn1 kc1 W B F (hL.keep hk) (hr1.keep hk (fun _ _ => id)) (NodesIn.keep hk (fun _ _ => id) _ _ hc1) hro1.1)
  have P4 := hide (fun (W : World) (hk : Keeps NoB w W) => plain_any 19 g W B F kd2 tx2 nm2 pl2 ka2 kn2 kc2 (NodeIn.keep hk (fun _ _ => id) _ _ hu1))
  have P5 := hide (fun (W : World) (hk : Keeps NoB w W) => nd_all 54 (okM 1) ks2 (e2k ▸ ng) cs2 ka2 kn2 kc2 W B F (hL.keep hk) (hr2.keep hk (fun _ _ => id)) (NodesIn.keep hk (fun _ _ => id) _ _ hc2) hro2.1)
  have P6 := hide (fun (W : World) (hk : Keeps NoB w W) => hd.body W B F kd3 tx3 nm3 pl3 ka3 kn3 kc3 (hL.keep hk) hd.ok (NodeIn.keep hk (fun _ _ => id) _ _ hu2))
  have HE : Hid ((okM 8 p && (okM 9 g && okM 1 d)) = ((plainN p 19 && ks1.all (okM 0)) && ((plainN g 19 && ks2.all (okM 1)) && okM 1 d))) := hide (by rw [okM_pats, okM_guards, e1k, e2k])
  have HPT := hide hpt
  have HK := hide hk1
  have HBX := hide (Blk.new w 29 #[.int .u8 kd, .string tx, .int .i64 nm, .int .i64 pl, .slice (some ⟨b, o, none⟩) 3 kc])
  have HF := hide (And.intro (And.intro f00 (And.intro f01 (And.intro f02 (And.intro f03 f04)))) (And.intro (And.intro f10 (And.intro f11 (And.intro f12 (And.intro f13 f14)))) (And.intro f20 (And.intro f21 (And.intro f22 (And.intro f23 f24))))))
  obtain ⟨v1, hv1⟩ : ∃ v, plainN p 19 = v := ⟨_, rfl⟩
  obtain ⟨v2, hv2⟩ : ∃ v, ks1.all (okM 0) = v := ⟨_, rfl⟩
  obtain ⟨v3, hv3⟩ : ∃ v, plainN g 19 = v := ⟨_, rfl⟩
  obtain ⟨v4, hv4⟩ : ∃ v, ks2.all (okM 1) = v := ⟨_, rfl⟩
  obtain ⟨v5, hv5⟩ : ∃ v, okM 1 d = v := ⟨_, rfl⟩
  rw [HE.out, hv1, hv2, hv3, hv4, hv5]
  have H1 := hide hv1; have H2 := hide hv2; have H3 := hide hv3; have H4 := hide hv4; have H5 := hide hv5
  clear HE hv1 hv2 hv3 hv4 hv5 hpt np ng hd hro1 hro2 hr1 hr2 hc1 hc2 ep eg e1k e2k hu0 hu1 hu2 f00 f01 f02 f03 f04 f10 f11 f12 f13 f14 f20 f21 f22 f23 f24 hr hc ht hroom SP SG SD hL ho H e0 e1 e2 hkl hk1
  have tk1 : True := trivial
  have tk2 : True := trivial
  have tk3 : True := trivial
  have tl1 : True := trivial
  have tl2 : True := trivial
  cases v1 with
  | false =>
    go_enter Tryd.func42, Tryd.ntmps42
    go_wp2_with
      first
      | (go_at_call 29
         have _m := tk1
         refine (P1.out).mono ?_
         rintro e w2 ⟨rfl, hk⟩
         rw [HPT.out]
         have HKD := hide hk
         have HKC := hide (HK.out.trans' hk (fun _ _ => id) (fun _ _ => id) : Keeps NoB w w2)
         have qw2 : w2.cell? ⟨w.heap.size, 4, none⟩ = some (.slice (some ⟨b, o, none⟩) 3 kc) := (HKD.out).cell id (HBX.out.cell 4)
         have fw200 : w2.cell? ⟨b, o, none⟩ = some (.int .u8 kd1) := by have h := HKC.out.cell id (HF.out.1.1); simpa using h
         have fw201 : w2.cell? ⟨b, o + 1, none⟩ = some (.string tx1) := by have h := HKC.out.cell id (HF.out.1.2.1); simpa using h
         have fw202 : w2.cell? ⟨b, o + 2, none⟩ = some (.int .i64 nm1) := by have h := HKC.out.cell id (HF.out.1.2.2.1); simpa using h
         have fw203 : w2.cell? ⟨b, o + 3, none⟩ = some (.int .i64 pl1) := by have h := HKC.out.cell id (HF.out.1.2.2.2.1); simpa using h
         have fw204 : w2.cell? ⟨b, o + 4, none⟩ = some (.slice ka1 kn1 kc1) := by have h := HKC.out.cell id (HF.out.1.2.2.2.2); simpa using h
         clear hk tk1)
      | (go_at_call 29
         have _m := tk2
         refine (P2.out _ HKC.out).mono ?_
         rintro e w3 ⟨rfl, hk⟩
         rw [H1.out]
         have HKD1 := hide (HKD.out.trans' hk (fun _ _ => id) (fun _ _ => id) : Keeps NoB (w.alloc (.cells #[.int .u8 kd, .string tx, .int .i64 nm, .int .i64 pl, .slice (some ⟨b, o, none⟩) 3 kc] 29)) w3)
         have HKC1 := hide (HKC.out.trans' hk (fun _ _ => id) (fun _ _ => id) : Keeps NoB w w3)
         clear HKD HKC
         have HKD := HKD1; have HKC := HKC1
         clear HKD1 HKC1
         have qw3 : w3.cell? ⟨w.heap.size, 4, none⟩ = some (.slice (some ⟨b, o, none⟩) 3 kc) := (HKD.out).cell id (HBX.out.cell 4)
         have fw304 : w3.cell? ⟨b, o + 4, none⟩ = some (.slice ka1 kn1 kc1) := by have h := HKC.out.cell id (HF.out.1.2.2.2.2); simpa using h
         clear hk tk2)
      | (go_at_call 30
         have _m := tl1
         refine (P3.out _ HKC.out).mono ?_
         rintro e w4 ⟨rfl, hk⟩
         rw [H2.out]
         have HKD1 := hide (HKD.out.trans' hk (fun _ _ => id) (fun _ _ => id) : Keeps NoB (w.alloc (.cells #[.int .u8 kd, .string tx, .int .i64 nm, .int .i64 pl, .slice (some ⟨b, o, none⟩) 3 kc] 29)) w4)
         have HKC1 := hide (HKC.out.trans' hk (fun _ _ => id) (fun _ _ => id) : Keeps NoB w w4)
         clear HKD HKC
         have HKD := HKD1; have HKC := HKC1
         clear HKD1 HKC1
         have qw4 : w4.cell? ⟨w.heap.size, 4, none⟩ = some (.slice (some ⟨b, o, none⟩) 3 kc) := (HKD.out).cell id (HBX.out.cell 4)
         have fw410 : w4.cell? ⟨b, o + 5, none⟩ = some (.int .u8 kd2) := by have h := HKC.out.cell id (HF.out.2.1.1); simpa using h
         have fw411 : w4.cell? ⟨b, o + 6, none⟩ = some (.string tx2) := by have h := HKC.out.cell id (HF.out.2.1.2.1); simpa using h
         have fw412 : w4.cell? ⟨b, o + 7, none⟩ = some (.int .i64 nm2) := by have h := HKC.out.cell id (HF.out.2.1.2.2.1); simpa using h
         have fw413 : w4.cell? ⟨b, o + 8, none⟩ = some (.int .i64 pl2) := by have h := HKC.out.cell id (HF.out.2.1.2.2.2.1); simpa using h
         have fw414 : w4.cell? ⟨b, o + 9, none⟩ = some (.slice ka2 kn2 kc2) := by have h := HKC.out.cell id (HF.out.2.1.2.2.2.2); simpa using h
         clear hk tl1)
      | (go_at_call 29
         have _m := tk3
         refine (P4.out _ HKC.out).mono ?_
         rintro e w5 ⟨rfl, hk⟩
         rw [H3.out]
         have HKD1 := hide (HKD.out.trans' hk (fun _ _ => id) (fun _ _ => id) : Keeps NoB (w.alloc (.cells #[.int .u8 kd, .string tx, .int .i64 nm, .int .i64 pl, .slice (some ⟨b, o, none⟩) 3 kc] 29)) w5)
         have HKC1 := hide (HKC.out.trans' hk (fun _ _ => id) (fun _ _ => id) : Keeps NoB w w5)
         clear HKD HKC
         have HKD := HKD1; have HKC := HKC1
         clear HKD1 HKC1
         have qw5 : w5.cell? ⟨w.heap.size, 4, none⟩ = some (.slice (some ⟨b, o, none⟩) 3 kc) := (HKD.out).cell id (HBX.out.cell 4)
         have fw514 : w5.cell? ⟨b, o + 9, none⟩ = some (.slice ka2 kn2 kc2) := by have h := HKC.out.cell id (HF.out.2.1.2.2.2.2); simpa using h
         clear hk tk3)
      | (go_at_call 30
         have _m := tl2
         refine (P5.out _ HKC.out).mono ?_
         rintro e w6 ⟨rfl, hk⟩
         rw [H4.out]
         have HKD1 := hide (HKD.out.trans' hk (fun _ _ => id) (fun _ _ => id) : Keeps NoB (w.alloc (.cells #[.int .u8 kd, .string tx, .int .i64 nm, .int .i64 pl, .slice (some ⟨b, o, none⟩) 3 kc] 29)) w6)
         have HKC1 := hide (HKC.out.trans' hk (fun _ _ => id) (fun _ _ => id) : Keeps NoB w w6)
         clear HKD HKC
         have HKD := HKD1; have HKC := HKC1
         clear HKD1 HKC1
         have qw6 : w6.cell? ⟨w.heap.size, 4, none⟩ = some (.slice (some ⟨b, o, none⟩) 3 kc) := (HKD.out).cell id (HBX.out.cell 4)
         have fw620 : w6.cell? ⟨b, o + 10, none⟩ = some (.int .u8 kd3) := by have h := HKC.out.cell id (HF.out.2.2.1); simpa using h
         have fw621 : w6.cell? ⟨b, o + 11, none⟩ = some (.string tx3) := by have h := HKC.out.cell id (HF.out.2.2.2.1); simpa using h
         have fw622 : w6.cell? ⟨b, o + 12, none⟩ = some (.int .i64 nm3) := by have h := HKC.out.cell id (HF.out.2.2.2.2.1); simpa using h
         have fw623 : w6.cell? ⟨b, o + 13, none⟩ = some (.int .i64 pl3) := by have h := HKC.out.cell id (HF.out.2.2.2.2.2.1); simpa using h
         have fw624 : w6.cell? ⟨b, o + 14, none⟩ = some (.slice ka3 kn3 kc3) := by have h := HKC.out.cell id (HF.out.2.2.2.2.2.2); simpa using h
         clear hk tl2)
      | (go_at_call 54
         refine (P6.out _ HKC.out).mono ?_
         rintro e w7 ⟨rfl, hk⟩
         rw [H5.out]
         have HKD1 := hide (HKD.out.trans' hk (fun _ _ => id) (fun _ _ => id) : Keeps NoB (w.alloc (.cells #[.int .u8 kd, .string tx, .int .i64 nm, .int .i64 pl, .slice (some ⟨b, o, none⟩) 3 kc] 29)) w7)
         have HKC1 := hide (HKC.out.trans' hk (fun _ _ => id) (fun _ _ => id) : Keeps NoB w w7)
         clear HKD HKC
         have HKD := HKD1; have HKC := HKC1
         clear HKD1 HKC1
         clear hk)
      | fail
    go_ret
    exact ⟨by simp, HKC.out⟩
  | true =>
    cases v2 with
    | false =>
      go_enter Tryd.func42, Tryd.ntmps42
      go_wp2_with
        first
        | (go_at_call 29
           have _m := tk1
           refine (P1.out).mono ?_
           rintro e w2 ⟨rfl, hk⟩
           rw [HPT.out]
           have HKD := hide hk
           have HKC := hide (HK.out.trans' hk (fun _ _ => id) (fun _ _ => id) : Keeps NoB w w2)
           have qw2 : w2.cell? ⟨w.heap.size, 4, none⟩ = some (.slice (some ⟨b, o, none⟩) 3 kc) := (HKD.out).cell id (HBX.out.cell 4)
           have fw200 : w2.cell? ⟨b, o, none⟩ = some (.int .u8 kd1) := by have h := HKC.out.cell id (HF.out.1.1); simpa using h
           have fw201 : w2.cell? ⟨b, o + 1, none⟩ = some (.string tx1) := by have h := HKC.out.cell id (HF.out.1.2.1); simpa using h
           have fw202 : w2.cell? ⟨b, o + 2, none⟩ = some (.int .i64 nm1) := by have h := HKC.out.cell id (HF.out.1.2.2.1); simpa using h
           have fw203 : w2.cell? ⟨b, o + 3, none⟩ = some (.int .i64 pl1) := by have h := HKC.out.cell id (HF.out.1.2.2.2.1); simpa using h
           have fw204 : w2.cell? ⟨b, o + 4, none⟩ = some (.slice ka1 kn1 kc1) := by have h := HKC.out.cell id (HF.out.1.2.2.2.2); simpa using h
           clear hk tk1)
        | (go_at_call 29
           have _m := tk2
           refine (P2.out _ HKC.out).mono ?_
           rintro e w3 ⟨rfl, hk⟩
           rw [H1.out]
           have HKD1 := hide (HKD.out.trans' hk (fun _ _ => id) (fun _ _ => id) : Keeps NoB (w.alloc (.cells #[.int .u8 kd, .string tx, .int .i64 nm, .int .i64 pl, .slice (some ⟨b, o, none⟩) 3 kc] 29)) w3)
           have HKC1 := hide (HKC.out.trans' hk (fun _ _ => id) (fun _ _ => id) : Keeps NoB w w3)
           clear HKD HKC
           have HKD := HKD1; have HKC := HKC1
           clear HKD1 HKC1
           have qw3 : w3.cell? ⟨w.heap.size, 4, none⟩ = some (.slice (some ⟨b, o, none⟩) 3 kc) := (HKD.out).cell id (HBX.out.cell 4)
           have fw304 : w3.cell? ⟨b, o + 4, none⟩ = some (.slice ka1 kn1 kc1) := by have h := HKC.out.cell id (HF.out.1.2.2.2.2); simpa using h
           clear hk tk2)
        | (go_at_call 30
           have _m := tl1
           refine (P3.out _ HKC.out).mono ?_
           rintro e w4 ⟨rfl, hk⟩
           rw [H2.out]
           have HKD1 := hide (HKD.out.trans' hk (fun _ _ => id) (fun _ _ => id) : Keeps NoB (w.alloc (.cells #[.int .u8 kd, .string tx, .int .i64 nm, .int .i64 pl, .slice (some ⟨b, o, none⟩) 3 kc] 29)) w4)
           have HKC1 := hide (HKC.out.trans' hk (fun _ _ => id) (fun _ _ => id) : Keeps NoB w w4)
           clear HKD HKC
           have HKD := HKD1; have HKC := HKC1
           clear HKD1 HKC1
           have qw4 : w4.cell? ⟨w.heap.size, 4, none⟩ = some (.slice (some ⟨b, o, none⟩) 3 kc) := (HKD.out).cell id (HBX.out.cell 4)
           have fw410 : w4.cell? ⟨b, o + 5, none⟩ = some (.int .u8 kd2) := by have h := HKC.out.cell id (HF.out.2.1.1); simpa using h
           have fw411 : w4.cell? ⟨b, o + 6, none⟩ = some (.string tx2) := by have h := HKC.out.cell id (HF.out.2.1.2.1); simpa using h
           have fw412 : w4.cell? ⟨b, o + 7, none⟩ = some (.int .i64 nm2) := by have h := HKC.out.cell id (HF.out.2.1.2.2.1); simpa using h
           have fw413 : w4.cell? ⟨b, o + 8, none⟩ = some (.int .i64 pl2) := by have h := HKC.out.cell id (HF.out.2.1.2.2.2.1); simpa using h
           have fw414 : w4.cell? ⟨b, o + 9, none⟩ = some (.slice ka2 kn2 kc2) := by have h := HKC.out.cell id (HF.out.2.1.2.2.2.2); simpa using h
           clear hk tl1)
        | (go_at_call 29
           have _m := tk3
           refine (P4.out _ HKC.out).mono ?_
           rintro e w5 ⟨rfl, hk⟩
           rw [H3.out]
           have HKD1 := hide (HKD.out.trans' hk (fun _ _ => id) (fun _ _ => id) : Keeps NoB (w.alloc (.cells #[.int .u8 kd, .string tx, .int .i64 nm, .int .i64 pl, .slice (some ⟨b, o, none⟩) 3 kc] 29)) w5)
           have HKC1 := hide (HKC.out.trans' hk (fun _ _ => id) (fun _ _ => id) : Keeps NoB w w5)
           clear HKD HKC
           have HKD := HKD1; have HKC := HKC1
           clear HKD1 HKC1
           have qw5 : w5.cell? ⟨w.heap.size, 4, none⟩ = some (.slice (some ⟨b, o, none⟩) 3 kc) := (HKD.out).cell id (HBX.out.cell 4)
           have fw514 : w5.cell? ⟨b, o + 9, none⟩ = some (.slice ka2 kn2 kc2) := by have h := HKC.out.cell id (HF.out.2.1.2.2.2.2); simpa using h
           clear hk tk3)
        | (go_at_call 30
           have _m := tl2
           refine (P5.out _ HKC.out).mono ?_
           rintro e w6 ⟨rfl, hk⟩
           rw [H4.out]
           have HKD1 := hide (HKD.out.trans' hk (fun _ _ => id) (fun _ _ => id) : Keeps NoB (w.alloc (.cells #[.int .u8 kd, .string tx, .int .i64 nm, .int .i64 pl, .slice (some ⟨b, o, none⟩) 3 kc] 29)) w6)
           have HKC1 := hide (HKC.out.trans' hk (fun _ _ => id) (fun _ _ => id) : Keeps NoB w w6)
           clear HKD HKC
           have HKD := HKD1; have HKC := HKC1
           clear HKD1 HKC1
           have qw6 : w6.cell? ⟨w.heap.size, 4, none⟩ = some (.slice (some ⟨b, o, none⟩) 3 kc) := (HKD.out).cell id (HBX.out.cell 4)
           have fw620 : w6.cell? ⟨b, o + 10, none⟩ = some (.int .u8 kd3) := by have h := HKC.out.cell id (HF.out.2.2.1); simpa using h
           have fw621 : w6.cell? ⟨b, o + 11, none⟩ = some (.string tx3) := by have h := HKC.out.cell id (HF.out.2.2.2.1); simpa using h
           have fw622 : w6.cell? ⟨b, o + 12, none⟩ = some (.int .i64 nm3) := by have h := HKC.out.cell id (HF.out.2.2.2.2.1); simpa using h
           have fw623 : w6.cell? ⟨b, o + 13, none⟩ = some (.int .i64 pl3) := by have h := HKC.out.cell id (HF.out.2.2.2.2.2.1); simpa using h
           have fw624 : w6.cell? ⟨b, o + 14, none⟩ = some (.slice ka3 kn3 kc3) := by have h := HKC.out.cell id (HF.out.2.2.2.2.2.2); simpa using h
           clear hk tl2)
        | (go_at_call 54
           refine (P6.out _ HKC.out).mono ?_
           rintro e w7 ⟨rfl, hk⟩
           rw [H5.out]
           have HKD1 := hide (HKD.out.trans' hk (fun _ _ => id) (fun _ _ => id) : Keeps NoB (w.alloc (.cells #[.int .u8 kd, .string tx, .int .i64 nm, .int .i64 pl, .slice (some ⟨b, o, none⟩) 3 kc] 29)) w7)
           have HKC1 := hide (HKC.out.trans' hk (fun _ _ => id) (fun _ _ => id) : Keeps NoB w w7)
           clear HKD HKC
           have HKD := HKD1; have HKC := HKC1
           clear HKD1 HKC1
           clear hk)
        | fail
      go_ret
      exact ⟨by simp, HKC.out⟩
    | true =>
      cases v3 with
      | false =>
        go_enter Tryd.func42, Tryd.ntmps42
        go_wp2_with
          first
          | (go_at_call 29
             have _m := tk1
             refine (P1.out).mono ?_
             rintro e w2 ⟨rfl, hk⟩
             rw [HPT.out]
             have HKD := hide hk
             have HKC := hide (HK.out.trans' hk (fun _ _ => id) (fun _ _ => id) : Keeps NoB w w2)
             have qw2 : w2.cell? ⟨w.heap.size, 4, none⟩ = some (.slice (some ⟨b, o, none⟩) 3 kc) := (HKD.out).cell id (HBX.out.cell 4)
             have fw200 : w2.cell? ⟨b, o, none⟩ = some (.int .u8 kd1) := by have h := HKC.out.cell id (HF.out.1.1); simpa using h
             have fw201 : w2.cell? ⟨b, o + 1, none⟩ = some (.string tx1) := by have h := HKC.out.cell id (HF.out.1.2.1); simpa using h
             have fw202 : w2.cell? ⟨b, o + 2, none⟩ = some (.int .i64 nm1) := by have h := HKC.out.cell id (HF.out.1.2.2.1); simpa using h
             have fw203 : w2.cell? ⟨b, o + 3, none⟩ = some (.int .i64 pl1) := by have h := HKC.out.cell id (HF.out.1.2.2.2.1); simpa using h
             have fw204 : w2.cell? ⟨b, o + 4, none⟩ = some (.slice ka1 kn1 kc1) := by have h := HKC.out.cell id (HF.out.1.2.2.2.2); simpa using h
             clear hk tk1)
          | (go_at_call 29
             have _m := tk2
             refine (P2.out _ HKC.out).mono ?_
             rintro e w3 ⟨rfl, hk⟩
             rw [H1.out]
             have HKD1 := hide (HKD.out.trans' hk (fun _ _ => id) (fun _ _ => id) : Keeps NoB (w.alloc (.cells #[.int .u8 kd, .string tx, .int .i64 nm, .int .i64 pl, .slice (some ⟨b, o, none⟩) 3 kc] 29)) w3)
             have HKC1 := hide (HKC.out.trans' hk (fun _ _ => id) (fun _ _ => id) : Keeps NoB w w3)
             clear HKD HKC
             have HKD := HKD1; have HKC := HKC1
             clear HKD1 HKC1
             have qw3 : w3.cell? ⟨w.heap.size, 4, none⟩ = some (.slice (some ⟨b, o, none⟩) 3 kc) := (HKD.out).cell id (HBX.out.cell 4)
             have fw304 : w3.cell? ⟨b, o + 4, none⟩ = some (.slice ka1 kn1 kc1) := by have h := HKC.out.cell id (HF.out.1.2.2.2.2); simpa using h
             clear hk tk2)
          | (go_at_call 30
             have _m := tl1
             refine (P3.out _ HKC.out).mono ?_
             rintro e w4 ⟨rfl, hk⟩
             rw [H2.out]
             have HKD1 := hide (HKD.out.trans' hk (fun _ _ => id) (fun _ _ => id) : Keeps NoB (w.alloc (.cells #[.int .u8 kd, .string tx, .int .i64 nm, .int .i64 pl, .slice (some ⟨b, o, none⟩) 3 kc] 29)) w4)
             have HKC1 := hide (HKC.out.trans' hk (fun _ _ => id) (fun _ _ => id) : Keeps NoB w w4)
             clear HKD HKC
             have HKD := HKD1; have HKC := HKC1
             clear HKD1 HKC1
             have qw4 : w4.cell? ⟨w.heap.size, 4, none⟩ = some (.slice (some ⟨b, o, none⟩) 3 kc) := (HKD.out).cell id (HBX.out.cell 4)
             have fw410 : w4.cell? ⟨b, o + 5, none⟩ = some (.int .u8 kd2) := by have h := HKC.out.cell id (HF.out.2.1.1); simpa using h
             have fw411 : w4.cell? ⟨b, o + 6, none⟩ = some (.string tx2) := by have h := HKC.out.cell id (HF.out.2.1.2.1); simpa using h
             have fw412 : w4.cell? ⟨b, o + 7, none⟩ = some (.int .i64 nm2) := by have h := HKC.out.cell id (HF.out.2.1.2.2.1); simpa using h
             have fw413 : w4.cell? ⟨b, o + 8, none⟩ = some (.int .i64 pl2) := by have h := HKC.out.cell id (HF.out.2.1.2.2.2.1); simpa using h
             have fw414 : w4.cell? ⟨b, o + 9, none⟩ = some (.slice ka2 kn2 kc2) := by have h := HKC.out.cell id (HF.out.2.1.2.2.2.2); simpa using h
             clear hk tl1)
          | (go_at_call 29
             have _m := tk3
             refine (P4.out _ HKC.out).mono ?_
             rintro e w5 ⟨rfl, hk⟩
             rw [H3.out]
             have HKD1 := hide (HKD.out.trans' hk (fun _ _ => id) (fun _ _ => id) : Keeps NoB (w.alloc (.cells #[.int .u8 kd, .string tx, .int .i64 nm, .int .i64 pl, .slice (some ⟨b, o, none⟩) 3 kc] 29)) w5)
             have HKC1 := hide (HKC.out.trans' hk (fun _ _ => id) (fun _ _ => id) : Keeps NoB w w5)
             clear HKD HKC
             have HKD := HKD1; have HKC := HKC1
             clear HKD1 HKC1
             have qw5 : w5.cell? ⟨w.heap.size, 4, none⟩ = some (.slice (some ⟨b, o, none⟩) 3 kc) := (HKD.out).cell id (HBX.out.cell 4)
             have fw514 : w5.cell? ⟨b, o + 9, none⟩ = some (.slice ka2 kn2 kc2) := by have h := HKC.out.cell id (HF.out.2.1.2.2.2.2); simpa using h
             clear hk tk3)
          | (go_at_call 30
             have _m := tl2
             refine (P5.out _ HKC.out).mono ?_
             rintro e w6 ⟨rfl, hk⟩
             rw [H4.out]
             have HKD1 := hide (HKD.out.trans' hk (fun _ _ => id) (fun _ _ => id) : Keeps NoB (w.alloc (.cells #[.int .u8 kd, .string tx, .int .i64 nm, .int .i64 pl, .slice (some ⟨b, o, none⟩) 3 kc] 29)) w6)
             have HKC1 := hide (HKC.out.trans' hk (fun _ _ => id) (fun _ _ => id) : Keeps NoB w w6)
             clear HKD HKC
             have HKD := HKD1; have HKC := HKC1
             clear HKD1 HKC1
             have qw6 : w6.cell? ⟨w.heap.size, 4, none⟩ = some (.slice (some ⟨b, o, none⟩) 3 kc) := (HKD.out).cell id (HBX.out.cell 4)
             have fw620 : w6.cell? ⟨b, o + 10, none⟩ = some (.int .u8 kd3) := by have h := HKC.out.cell id (HF.out.2.2.1); simpa using h
             have fw621 : w6.cell? ⟨b, o + 11, none⟩ = some (.string tx3) := by have h := HKC.out.cell id (HF.out.2.2.2.1); simpa using h
             have fw622 : w6.cell? ⟨b, o + 12, none⟩ = some (.int .i64 nm3) := by have h := HKC.out.cell id (HF.out.2.2.2.2.1); simpa using h
             have fw623 : w6.cell? ⟨b, o + 13, none⟩ = some (.int .i64 pl3) := by have h := HKC.out.cell id (HF.out.2.2.2.2.2.1); simpa using h
             have fw624 : w6.cell? ⟨b, o + 14, none⟩ = some (.slice ka3 kn3 kc3) := by have h := HKC.out.cell id (HF.out.2.2.2.2.2.2); simpa using h
             clear hk tl2)
          | (go_at_call 54
             refine (P6.out _ HKC.out).mono ?_
             rintro e w7 ⟨rfl, hk⟩
             rw [H5.out]
             have HKD1 := hide (HKD.out.trans' hk (fun _ _ => id) (fun _ _ => id) : Keeps NoB (w.alloc (.cells #[.int .u8 kd, .string tx, .int .i64 nm, .int .i64 pl, .slice (some ⟨b, o, none⟩) 3 kc] 29)) w7)
             have HKC1 := hide (HKC.out.trans' hk (fun _ _ => id) (fun _ _ => id) : Keeps NoB w w7)
             clear HKD HKC
             have HKD := HKD1; have HKC := HKC1
             clear HKD1 HKC1
             clear hk)
          | fail
        go_ret
        exact ⟨by simp, HKC.out⟩
      | true =>
        cases v4 with
        | false =>
          go_enter Tryd.func42, Tryd.ntmps42
          go_wp2_with
            first
            | (go_at_call 29
               have _m := tk1
               refine (P1.out).mono ?_
               rintro e w2 ⟨rfl, hk⟩
               rw [HPT.out]
               have HKD := hide hk
               have HKC := hide (HK.out.trans' hk (fun _ _ => id) (fun _ _ => id) : Keeps NoB w w2)
               have qw2 : w2.cell? ⟨w.heap.size, 4, none⟩ = some (.slice (some ⟨b, o, none⟩) 3 kc) := (HKD.out).cell id (HBX.out.cell 4)
               have fw200 : w2.cell? ⟨b, o, none⟩ = some (.int .u8 kd1) := by have h := HKC.out.cell id (HF.out.1.1); simpa using h
               have fw201 : w2.cell? ⟨b, o + 1, none⟩ = some (.string tx1) := by have h := HKC.out.cell id (HF.out.1.2.1); simpa using h
               have fw202 : w2.cell? ⟨b, o + 2, none⟩ = some (.int .i64 nm1) := by have h := HKC.out.cell id (HF.out.1.2.2.1); simpa using h
               have fw203 : w2.cell? ⟨b, o + 3, none⟩ = some (.int .i64 pl1) := by have h := HKC.out.cell id (HF.out.1.2.2.2.1); simpa using h
               have fw204 : w2.cell? ⟨b, o + 4, none⟩ = some (.slice ka1 kn1 kc1) := by have h := HKC.out.cell id (HF.out.1.2.2.2.2); simpa using h
               clear hk tk1)
            | (go_at_call 29
               have _m := tk2
               refine (P2.out _ HKC.out).mono ?_
               rintro e w3 ⟨rfl, hk⟩
               rw [H1.out]
               have HKD1 := hide (HKD.out.trans' hk (fun _ _ => id) (fun _ _ => id) : Keeps NoB (w.alloc (.cells #[.int .u8 kd, .string tx, .int .i64 nm, .int .i64 pl, .slice (some ⟨b, o, none⟩) 3 kc] 29)) w3)
               have HKC1 := hide (HKC.out.trans' hk (fun _ _ => id) (fun _ _ => id) : Keeps NoB w w3)
               clear HKD HKC
               have HKD := HKD1; have HKC := HKC1
               clear HKD1 HKC1
               have qw3 : w3.cell? ⟨w.heap.size, 4, none⟩ = some (.slice (some ⟨b, o, none⟩) 3 kc) := (HKD.out).cell id (HBX.out.cell 4)
               have fw304 : w3.cell? ⟨b, o + 4, none⟩ = some (.slice ka1 kn1 kc1) := by have h := HKC.out.cell id (HF.out.1.2.2.2.2); simpa using h
               clear hk tk2)
            | (go_at_call 30
               have _m := tl1
               refine (P3.out _ HKC.out).mono ?_
               rintro e w4 ⟨rfl, hk⟩
               rw [H2.out]
               have HKD1 := hide (HKD.out.trans' hk (fun _ _ => id) (fun _ _ => id) : Keeps NoB (w.alloc (.cells #[.int .u8 kd, .string tx, .int .i64 nm, .int .i64 pl, .slice (some ⟨b, o, none⟩) 3 kc] 29)) w4)
               have HKC1 := hide (HKC.out.trans' hk (fun _ _ => id) (fun _ _ => id) : Keeps NoB w w4)
               clear HKD HKC
               have HKD := HKD1; have HKC := HKC1
               clear HKD1 HKC1
               have qw4 : w4.cell? ⟨w.heap.size, 4, none⟩ = some (.slice (some ⟨b, o, none⟩) 3 kc) := (HKD.out).cell id (HBX.out.cell 4)
               have fw410 : w4.cell? ⟨b, o + 5, none⟩ = some (.int .u8 kd2) := by have h := HKC.out.cell id (HF.out.2.1.1); simpa using h
               have fw411 : w4.cell? ⟨b, o + 6, none⟩ = some (.string tx2) := by have h := HKC.out.cell id (HF.out.2.1.2.1); simpa using h
               have fw412 : w4.cell? ⟨b, o + 7, none⟩ = some (.int .i64 nm2) := by have h := HKC.out.cell id (HF.out.2.1.2.2.1); simpa using h
               have fw413 : w4.cell? ⟨b, o + 8, none⟩ = some (.int .i64 pl2) := by have h := HKC.out.cell id (HF.out.2.1.2.2.2.1); simpa using h
               have fw414 : w4.cell? ⟨b, o + 9, none⟩ = some (.slice ka2 kn2 kc2) := by have h := HKC.out.cell id (HF.out.2.1.2.2.2.2); simpa using h
               clear hk tl1)
            | (go_at_call 29
               have _m := tk3
               refine (P4.out _ HKC.out).mono ?_
               rintro e w5 ⟨rfl, hk⟩
               rw [H3.out]
               have HKD1 := hide (HKD.out.trans' hk (fun _ _ => id) (fun _ _ => id) : Keeps NoB (w.alloc (.cells #[.int .u8 kd, .string tx, .int .i64 nm, .int .i64 pl, .slice (some ⟨b, o, none⟩) 3 kc] 29)) w5)
               have HKC1 := hide (HKC.out.trans' hk (fun _ _ => id) (fun _ _ => id) : Keeps NoB w w5)
               clear HKD HKC
               have HKD := HKD1; have HKC := HKC1
               clear HKD1 HKC1
               have qw5 : w5.cell? ⟨w.heap.size, 4, none⟩ = some (.slice (some ⟨b, o, none⟩) 3 kc) := (HKD.out).cell id (HBX.out.cell 4)
               have fw514 : w5.cell? ⟨b, o + 9, none⟩ = some (.slice ka2 kn2 kc2) := by have h := HKC.out.cell id (HF.out.2.1.2.2.2.2); simpa using h
               clear hk tk3)
            | (go_at_call 30
               have _m := tl2
               refine (P5.out _ HKC.out).mono ?_
               rintro e w6 ⟨rfl, hk⟩
               rw [H4.out]
               have HKD1 := hide (HKD.out.trans' hk (fun _ _ => id) (fun _ _ => id) : Keeps NoB (w.alloc (.cells #[.int .u8 kd, .string tx, .int .i64 nm, .int .i64 pl, .slice (some ⟨b, o, none⟩) 3 kc] 29)) w6)
               have HKC1 := hide (HKC.out.trans' hk (fun _ _ => id) (fun _ _ => id) : Keeps NoB w w6)
               clear HKD HKC
               have HKD := HKD1; have HKC := HKC1
               clear HKD1 HKC1
               have qw6 : w6.cell? ⟨w.heap.size, 4, none⟩ = some (.slice (some ⟨b, o, none⟩) 3 kc) := (HKD.out).cell id (HBX.out.cell 4)
               have fw620 : w6.cell? ⟨b, o + 10, none⟩ = some (.int .u8 kd3) := by have h := HKC.out.cell id (HF.out.2.2.1); simpa using h
               have fw621 : w6.cell? ⟨b, o + 11, none⟩ = some (.string tx3) := by have h := HKC.out.cell id (HF.out.2.2.2.1); simpa using h
               have fw622 : w6.cell? ⟨b, o + 12, none⟩ = some (.int .i64 nm3) := by have h := HKC.out.cell id (HF.out.2.2.2.2.1); simpa using h
               have fw623 : w6.cell? ⟨b, o + 13, none⟩ = some (.int .i64 pl3) := by have h := HKC.out.cell id (HF.out.2.2.2.2.2.1); simpa using h
               have fw624 : w6.cell? ⟨b, o + 14, none⟩ = some (.slice ka3 kn3 kc3) := by have h := HKC.out.cell id (HF.out.2.2.2.2.2.2); simpa using h
               clear hk tl2)
            | (go_at_call 54
               refine (P6.out _ HKC.out).mono ?_
               rintro e w7 ⟨rfl, hk⟩
               rw [H5.out]
               have HKD1 := hide (HKD.out.trans' hk (fun _ _ => id) (fun _ _ => id) : Keeps NoB (w.alloc (.cells #[.int .u8 kd, .string tx, .int .i64 nm, .int .i64 pl, .slice (some ⟨b, o, none⟩) 3 kc] 29)) w7)
               have HKC1 := hide (HKC.out.trans' hk (fun _ _ => id) (fun _ _ => id) : Keeps NoB w w7)
               clear HKD HKC
               have HKD := HKD1; have HKC := HKC1
               clear HKD1 HKC1
               clear hk)
            | fail
          go_ret
          exact ⟨by simp, HKC.out⟩
        | true =>
          cases v5 with
          | false =>
            go_enter Tryd.func42, Tryd.ntmps42
            go_wp2_with
              first
              | (go_at_call 29
                 have _m := tk1
                 refine (P1.out).mono ?_
                 rintro e w2 ⟨rfl, hk⟩
                 rw [HPT.out]
                 have HKD := hide hk
                 have HKC := hide (HK.out.trans' hk (fun _ _ => id) (fun _ _ => id) : Keeps NoB w w2)
                 have qw2 : w2.cell? ⟨w.heap.size, 4, none⟩ = some (.slice (some ⟨b, o, none⟩) 3 kc) := (HKD.out).cell id (HBX.out.cell 4)
                 have fw200 : w2.cell? ⟨b, o, none⟩ = some (.int .u8 kd1) := by have h := HKC.out.cell id (HF.out.1.1); simpa using h
                 have fw201 : w2.cell? ⟨b, o + 1, none⟩ = some (.string tx1) := by have h := HKC.out.cell id (HF.out.1.2.1); simpa using h
                 have fw202 : w2.cell? ⟨b, o + 2, none⟩ = some (.int .i64 nm1) := by have h := HKC.out.cell id (HF.out.1.2.2.1); simpa using h
                 have fw203 : w2.cell? ⟨b, o + 3, none⟩ = some (.int .i64 pl1) := by have h := HKC.out.cell id (HF.out.1.2.2.2.1); simpa using h
                 have fw204 : w2.cell? ⟨b, o + 4, none⟩ = some (.slice ka1 kn1 kc1) := by have h := HKC.out.cell id (HF.out.1.2.2.2.2); simpa using h
                 clear hk tk1)
              | (go_at_call 29
                 have _m := tk2
                 refine (P2.out _ HKC.out).mono ?_
                 rintro e w3 ⟨rfl, hk⟩
                 rw [H1.out]
                 have HKD1 := hide (HKD.out.trans' hk (fun _ _ => id) (fun _ _ => id) : Keeps NoB (w.alloc (.cells #[.int .u8 kd, .string tx, .int .i64 nm, .int .i64 pl, .slice (some ⟨b, o, none⟩) 3 kc] 29)) w3)
                 have HKC1 := hide (HKC.out.trans' hk (fun _ _ => id) (fun _ _ => id) : Keeps NoB w w3)
                 clear HKD HKC
                 have HKD := HKD1; have HKC := HKC1
                 clear HKD1 HKC1
                 have qw3 : w3.cell? ⟨w.heap.size, 4, none⟩ = some (.slice (some ⟨b, o, none⟩) 3 kc) := (HKD.out).cell id (HBX.out.cell 4)
                 have fw304 : w3.cell? ⟨b, o + 4, none⟩ = some (.slice ka1 kn1 kc1) := by have h := HKC.out.cell id (HF.out.1.2.2.2.2); simpa using h
                 clear hk tk2)
              | (go_at_call 30
                 have _m := tl1
                 refine (P3.out _ HKC.out).mono ?_
                 rintro e w4 ⟨rfl, hk⟩
                 rw [H2.out]
                 have HKD1 := hide (HKD.out.trans' hk (fun _ _ => id) (fun _ _ => id) : Keeps NoB (w.alloc (.cells #[.int .u8 kd, .string tx, .int .i64 nm, .int .i64 pl, .slice (some ⟨b, o, none⟩) 3 kc] 29)) w4)
                 have HKC1 := hide (HKC.out.trans' hk (fun _ _ => id) (fun _ _ => id) : Keeps NoB w w4)
                 clear HKD HKC
                 have HKD := HKD1; have HKC := HKC1
                 clear HKD1 HKC1
                 have qw4 : w4.cell? ⟨w.heap.size, 4, none⟩ = some (.slice (some ⟨b, o, none⟩) 3 kc) := (HKD.out).cell id (HBX.out.cell 4)
                 have fw410 : w4.cell? ⟨b, o + 5, none⟩ = some (.int .u8 kd2) := by have h := HKC.out.cell id (HF.out.2.1.1); simpa using h
                 have fw411 : w4.cell? ⟨b, o + 6, none⟩ = some (.string tx2) := by have h := HKC.out.cell id (HF.out.2.1.2.1); simpa using h
                 have fw412 : w4.cell? ⟨b, o + 7, none⟩ = some (.int .i64 nm2) := by have h := HKC.out.cell id (HF.out.2.1.2.2.1); simpa using h
                 have fw413 : w4.cell? ⟨b, o + 8, none⟩ = some (.int .i64 pl2) := by have h := HKC.out.cell id (HF.out.2.1.2.2.2.1); simpa using h
                 have fw414 : w4.cell? ⟨b, o + 9, none⟩ = some (.slice ka2 kn2 kc2) := by have h := HKC.out.cell id (HF.out.2.1.2.2.2.2); simpa using h
                 clear hk tl1)
              | (go_at_call 29
                 have _m := tk3
                 refine (P4.out _ HKC.out).mono ?_
                 rintro e w5 ⟨rfl, hk⟩
                 rw [H3.out]
                 have HKD1 := hide (HKD.out.trans' hk (fun _ _ => id) (fun _ _ => id) : Keeps NoB (w.alloc (.cells #[.int .u8 kd, .string tx, .int .i64 nm, .int .i64 pl, .slice (some ⟨b, o, none⟩) 3 kc] 29)) w5)
                 have HKC1 := hide (HKC.out.trans' hk (fun _ _ => id) (fun _ _ => id) : Keeps NoB w w5)
                 clear HKD HKC
                 have HKD := HKD1; have HKC := HKC1
                 clear HKD1 HKC1
                 have qw5 : w5.cell? ⟨w.heap.size, 4, none⟩ = some (.slice (some ⟨b, o, none⟩) 3 kc) := (HKD.out).cell id (HBX.out.cell 4)
                 have fw514 : w5.cell? ⟨b, o + 9, none⟩ = some (.slice ka2 kn2 kc2) := by have h := HKC.out.cell id (HF.out.2.1.2.2.2.2); simpa using h
                 clear hk tk3)
              | (go_at_call 30
                 have _m := tl2
                 refine (P5.out _ HKC.out).mono ?_
                 rintro e w6 ⟨rfl, hk⟩
                 rw [H4.out]
                 have HKD1 := hide (HKD.out.trans' hk (fun _ _ => id) (fun _ _ => id) : Keeps NoB (w.alloc (.cells #[.int .u8 kd, .string tx, .int .i64 nm, .int .i64 pl, .slice (some ⟨b, o, none⟩) 3 kc] 29)) w6)
                 have HKC1 := hide (HKC.out.trans' hk (fun _ _ => id) (fun _ _ => id) : Keeps NoB w w6)
                 clear HKD HKC
                 have HKD := HKD1; have HKC := HKC1
                 clear HKD1 HKC1
                 have qw6 : w6.cell? ⟨w.heap.size, 4, none⟩ = some (.slice (some ⟨b, o, none⟩) 3 kc) := (HKD.out).cell id (HBX.out.cell 4)
                 have fw620 : w6.cell? ⟨b, o + 10, none⟩ = some (.int .u8 kd3) := by have h := HKC.out.cell id (HF.out.2.2.1); simpa using h
                 have fw621 : w6.cell? ⟨b, o + 11, none⟩ = some (.string tx3) := by have h := HKC.out.cell id (HF.out.2.2.2.1); simpa using h
                 have fw622 : w6.cell? ⟨b, o + 12, none⟩ = some (.int .i64 nm3) := by have h := HKC.out.cell id (HF.out.2.2.2.2.1); simpa using h
                 have fw623 : w6.cell? ⟨b, o + 13, none⟩ = some (.int .i64 pl3) := by have h := HKC.out.cell id (HF.out.2.2.2.2.2.1); simpa using h
                 have fw624 : w6.cell? ⟨b, o + 14, none⟩ = some (.slice ka3 kn3 kc3) := by have h := HKC.out.cell id (HF.out.2.2.2.2.2.2); simpa using h
                 clear hk tl2)
              | (go_at_call 54
                 refine (P6.out _ HKC.out).mono ?_
                 rintro e w7 ⟨rfl, hk⟩
                 rw [H5.out]
                 have HKD1 := hide (HKD.out.trans' hk (fun _ _ => id) (fun _ _ => id) : Keeps NoB (w.alloc (.cells #[.int .u8 kd, .string tx, .int .i64 nm, .int .i64 pl, .slice (some ⟨b, o, none⟩) 3 kc] 29)) w7)
                 have HKC1 := hide (HKC.out.trans' hk (fun _ _ => id) (fun _ _ => id) : Keeps NoB w w7)
                 clear HKD HKC
                 have HKD := HKD1; have HKC := HKC1
                 clear HKD1 HKC1
                 clear hk)
              | fail
            go_ret
            exact ⟨by simp, HKC.out⟩
          | true =>
            go_enter Tryd.func42, Tryd.ntmps42
            go_wp2_with
              first
              | (go_at_call 29
                 have _m := tk1
                 refine (P1.out).mono ?_
                 rintro e w2 ⟨rfl, hk⟩
                 rw [HPT.out]
                 have HKD := hide hk
                 have HKC := hide (HK.out.trans' hk (fun _ _ => id) (fun _ _ => id) : Keeps NoB w w2)
                 have qw2 : w2.cell? ⟨w.heap.size, 4, none⟩ = some (.slice (some ⟨b, o, none⟩) 3 kc) := (HKD.out).cell id (HBX.out.cell 4)
                 have fw200 : w2.cell? ⟨b, o, none⟩ = some (.int .u8 kd1) := by have h := HKC.out.cell id (HF.out.1.1); simpa using h
                 have fw201 : w2.cell? ⟨b, o + 1, none⟩ = some (.string tx1) := by have h := HKC.out.cell id (HF.out.1.2.1); simpa using h
                 have fw202 : w2.cell? ⟨b, o + 2, none⟩ = some (.int .i64 nm1) := by have h := HKC.out.cell id (HF.out.1.2.2.1); simpa using h
                 have fw203 : w2.cell? ⟨b, o + 3, none⟩ = some (.int .i64 pl1) := by have h := HKC.out.cell id (HF.out.1.2.2.2.1); simpa using h
                 have fw204 : w2.cell? ⟨b, o + 4, none⟩ = some (.slice ka1 kn1 kc1) := by have h := HKC.out.cell id (HF.out.1.2.2.2.2); simpa using h
                 clear hk tk1)
              | (go_at_call 29
                 have _m := tk2
                 refine (P2.out _ HKC.out).mono ?_
                 rintro e w3 ⟨rfl, hk⟩
                 rw [H1.out]
                 have HKD1 := hide (HKD.out.trans' hk (fun _ _ => id) (fun _ _ => id) : Keeps NoB (w.alloc (.cells #[.int .u8 kd, .string tx, .int .i64 nm, .int .i64 pl, .slice (some ⟨b, o, none⟩) 3 kc] 29)) w3)
                 have HKC1 := hide (HKC.out.trans' hk (fun _ _ => id) (fun _ _ => id) : Keeps NoB w w3)
                 clear HKD HKC
                 have HKD := HKD1; have HKC := HKC1
                 clear HKD1 HKC1
                 have qw3 : w3.cell? ⟨w.heap.size, 4, none⟩ = some (.slice (some ⟨b, o, none⟩) 3 kc) := (HKD.out).cell id (HBX.out.cell 4)
                 have fw304 : w3.cell? ⟨b, o + 4, none⟩ = some (.slice ka1 kn1 kc1) := by have h := HKC.out.cell id (HF.out.1.2.2.2.2); simpa using h
                 clear hk tk2)
              | (go_at_call 30
                 have _m := tl1
                 refine (P3.out _ HKC.out).mono ?_
                 rintro e w4 ⟨rfl, hk⟩
                 rw [H2.out]
                 have HKD1 := hide (HKD.out.trans' hk (fun _ _ => id) (fun _ _ => id) : Keeps NoB (w.alloc (.cells #[.int .u8 kd, .string tx, .int .i64 nm, .int .i64 pl, .slice (some ⟨b, o, none⟩) 3 kc] 29)) w4)
                 have HKC1 := hide (HKC.out.trans' hk (fun _ _ => id) (fun _ _ => id) : Keeps NoB w w4)
                 clear HKD HKC
                 have HKD := HKD1; have HKC := HKC1
                 clear HKD1 HKC1
                 have qw4 : w4.cell? ⟨w.heap.size, 4, none⟩ = some (.slice (some ⟨b, o, none⟩) 3 kc) := (HKD.out).cell id (HBX.out.cell 4)
                 have fw410 : w4.cell? ⟨b, o + 5, none⟩ = some (.int .u8 kd2) := by have h := HKC.out.cell id (HF.out.2.1.1); simpa using h
                 have fw411 : w4.cell? ⟨b, o + 6, none⟩ = some (.string tx2) := by have h := HKC.out.cell id (HF.out.2.1.2.1); simpa using h
                 have fw412 : w4.cell? ⟨b, o + 7, none⟩ = some (.int .i64 nm2) := by have h := HKC.out.cell id (HF.out.2.1.2.2.1); simpa using h
                 have fw413 : w4.cell? ⟨b, o + 8, none⟩ = some (.int .i64 pl2) := by have h := HKC.out.cell id (HF.out.2.1.2.2.2.1); simpa using h
                 have fw414 : w4.cell? ⟨b, o + 9, none⟩ = some (.slice ka2 kn2 kc2) := by have h := HKC.out.cell id (HF.out.2.1.2.2.2.2); simpa using h
                 clear hk tl1)
              | (go_at_call 29
                 have _m := tk3
                 refine (P4.out _ HKC.out).mono ?_
                 rintro e w5 ⟨rfl, hk⟩
                 rw [H3.out]
                 have HKD1 := hide (HKD.out.trans' hk (fun _ _ => id) (fun _ _ => id) : Keeps NoB (w.alloc (.cells #[.int .u8 kd, .string tx, .int .i64 nm, .int .i64 pl, .slice (some ⟨b, o, none⟩) 3 kc] 29)) w5)
                 have HKC1 := hide (HKC.out.trans' hk (fun _ _ => id) (fun _ _ => id) : Keeps NoB w w5)
                 clear HKD HKC
                 have HKD := HKD1; have HKC := HKC1
                 clear HKD1 HKC1
                 have qw5 : w5.cell? ⟨w.heap.size, 4, none⟩ = some (.slice (some ⟨b, o, none⟩) 3 kc) := (HKD.out).cell id (HBX.out.cell 4)
                 have fw514 : w5.cell? ⟨b, o + 9, none⟩ = some (.slice ka2 kn2 kc2) := by have h := HKC.out.cell id (HF.out.2.1.2.2.2.2); simpa using h
                 clear hk tk3)
              | (go_at_call 30
                 have _m := tl2
                 refine (P5.out _ HKC.out).mono ?_
                 rintro e w6 ⟨rfl, hk⟩
                 rw [H4.out]
                 have HKD1 := hide (HKD.out.trans' hk (fun _ _ => id) (fun _ _ => id) : Keeps NoB (w.alloc (.cells #[.int .u8 kd, .string tx, .int .i64 nm, .int .i64 pl, .slice (some ⟨b, o, none⟩) 3 kc] 29)) w6)
                 have HKC1 := hide (HKC.out.trans' hk (fun _ _ => id) (fun _ _ => id) : Keeps NoB w w6)
                 clear HKD HKC
                 have HKD := HKD1; have HKC := HKC1
                 clear HKD1 HKC1
                 have qw6 : w6.cell? ⟨w.heap.size, 4, none⟩ = some (.slice (some ⟨b, o, none⟩) 3 kc) := (HKD.out).cell id (HBX.out.cell 4)
                 have fw620 : w6.cell? ⟨b, o + 10, none⟩ = some (.int .u8 kd3) := by have h := HKC.out.cell id (HF.out.2.2.1); simpa using h
                 have fw621 : w6.cell? ⟨b, o + 11, none⟩ = some (.string tx3) := by have h := HKC.out.cell id (HF.out.2.2.2.1); simpa using h
                 have fw622 : w6.cell? ⟨b, o + 12, none⟩ = some (.int .i64 nm3) := by have h := HKC.out.cell id (HF.out.2.2.2.2.1); simpa using h
                 have fw623 : w6.cell? ⟨b, o + 13, none⟩ = some (.int .i64 pl3) := by have h := HKC.out.cell id (HF.out.2.2.2.2.2.1); simpa using h
                 have fw624 : w6.cell? ⟨b, o + 14, none⟩ = some (.slice ka3 kn3 kc3) := by have h := HKC.out.cell id (HF.out.2.2.2.2.2.2); simpa using h
                 clear hk tl2)
              | (go_at_call 54
                 refine (P6.out _ HKC.out).mono ?_
                 rintro e w7 ⟨rfl, hk⟩
                 rw [H5.out]
                 have HKD1 := hide (HKD.out.trans' hk (fun _ _ => id) (fun _ _ => id) : Keeps NoB (w.alloc (.cells #[.int .u8 kd, .string tx, .int .i64 nm, .int .i64 pl, .slice (some ⟨b, o, none⟩) 3 kc] 29)) w7)
                 have HKC1 := hide (HKC.out.trans' hk (fun _ _ => id) (fun _ _ => id) : Keeps NoB w w7)
                 clear HKD HKC
                 have HKD := HKD1; have HKC := HKC1
                 clear HKD1 HKC1
                 clear hk)
              | fail
            go_ret
            exact ⟨by simp, HKC.out⟩
theorem clause_of (t : Nd) (ho : okN t) (H : Smaller t) : Says 42 (okM 2) t := by
  intro w B F kd tx nm pl ka kn kc hL _ ht
  obtain ⟨kids, css, rfl, _, _, _, hkl⟩ := ht.kidsIn
  rw [okM_clause 2 rfl]
  by_cases h : plainN (.mk kd tx nm pl kids) 20 = false ∨ kn ≠ 3
  · have hv : (plainN (.mk kd tx nm pl kids) 20 && decide (kids.length = 3) && okAs [8, 9] 1 kids) = false := by
      rcases h with h | h
      · rw [h]; rfl
      · rw [decide_eq_false (by omega)]; simp
    rw [hv]
    exact clause_short _ w B F kd tx nm pl ka kn kc ht h
  · simp only [not_or, Bool.not_eq_false, Decidable.not_not] at h
    obtain ⟨h1, rfl⟩ := h
    match kids, hkl with
    | [p, g, d], _ =>
      rw [h1, okAs_three]
      exact clause_three _ p g d rfl h1 w B F kd tx nm pl ka kc hL ho ht H
end Go.Proofs.YtincajfanhanjaaDoor
