/- node.kids: whether a node's kids are those of its kind (given the functions on the kids). -/
import Derived.Test.YtincajfanhanjaaDoorWord118
namespace Go.Proofs.YtincajfanhanjaaDoor
open Go.RowKit

theorem okAs_nil (d : Nat) : ∀ ts : List Nd, okAs [] d ts = ts.all (okM d)
  | [] => by unfold okAs; rfl
  | t :: ts => by unfold okAs; rw [List.headD_nil, List.tail_nil, okAs_nil d ts]; rfl
theorem okAs_one (m d : Nat) (t : Nd) (ts : List Nd) : okAs [m] d (t :: ts) = (okM m t && ts.all (okM d)) := by
  unfold okAs
  rw [List.headD_cons, List.tail_cons, okAs_nil]
theorem okAs_rep (m d : Nat) : ∀ (k : Nat) (ts : List Nd), okAs (List.replicate k m) d ts = ((ts.take k).all (okM m) && (ts.drop k).all (okM d))
  | 0, ts => by rw [List.replicate_zero, okAs_nil]; simp
  | k + 1, [] => by unfold okAs; simp
  | k + 1, t :: ts => by
    unfold okAs
    rw [List.replicate_succ, List.headD_cons, List.tail_cons, okAs_rep m d k ts]
    simp [Bool.and_assoc]
theorem Reads.from' {w : World} {B : Nat → Prop} {F : Bool} {b o n c i : Nat} {css : List (List Value)} (h : Reads w B F 5 (some ⟨b, o, none⟩) n css.flatten) (h5 : ∀ c ∈ css, c.length = 5) (hi : i ≤ n) (hc : n ≤ c) :
    Reads w B F 5 (some ⟨b, if c = i then o else o + i * 5, none⟩) (n - i) (css.drop i).flatten := by
  have hl : css.length = n := by have h1 := h.1; rw [flat_len h5] at h1; omega
  refine ⟨by rw [flat_len (fun c hc => h5 c (List.mem_of_mem_drop hc)), List.length_drop, hl], fun hn => ?_⟩
  obtain ⟨ad, e, hs, hB, hlt, hcell⟩ := h.2 (by omega)
  injection e with e
  subst e
  refine ⟨_, rfl, rfl, hB, hlt, fun j u hu => ?_⟩
  rw [flat_drop h5, List.getElem?_drop] at hu
  have h2 := hcell (i * 5 + j) u hu
  rw [if_neg (by omega)]
  rw [← Nat.add_assoc] at h2
  exact h2
theorem Reads.upto' {w : World} {B : Nat → Prop} {F : Bool} {A : Option Addr} {n i : Nat} {css : List (List Value)} (h : Reads w B F 5 A n css.flatten) (h5 : ∀ c ∈ css, c.length = 5) (hi : i ≤ n) : Reads w B F 5 A i (css.take i).flatten := by
  have hl : css.length = n := by have h1 := h.1; rw [flat_len h5] at h1; omega
  refine ⟨by rw [flat_len (fun c hc => h5 c (List.mem_of_mem_take hc)), List.length_take, hl, Nat.min_eq_left hi], fun hn => ?_⟩
  obtain ⟨ad, e, hs, hB, hlt, hcell⟩ := h.2 (by omega)
  refine ⟨ad, e, hs, hB, hlt, fun j u hu => hcell j u ?_⟩
  rw [flat_take h5, List.getElem?_take] at hu
  split at hu
  · exact hu
  · cases hu
theorem NodesIn.drop {w : World} {B : Nat → Prop} {F : Bool} : ∀ {ts : List Nd} {css : List (List Value)} (i : Nat), NodesIn w B F css ts → NodesIn w B F (css.drop i) (ts.drop i)
  | _, _, 0, h => h
  | [], [], i + 1, h => by simpa using h
  | t :: ts, cs :: css, i + 1, h => by unfold NodesIn at h; exact NodesIn.drop i h.2
  | [], _ :: _, _ + 1, h => by unfold NodesIn at h; exact h.elim
  | _ :: _, [], _ + 1, h => by unfold NodesIn at h; exact h.elim
theorem NodesIn.take {w : World} {B : Nat → Prop} {F : Bool} : ∀ {ts : List Nd} {css : List (List Value)} (i : Nat), NodesIn w B F css ts → NodesIn w B F (css.take i) (ts.take i)
  | _, _, 0, _ => by unfold NodesIn; simp
  | [], [], i + 1, h => by simpa using h
  | t :: ts, cs :: css, i + 1, h => by
    unfold NodesIn at h
    rw [List.take_succ_cons, List.take_succ_cons]
    unfold NodesIn
    exact ⟨h.1, NodesIn.take i h.2⟩
  | [], _ :: _, _ + 1, h => by unfold NodesIn at h; exact h.elim
  | _ :: _, [], _ + 1, h => by unfold NodesIn at h; exact h.elim
def BoolP (b : Bool) (w : World) (e : Ending) (w' : World) : Prop := e = .returned (.bool b) ∧ Keeps NoB w w'

set_option maxRecDepth 100000 in
theorem kids_105 (f : Nd → Bool) (t : Nd) (w : World) (B : Nat → Prop) (F : Bool) (kd : Int) (tx : ByteArray) (nm pl : Int) (ka : Option Addr) (kn kc : Nat) (hL : LaidN w) (ht : NodeIn w B F [.int .u8 kd, .string tx, .int .i64 nm, .int .i64 pl, .slice ka kn kc] t) (H : ∀ x ∈ t.kids, Not1 32 f x) :
    Calls Tryd.prog 44 #[.agg #[.int .u8 kd, .string tx, .int .i64 nm, .int .i64 pl, .slice ka kn kc], .int .u8 105] w (BoolP (t.kids.all f) w) := by
  obtain ⟨kids, css, rfl, hroom, hr, hc, hkl⟩ := ht.kidsIn
  have hk : Keeps NoB w (w.alloc (.cells #[.int .u8 kd, .string tx, .int .i64 nm, .int .i64 pl, .slice ka kn kc] 29)) := (Keeps.refl NoB w).alloc _
  have HA := hide (nd_all 32 f kids H css ka kn kc _ B F (hL.keep hk) (hr.keep hk (fun _ _ => id)) (NodesIn.keep hk (fun _ _ => id) _ _ hc) hroom.1)
  have HK := hide hk
  have HV : Hid ((Nd.mk kd tx nm pl kids).kids.all f = kids.all f) := hide rfl
  clear hk hr hc hroom ht hL H
  go_enter Tryd.func44, Tryd.ntmps44
  go_wp2_with
    first
    | (go_at_call 30
       refine HA.out.mono ?_
       rintro e w2 ⟨rfl, hk⟩
       have HK2 := hide (HK.out.trans' hk (fun _ _ => id) (fun _ _ => id) : Keeps NoB w w2)
       clear hk)
    | fail
  go_ret
  exact ⟨by rw [HV.out]; rfl, HK2.out⟩
set_option maxRecDepth 100000 in
theorem kids_99 (f : Nd → Bool) (t : Nd) (w : World) (B : Nat → Prop) (F : Bool) (kd : Int) (tx : ByteArray) (nm pl : Int) (ka : Option Addr) (kn kc : Nat) (hL : LaidN w) (ht : NodeIn w B F [.int .u8 kd, .string tx, .int .i64 nm, .int .i64 pl, .slice ka kn kc] t) (H : ∀ x ∈ t.kids, Not1 42 f x) :
    Calls Tryd.prog 44 #[.agg #[.int .u8 kd, .string tx, .int .i64 nm, .int .i64 pl, .slice ka kn kc], .int .u8 99] w (BoolP (t.kids.all f) w) := by
  obtain ⟨kids, css, rfl, hroom, hr, hc, hkl⟩ := ht.kidsIn
  have hk : Keeps NoB w (w.alloc (.cells #[.int .u8 kd, .string tx, .int .i64 nm, .int .i64 pl, .slice ka kn kc] 29)) := (Keeps.refl NoB w).alloc _
  have HA := hide (nd_all 42 f kids H css ka kn kc _ B F (hL.keep hk) (hr.keep hk (fun _ _ => id)) (NodesIn.keep hk (fun _ _ => id) _ _ hc) hroom.1)
  have HK := hide hk
  have HV : Hid ((Nd.mk kd tx nm pl kids).kids.all f = kids.all f) := hide rfl
  clear hk hr hc hroom ht hL H
  go_enter Tryd.func44, Tryd.ntmps44
  go_wp2_with
    first
    | (go_at_call 30
       refine HA.out.mono ?_
       rintro e w2 ⟨rfl, hk⟩
       have HK2 := hide (HK.out.trans' hk (fun _ _ => id) (fun _ _ => id) : Keeps NoB w w2)
       clear hk)
    | fail
  go_ret
  exact ⟨by rw [HV.out]; rfl, HK2.out⟩
set_option maxRecDepth 100000 in
theorem kids_103 (f : Nd → Bool) (t : Nd) (w : World) (B : Nat → Prop) (F : Bool) (kd : Int) (tx : ByteArray) (nm pl : Int) (ka : Option Addr) (kn kc : Nat) (hL : LaidN w) (ht : NodeIn w B F [.int .u8 kd, .string tx, .int .i64 nm, .int .i64 pl, .slice ka kn kc] t) (H : ∀ x ∈ t.kids, Not1 58 f x) :
    Calls Tryd.prog 44 #[.agg #[.int .u8 kd, .string tx, .int .i64 nm, .int .i64 pl, .slice ka kn kc], .int .u8 103] w (BoolP (t.kids.all f) w) := by
  obtain ⟨kids, css, rfl, hroom, hr, hc, hkl⟩ := ht.kidsIn
  have hk : Keeps NoB w (w.alloc (.cells #[.int .u8 kd, .string tx, .int .i64 nm, .int .i64 pl, .slice ka kn kc] 29)) := (Keeps.refl NoB w).alloc _
  have HA := hide (nd_all 58 f kids H css ka kn kc _ B F (hL.keep hk) (hr.keep hk (fun _ _ => id)) (NodesIn.keep hk (fun _ _ => id) _ _ hc) hroom.1)
  have HK := hide hk
  have HV : Hid ((Nd.mk kd tx nm pl kids).kids.all f = kids.all f) := hide rfl
  clear hk hr hc hroom ht hL H
  go_enter Tryd.func44, Tryd.ntmps44
  go_wp2_with
    first
    | (go_at_call 30
       refine HA.out.mono ?_
       rintro e w2 ⟨rfl, hk⟩
       have HK2 := hide (HK.out.trans' hk (fun _ _ => id) (fun _ _ => id) : Keeps NoB w w2)
       clear hk)
    | fail
  go_ret
  exact ⟨by rw [HV.out]; rfl, HK2.out⟩

set_option maxRecDepth 100000 in
theorem kids_0 (w : World) (kd : Int) (tx : ByteArray) (nm pl : Int) (ka : Option Addr) (kn kc : Nat) : Calls Tryd.prog 44 #[.agg #[.int .u8 kd, .string tx, .int .i64 nm, .int .i64 pl, .slice ka kn kc], .int .u8 0] w (BoolP true w) := by
  have HK := hide ((Keeps.refl NoB w).alloc (.cells #[.int .u8 kd, .string tx, .int .i64 nm, .int .i64 pl, .slice ka kn kc] 29))
  go_enter Tryd.func44, Tryd.ntmps44
  go_wp2
  go_ret
  exact ⟨rfl, HK.out⟩

set_option maxRecDepth 100000 in
set_option maxHeartbeats 1000000 in
theorem kids_101 (f g : Nd → Bool) (a : Nd) (l : List Nd) (w : World) (B : Nat → Prop) (F : Bool) (kd : Int) (tx : ByteArray) (nm pl : Int) (ka : Option Addr) (kn kc : Nat) (hL : LaidN w) (ht : NodeIn w B F [.int .u8 kd, .string tx, .int .i64 nm, .int .i64 pl, .slice ka kn kc] (.mk kd tx nm pl (a :: l))) (oa : okN a) (Ha : Says 32 f a) (H : ∀ x ∈ l, Not1 57 g x) :
    Calls Tryd.prog 44 #[.agg #[.int .u8 kd, .string tx, .int .i64 nm, .int .i64 pl, .slice ka kn kc], .int .u8 101] w (BoolP (f a && l.all g) w) := by
  obtain ⟨kids, css, e0, hroom, hr, hc, hkl⟩ := ht.kidsIn
  injection e0 with _ _ _ _ e0
  subst e0
  obtain ⟨n, rfl⟩ : ∃ n, kn = n + 1 := ⟨l.length, by simpa using hkl.symm⟩
  obtain ⟨b, o, kd1, tx1, nm1, pl1, ka1, kn1, kc1, t1, hA, hB, hbl, e1, _, hu, f0, f1, f2, f3, f4⟩ := node_at hr hc 0 (by omega)
  obtain rfl : a = t1 := by simpa using e1
  subst hA
  have hk : Keeps NoB w (w.alloc (.cells #[.int .u8 kd, .string tx, .int .i64 nm, .int .i64 pl, .slice (some ⟨b, o, none⟩) (n + 1) kc] 29)) := (Keeps.refl NoB w).alloc _
  have g0 : (w.alloc (.cells #[.int .u8 kd, .string tx, .int .i64 nm, .int .i64 pl, .slice (some ⟨b, o, none⟩) (n + 1) kc] 29)).cell? ⟨b, o, none⟩ = some (.int .u8 kd1) := by have h := hk.cell id f0; simpa using h
  have g1 : (w.alloc (.cells #[.int .u8 kd, .string tx, .int .i64 nm, .int .i64 pl, .slice (some ⟨b, o, none⟩) (n + 1) kc] 29)).cell? ⟨b, o + 1, none⟩ = some (.string tx1) := by have h := hk.cell id f1; simpa using h
  have g2 : (w.alloc (.cells #[.int .u8 kd, .string tx, .int .i64 nm, .int .i64 pl, .slice (some ⟨b, o, none⟩) (n + 1) kc] 29)).cell? ⟨b, o + 2, none⟩ = some (.int .i64 nm1) := by have h := hk.cell id f2; simpa using h
  have g3 : (w.alloc (.cells #[.int .u8 kd, .string tx, .int .i64 nm, .int .i64 pl, .slice (some ⟨b, o, none⟩) (n + 1) kc] 29)).cell? ⟨b, o + 3, none⟩ = some (.int .i64 pl1) := by have h := hk.cell id f3; simpa using h
  have g4 : (w.alloc (.cells #[.int .u8 kd, .string tx, .int .i64 nm, .int .i64 pl, .slice (some ⟨b, o, none⟩) (n + 1) kc] 29)).cell? ⟨b, o + 4, none⟩ = some (.slice ka1 kn1 kc1) := by have h := hk.cell id f4; simpa using h
  have HSAY := hide (Ha (w.alloc (.cells #[.int .u8 kd, .string tx, .int .i64 nm, .int .i64 pl, .slice (some ⟨b, o, none⟩) (n + 1) kc] 29)) B F kd1 tx1 nm1 pl1 ka1 kn1 kc1 (hL.keep hk) oa (NodeIn.keep hk (fun _ _ => id) _ _ hu))
  have hr1 := (hr.keep hk (fun _ _ => id)).from' hc.lens.2 (i := 1) (c := kc) (by omega) hroom.2
  rw [show (some ⟨b, if kc = 1 then o else o + 1 * 5, none⟩ : Option Addr) = if kc = 1 then some ⟨b, o, none⟩ else some ⟨b, o + 5, none⟩ by split <;> rfl, Nat.add_sub_cancel] at hr1
  have HR := hide hr1
  clear hr1
  have HC := hide (NodesIn.drop 1 (NodesIn.keep hk (fun _ _ => id) _ _ hc))
  have HK := hide hk; have HL := hide (hL.keep hk); have HH := hide H
  have HRO : Hid (Roomy n 64) := hide (hroom.1.of_le (by omega))
  have hkc : n + 1 ≤ kc := hroom.2
  have hkc1 : ((n : Int) + 1) ≤ (kc : Int) := by omega
  clear hL ht hroom hr hc hkl e1 hu f0 f1 f2 f3 f4 hk H Ha oa hB
  cases ha : f a with
  | false =>
    have HA := hide ha
    clear ha
    go_enter Tryd.func44, Tryd.ntmps44
    go_wp2_with
      first
      | (go_at_call 32
         refine HSAY.out.mono ?_
         rintro e w2 ⟨rfl, hk⟩
         rw [HA.out]
         have HK2 := hide (HK.out.trans' hk (fun _ _ => id) (fun _ _ => id) : Keeps NoB w w2)
         clear hk)
      | fail
    go_ret
    exact ⟨rfl, HK2.out⟩
  | true =>
    have HA := hide ha
    clear ha
    go_enter Tryd.func44, Tryd.ntmps44
    go_wp2_with
      first
      | (go_at_call 32
         refine HSAY.out.mono ?_
         rintro e w2 ⟨rfl, hk⟩
         rw [HA.out]
         have HK2 := hide hk
         clear hk)
      | (go_at_call 30
         refine (nd_all 57 g l (by simpa using HH.out) _ _ _ _ w2 B F (HL.out.keep HK2.out) (HR.out.keep HK2.out (fun _ _ => id)) (by have h := NodesIn.keep HK2.out (fun _ _ => id) _ _ HC.out; simpa using h) HRO.out).mono ?_
         rintro e w3 ⟨rfl, hk⟩
         have HK3 := hide ((HK.out.trans' HK2.out (fun _ _ => id) (fun _ _ => id) : Keeps NoB w w2).trans' hk (fun _ _ => id) (fun _ _ => id) : Keeps NoB w w3)
         clear hk)
      | fail
    all_goals
      go_ret
      exact ⟨by simp, HK3.out⟩
set_option maxRecDepth 100000 in
set_option maxHeartbeats 1000000 in
theorem kids_113 (f g : Nd → Bool) (a : Nd) (l : List Nd) (w : World) (B : Nat → Prop) (F : Bool) (kd : Int) (tx : ByteArray) (nm pl : Int) (ka : Option Addr) (kn kc : Nat) (hL : LaidN w) (ht : NodeIn w B F [.int .u8 kd, .string tx, .int .i64 nm, .int .i64 pl, .slice ka kn kc] (.mk kd tx nm pl (a :: l))) (oa : okN a) (Ha : Says 32 f a) (H : ∀ x ∈ l, Not1 61 g x) :
    Calls Tryd.prog 44 #[.agg #[.int .u8 kd, .string tx, .int .i64 nm, .int .i64 pl, .slice ka kn kc], .int .u8 113] w (BoolP (f a && l.all g) w) := by
  obtain ⟨kids, css, e0, hroom, hr, hc, hkl⟩ := ht.kidsIn
  injection e0 with _ _ _ _ e0
  subst e0
  obtain ⟨n, rfl⟩ : ∃ n, kn = n + 1 := ⟨l.length, by simpa using hkl.symm⟩
  obtain ⟨b, o, kd1, tx1, nm1, pl1, ka1, kn1, kc1, t1, hA, hB, hbl, e1, _, hu, f0, f1, f2, f3, f4⟩ := node_at hr hc 0 (by omega)
  obtain rfl : a = t1 := by simpa using e1
  subst hA
  have hk : Keeps NoB w (w.alloc (.cells #[.int .u8 kd, .string tx, .int .i64 nm, .int .i64 pl, .slice (some ⟨b, o, none⟩) (n + 1) kc] 29)) := (Keeps.refl NoB w).alloc _
  have g0 : (w.alloc (.cells #[.int .u8 kd, .string tx, .int .i64 nm, .int .i64 pl, .slice (some ⟨b, o, none⟩) (n + 1) kc] 29)).cell? ⟨b, o, none⟩ = some (.int .u8 kd1) := by have h := hk.cell id f0; simpa using h
  have g1 : (w.alloc (.cells #[.int .u8 kd, .string tx, .int .i64 nm, .int .i64 pl, .slice (some ⟨b, o, none⟩) (n + 1) kc] 29)).cell? ⟨b, o + 1, none⟩ = some (.string tx1) := by have h := hk.cell id f1; simpa using h
  have g2 : (w.alloc (.cells #[.int .u8 kd, .string tx, .int .i64 nm, .int .i64 pl, .slice (some ⟨b, o, none⟩) (n + 1) kc] 29)).cell? ⟨b, o + 2, none⟩ = some (.int .i64 nm1) := by have h := hk.cell id f2; simpa using h
  have g3 : (w.alloc (.cells #[.int .u8 kd, .string tx, .int .i64 nm, .int .i64 pl, .slice (some ⟨b, o, none⟩) (n + 1) kc] 29)).cell? ⟨b, o + 3, none⟩ = some (.int .i64 pl1) := by have h := hk.cell id f3; simpa using h
  have g4 : (w.alloc (.cells #[.int .u8 kd, .string tx, .int .i64 nm, .int .i64 pl, .slice (some ⟨b, o, none⟩) (n + 1) kc] 29)).cell? ⟨b, o + 4, none⟩ = some (.slice ka1 kn1 kc1) := by have h := hk.cell id f4; simpa using h
  have HSAY := hide (Ha (w.alloc (.cells #[.int .u8 kd, .string tx, .int .i64 nm, .int .i64 pl, .slice (some ⟨b, o, none⟩) (n + 1) kc] 29)) B F kd1 tx1 nm1 pl1 ka1 kn1 kc1 (hL.keep hk) oa (NodeIn.keep hk (fun _ _ => id) _ _ hu))
  have hr1 := (hr.keep hk (fun _ _ => id)).from' hc.lens.2 (i := 1) (c := kc) (by omega) hroom.2
  rw [show (some ⟨b, if kc = 1 then o else o + 1 * 5, none⟩ : Option Addr) = if kc = 1 then some ⟨b, o, none⟩ else some ⟨b, o + 5, none⟩ by split <;> rfl, Nat.add_sub_cancel] at hr1
  have HR := hide hr1
  clear hr1
  have HC := hide (NodesIn.drop 1 (NodesIn.keep hk (fun _ _ => id) _ _ hc))
  have HK := hide hk; have HL := hide (hL.keep hk); have HH := hide H
  have HRO : Hid (Roomy n 64) := hide (hroom.1.of_le (by omega))
  have hkc : n + 1 ≤ kc := hroom.2
  have hkc1 : ((n : Int) + 1) ≤ (kc : Int) := by omega
  clear hL ht hroom hr hc hkl e1 hu f0 f1 f2 f3 f4 hk H Ha oa hB
  cases ha : f a with
  | false =>
    have HA := hide ha
    clear ha
    go_enter Tryd.func44, Tryd.ntmps44
    go_wp2_with
      first
      | (go_at_call 32
         refine HSAY.out.mono ?_
         rintro e w2 ⟨rfl, hk⟩
         rw [HA.out]
         have HK2 := hide (HK.out.trans' hk (fun _ _ => id) (fun _ _ => id) : Keeps NoB w w2)
         clear hk)
      | fail
    go_ret
    exact ⟨rfl, HK2.out⟩
  | true =>
    have HA := hide ha
    clear ha
    go_enter Tryd.func44, Tryd.ntmps44
    go_wp2_with
      first
      | (go_at_call 32
         refine HSAY.out.mono ?_
         rintro e w2 ⟨rfl, hk⟩
         rw [HA.out]
         have HK2 := hide hk
         clear hk)
      | (go_at_call 30
         refine (nd_all 61 g l (by simpa using HH.out) _ _ _ _ w2 B F (HL.out.keep HK2.out) (HR.out.keep HK2.out (fun _ _ => id)) (by have h := NodesIn.keep HK2.out (fun _ _ => id) _ _ HC.out; simpa using h) HRO.out).mono ?_
         rintro e w3 ⟨rfl, hk⟩
         have HK3 := hide ((HK.out.trans' HK2.out (fun _ _ => id) (fun _ _ => id) : Keeps NoB w w2).trans' hk (fun _ _ => id) (fun _ _ => id) : Keeps NoB w w3)
         clear hk)
      | fail
    all_goals
      go_ret
      exact ⟨by simp, HK3.out⟩
set_option maxRecDepth 100000 in
set_option maxHeartbeats 1000000 in
theorem kids_116 (f g : Nd → Bool) (a : Nd) (l : List Nd) (w : World) (B : Nat → Prop) (F : Bool) (kd : Int) (tx : ByteArray) (nm pl : Int) (ka : Option Addr) (kn kc : Nat) (hL : LaidN w) (ht : NodeIn w B F [.int .u8 kd, .string tx, .int .i64 nm, .int .i64 pl, .slice ka kn kc] (.mk kd tx nm pl (a :: l))) (oa : okN a) (Ha : Says 54 f a) (H : ∀ x ∈ l, Not1 60 g x) :
    Calls Tryd.prog 44 #[.agg #[.int .u8 kd, .string tx, .int .i64 nm, .int .i64 pl, .slice ka kn kc], .int .u8 116] w (BoolP (f a && l.all g) w) := by
  obtain ⟨kids, css, e0, hroom, hr, hc, hkl⟩ := ht.kidsIn
  injection e0 with _ _ _ _ e0
  subst e0
  obtain ⟨n, rfl⟩ : ∃ n, kn = n + 1 := ⟨l.length, by simpa using hkl.symm⟩
  obtain ⟨b, o, kd1, tx1, nm1, pl1, ka1, kn1, kc1, t1, hA, hB, hbl, e1, _, hu, f0, f1, f2, f3, f4⟩ := node_at hr hc 0 (by omega)
  obtain rfl : a = t1 := by simpa using e1
  subst hA
  have hk : Keeps NoB w (w.alloc (.cells #[.int .u8 kd, .string tx, .int .i64 nm, .int .i64 pl, .slice (some ⟨b, o, none⟩) (n + 1) kc] 29)) := (Keeps.refl NoB w).alloc _
  have g0 : (w.alloc (.cells #[.int .u8 kd, .string tx, .int .i64 nm, .int .i64 pl, .slice (some ⟨b, o, none⟩) (n + 1) kc] 29)).cell? ⟨b, o, none⟩ = some (.int .u8 kd1) := by have h := hk.cell id f0; simpa using h
  have g1 : (w.alloc (.cells #[.int .u8 kd, .string tx, .int .i64 nm, .int .i64 pl, .slice (some ⟨b, o, none⟩) (n + 1) kc] 29)).cell? ⟨b, o + 1, none⟩ = some (.string tx1) := by have h := hk.cell id f1; simpa using h
  have g2 : (w.alloc (.cells #[.int .u8 kd, .string tx, .int .i64 nm, .int .i64 pl, .slice (some ⟨b, o, none⟩) (n + 1) kc] 29)).cell? ⟨b, o + 2, none⟩ = some (.int .i64 nm1) := by have h := hk.cell id f2; simpa using h
  have g3 : (w.alloc (.cells #[.int .u8 kd, .string tx, .int .i64 nm, .int .i64 pl, .slice (some ⟨b, o, none⟩) (n + 1) kc] 29)).cell? ⟨b, o + 3, none⟩ = some (.int .i64 pl1) := by have h := hk.cell id f3; simpa using h
  have g4 : (w.alloc (.cells #[.int .u8 kd, .string tx, .int .i64 nm, .int .i64 pl, .slice (some ⟨b, o, none⟩) (n + 1) kc] 29)).cell? ⟨b, o + 4, none⟩ = some (.slice ka1 kn1 kc1) := by have h := hk.cell id f4; simpa using h
  have HSAY := hide (Ha (w.alloc (.cells #[.int .u8 kd, .string tx, .int .i64 nm, .int .i64 pl, .slice (some ⟨b, o, none⟩) (n + 1) kc] 29)) B F kd1 tx1 nm1 pl1 ka1 kn1 kc1 (hL.keep hk) oa (NodeIn.keep hk (fun _ _ => id) _ _ hu))
  have hr1 := (hr.keep hk (fun _ _ => id)).from' hc.lens.2 (i := 1) (c := kc) (by omega) hroom.2
  rw [show (some ⟨b, if kc = 1 then o else o + 1 * 5, none⟩ : Option Addr) = if kc = 1 then some ⟨b, o, none⟩ else some ⟨b, o + 5, none⟩ by split <;> rfl, Nat.add_sub_cancel] at hr1
  have HR := hide hr1
  clear hr1
  have HC := hide (NodesIn.drop 1 (NodesIn.keep hk (fun _ _ => id) _ _ hc))
  have HK := hide hk; have HL := hide (hL.keep hk); have HH := hide H
  have HRO : Hid (Roomy n 64) := hide (hroom.1.of_le (by omega))
  have hkc : n + 1 ≤ kc := hroom.2
  have hkc1 : ((n : Int) + 1) ≤ (kc : Int) := by omega
  clear hL ht hroom hr hc hkl e1 hu f0 f1 f2 f3 f4 hk H Ha oa hB
  cases ha : f a with
  | false =>
    have HA := hide ha
    clear ha
    go_enter Tryd.func44, Tryd.ntmps44
    go_wp2_with
      first
      | (go_at_call 54
         refine HSAY.out.mono ?_
         rintro e w2 ⟨rfl, hk⟩
         rw [HA.out]
         have HK2 := hide (HK.out.trans' hk (fun _ _ => id) (fun _ _ => id) : Keeps NoB w w2)
         clear hk)
      | fail
    go_ret
    exact ⟨rfl, HK2.out⟩
  | true =>
    have HA := hide ha
    clear ha
    go_enter Tryd.func44, Tryd.ntmps44
    go_wp2_with
      first
      | (go_at_call 54
         refine HSAY.out.mono ?_
         rintro e w2 ⟨rfl, hk⟩
         rw [HA.out]
         have HK2 := hide hk
         clear hk)
      | (go_at_call 30
         refine (nd_all 60 g l (by simpa using HH.out) _ _ _ _ w2 B F (HL.out.keep HK2.out) (HR.out.keep HK2.out (fun _ _ => id)) (by have h := NodesIn.keep HK2.out (fun _ _ => id) _ _ HC.out; simpa using h) HRO.out).mono ?_
         rintro e w3 ⟨rfl, hk⟩
         have HK3 := hide ((HK.out.trans' HK2.out (fun _ _ => id) (fun _ _ => id) : Keeps NoB w w2).trans' hk (fun _ _ => id) (fun _ _ => id) : Keeps NoB w w3)
         clear hk)
      | fail
    all_goals
      go_ret
      exact ⟨by simp, HK3.out⟩

set_option maxRecDepth 100000 in
set_option maxHeartbeats 1000000 in
theorem kids_114_0 (f g : Nd → Bool) (a : Nd) (l : List Nd) (w : World) (B : Nat → Prop) (F : Bool) (kd : Int) (tx : ByteArray) (pl : Int) (ka : Option Addr) (kn kc : Nat) (hL : LaidN w) (ht : NodeIn w B F [.int .u8 kd, .string tx, .int .i64 0, .int .i64 pl, .slice ka kn kc] (.mk kd tx 0 pl (a :: l))) (Hf : ∀ x ∈ (a :: l), Not1 57 f x) (Hg : ∀ x ∈ (a :: l), Not1 59 g x) :
    Calls Tryd.prog 44 #[.agg #[.int .u8 kd, .string tx, .int .i64 0, .int .i64 pl, .slice ka kn kc], .int .u8 114] w (BoolP (((a :: l).take (kn - 0)).all f && ((a :: l).drop (kn - 0)).all g) w) := by
  obtain ⟨kids, css, e0, hroom, hr, hc, hkl⟩ := ht.kidsIn
  injection e0 with _ _ _ _ e0
  subst e0
  obtain ⟨n, rfl⟩ : ∃ n, kn = n + 1 := ⟨l.length, by simpa using hkl.symm⟩
  obtain ⟨b, o, kd1, tx1, nm1, pl1, ka1, kn1, kc1, t1, hA, hB, hbl, e1, _, hu, f0, f1, f2, f3, f4⟩ := node_at hr hc 0 (by omega)
  subst hA
  have hk : Keeps NoB w (w.alloc (.cells #[.int .u8 kd, .string tx, .int .i64 0, .int .i64 pl, .slice (some ⟨b, o, none⟩) (n + 1) kc] 29)) := (Keeps.refl NoB w).alloc _
  have hkc : n + 1 ≤ kc := hroom.2
  have hkc1 : ((n : Int) + 1) ≤ (kc : Int) := by omega
  have HK := hide hk
  have hn9 : n ≤ 9223372036854775800 := by have := hroom.1; unfold Roomy at this; omega
  clear f0 f1 f2 f3 f4 hu e1
  have HALL := hide (nd_all 57 f ((a :: l).take (n + 1 - 0)) (fun x hx => Hf x (List.mem_of_mem_take hx)) (css.take (n + 1 - 0)) (some ⟨b, o, none⟩) (n + 1 - 0) kc _ B F (hL.keep hk) ((hr.keep hk (fun _ _ => id)).upto' hc.lens.2 (by omega)) (NodesIn.take _ (NodesIn.keep hk (fun _ _ => id) _ _ hc)) (hroom.1.of_le (by omega)))
  have HFROM : Hid (n + 1 - 0 ≤ n + 1) := hide (by omega)
  have hfr := (hr.keep hk (fun _ _ => id)).from' hc.lens.2 (i := n + 1 - 0) (c := kc) (by omega) hroom.2
  have HFR := hide hfr
  have HDR := hide (NodesIn.drop (n + 1 - 0) (NodesIn.keep hk (fun _ _ => id) _ _ hc))
  have HL := hide (hL.keep hk); have HG := hide Hg
  have HRO : Hid (Roomy (n + 1) 64) := hide hroom.1
  have HCL : Hid (css.length = n + 1) := hide (by have := hc.lens.1; omega)
  obtain ⟨q, hq⟩ : ∃ q, ((a :: l).take (n + 1 - 0)).all f = q := ⟨_, rfl⟩
  rw [hq] at HALL ⊢
  obtain ⟨W1, hW1⟩ : ∃ W1, (w.alloc (.cells #[.int .u8 kd, .string tx, .int .i64 0, .int .i64 pl, .slice (some ⟨b, o, none⟩) (n + 1) kc] 29)) = W1 := ⟨_, rfl⟩
  clear hL ht hroom hr hc hkl Hf Hg hB hbl hq hfr hk hW1
  cases q with
  | false =>
    go_enter Tryd.func44, Tryd.ntmps44
    go_wp2_with
      first
      | (go_at_call 30
         refine HALL.out.mono ?_
         rintro e w2 ⟨rfl, hk2⟩
         have HK2 := hide (HK.out.trans' hk2 (fun _ _ => id) (fun _ _ => id) : Keeps NoB w w2)
         clear hk2)
      | fail
    go_ret
    exact ⟨by simp, HK2.out⟩
  | true =>
    go_enter Tryd.func44, Tryd.ntmps44
    have tok : True := trivial
    go_wp2_with
      first
      | (go_at_call 30
         have _t := tok
         refine HALL.out.mono ?_
         rintro e w2 ⟨rfl, hk2⟩
         have HK2 := hide hk2
         have HK3 := hide (HK.out.trans' hk2 (fun _ _ => id) (fun _ _ => id) : Keeps NoB w w2)
         clear hk2 tok)
      | fail
    all_goals
      refine (nd_all 59 g ((a :: l).drop (n + 1 - 0)) (fun x hx => HG.out x (List.mem_of_mem_drop hx)) (css.drop (n + 1 - 0)) _ _ _ w2 B F (HL.out.keep HK2.out) (by rw [show css.drop (n + 1 - 0) = [] from List.drop_of_length_le (by have := HCL.out; omega)]; exact Reads.zero _ _ _ _ _) (NodesIn.keep HK2.out (fun _ _ => id) _ _ HDR.out) (HRO.out.of_le (by omega))).mono ?_
      rintro e w3 ⟨rfl, hk3⟩
      have HK4 := hide (HK3.out.trans' hk3 (fun _ _ => id) (fun _ _ => id) : Keeps NoB w w3)
      clear hk3
      go_wp2
      go_ret
      exact ⟨by simp, HK4.out⟩
set_option maxRecDepth 100000 in
set_option maxHeartbeats 1000000 in
theorem kids_114_1 (f g : Nd → Bool) (a : Nd) (l : List Nd) (w : World) (B : Nat → Prop) (F : Bool) (kd : Int) (tx : ByteArray) (pl : Int) (ka : Option Addr) (kn kc : Nat) (hL : LaidN w) (ht : NodeIn w B F [.int .u8 kd, .string tx, .int .i64 1, .int .i64 pl, .slice ka kn kc] (.mk kd tx 1 pl (a :: l))) (Hf : ∀ x ∈ (a :: l), Not1 57 f x) (Hg : ∀ x ∈ (a :: l), Not1 59 g x) :
    Calls Tryd.prog 44 #[.agg #[.int .u8 kd, .string tx, .int .i64 1, .int .i64 pl, .slice ka kn kc], .int .u8 114] w (BoolP (((a :: l).take (kn - 1)).all f && ((a :: l).drop (kn - 1)).all g) w) := by
  obtain ⟨kids, css, e0, hroom, hr, hc, hkl⟩ := ht.kidsIn
  injection e0 with _ _ _ _ e0
  subst e0
  obtain ⟨n, rfl⟩ : ∃ n, kn = n + 1 := ⟨l.length, by simpa using hkl.symm⟩
  obtain ⟨b, o, kd1, tx1, nm1, pl1, ka1, kn1, kc1, t1, hA, hB, hbl, e1, _, hu, f0, f1, f2, f3, f4⟩ := node_at hr hc 0 (by omega)
  subst hA
  have hk : Keeps NoB w (w.alloc (.cells #[.int .u8 kd, .string tx, .int .i64 1, .int .i64 pl, .slice (some ⟨b, o, none⟩) (n + 1) kc] 29)) := (Keeps.refl NoB w).alloc _
  have hkc : n + 1 ≤ kc := hroom.2
  have hkc1 : ((n : Int) + 1) ≤ (kc : Int) := by omega
  have HK := hide hk
  have hn9 : n ≤ 9223372036854775800 := by have := hroom.1; unfold Roomy at this; omega
  clear f0 f1 f2 f3 f4 hu e1
  have HALL := hide (nd_all 57 f ((a :: l).take (n + 1 - 1)) (fun x hx => Hf x (List.mem_of_mem_take hx)) (css.take (n + 1 - 1)) (some ⟨b, o, none⟩) (n + 1 - 1) kc _ B F (hL.keep hk) ((hr.keep hk (fun _ _ => id)).upto' hc.lens.2 (by omega)) (NodesIn.take _ (NodesIn.keep hk (fun _ _ => id) _ _ hc)) (hroom.1.of_le (by omega)))
  have HFROM : Hid (n + 1 - 1 ≤ n + 1) := hide (by omega)
  have hfr := (hr.keep hk (fun _ _ => id)).from' hc.lens.2 (i := n + 1 - 1) (c := kc) (by omega) hroom.2
  have HFR := hide hfr
  have HDR := hide (NodesIn.drop (n + 1 - 1) (NodesIn.keep hk (fun _ _ => id) _ _ hc))
  have HL := hide (hL.keep hk); have HG := hide Hg
  have HRO : Hid (Roomy (n + 1) 64) := hide hroom.1
  have HCL : Hid (css.length = n + 1) := hide (by have := hc.lens.1; omega)
  obtain ⟨q, hq⟩ : ∃ q, ((a :: l).take (n + 1 - 1)).all f = q := ⟨_, rfl⟩
  rw [hq] at HALL ⊢
  obtain ⟨W1, hW1⟩ : ∃ W1, (w.alloc (.cells #[.int .u8 kd, .string tx, .int .i64 1, .int .i64 pl, .slice (some ⟨b, o, none⟩) (n + 1) kc] 29)) = W1 := ⟨_, rfl⟩
  clear hL ht hroom hr hc hkl Hf Hg hB hbl hq hfr hk hW1
  cases q with
  | false =>
    go_enter Tryd.func44, Tryd.ntmps44
    go_wp2_with
      first
      | (go_at_call 30
         refine HALL.out.mono ?_
         rintro e w2 ⟨rfl, hk2⟩
         have HK2 := hide (HK.out.trans' hk2 (fun _ _ => id) (fun _ _ => id) : Keeps NoB w w2)
         clear hk2)
      | fail
    go_ret
    exact ⟨by simp, HK2.out⟩
  | true =>
    go_enter Tryd.func44, Tryd.ntmps44
    have tok : True := trivial
    go_wp2_with
      first
      | (go_at_call 30
         have _t := tok
         refine HALL.out.mono ?_
         rintro e w2 ⟨rfl, hk2⟩
         have HK2 := hide hk2
         have HK3 := hide (HK.out.trans' hk2 (fun _ _ => id) (fun _ _ => id) : Keeps NoB w w2)
         clear hk2 tok)
      | fail
    all_goals
      refine (nd_all 59 g ((a :: l).drop (n + 1 - 1)) (fun x hx => HG.out x (List.mem_of_mem_drop hx)) (css.drop (n + 1 - 1)) _ _ _ w2 B F (HL.out.keep HK2.out) (by have h := HFR.out.keep HK2.out (fun _ _ => id); rw [if_neg (by omega)] at h; simpa using h) (NodesIn.keep HK2.out (fun _ _ => id) _ _ HDR.out) (HRO.out.of_le (by omega))).mono ?_
      rintro e w3 ⟨rfl, hk3⟩
      have HK4 := hide (HK3.out.trans' hk3 (fun _ _ => id) (fun _ _ => id) : Keeps NoB w w3)
      clear hk3
      go_wp2
      go_ret
      exact ⟨by simp, HK4.out⟩
end Go.Proofs.YtincajfanhanjaaDoor
