/- term.Compare, term.Same: their contracts. Right terms that stand as one in the order are one. Plain law on trees. bif's small functions: their contracts. Printed by mkbifs.py. -/
import Derived.Test.YtjdbjjjbgibpaaaGreatDoorOrdJn
import Derived.Test.YtjdbjjjbgibpaaaGreatDoorTmSizeJn
namespace Go.Proofs.YtjdbjjjbgibpaaaGreatDoor
set_option maxRecDepth 100000
open Go.RowKit

/-- term.Compare -/
def compT (a b : Tm) : Int := if rightT a = true ∧ rightT b = true then orderT a b else 0
/-- term.Same -/
def sameT (a b : Tm) : Bool := rightT a && (rightT b && decide (orderT a b = 0))
set_option maxRecDepth 100000 in
theorem same_any (a b : Tm) (hoa : okT a) (hob : okT b) (w : World) (B B' : Nat → Prop) (F F' : Bool) (kd : Int) (ng : Bool) (la : Option Addr) (ln lc : Nat) (tx : ByteArray) (nm : Int) (ia : Option Addr) (im ic : Nat) (ta : Option Addr) (tn tc : Nat) (kd' : Int) (ng' : Bool) (la' : Option Addr) (ln' lc' : Nat) (tx' : ByteArray) (nm' : Int) (ia' : Option Addr) (im' ic' : Nat) (ta' : Option Addr) (tn' tc' : Nat) (ha : TermIn w B F [.int .u8 kd, .bool ng, .slice la ln lc, .string tx, .int .i64 nm, .slice ia im ic, .slice ta tn tc] a) (hb : TermIn w B' F' [.int .u8 kd', .bool ng', .slice la' ln' lc', .string tx', .int .i64 nm', .slice ia' im' ic', .slice ta' tn' tc'] b) : Calls Tryz.prog 12 #[.agg #[.int .u8 kd, .bool ng, .slice la ln lc, .string tx, .int .i64 nm, .slice ia im ic, .slice ta tn tc], .agg #[.int .u8 kd', .bool ng', .slice la' ln' lc', .string tx', .int .i64 nm', .slice ia' im' ic', .slice ta' tn' tc']] w fun e w' => e = .returned (.bool (sameT a b)) ∧ Keeps NoB w w' := by
  have HK0 := hide (((Keeps.refl NoB w).alloc (.cells #[.int .u8 kd, .bool ng, .slice la ln lc, .string tx, .int .i64 nm, .slice ia im ic, .slice ta tn tc] 26)).alloc (.cells #[.int .u8 kd', .bool ng', .slice la' ln' lc', .string tx', .int .i64 nm', .slice ia' im' ic', .slice ta' tn' tc'] 26))
  have HA0 := hide (two_tblks w 26 26 #[.int .u8 kd, .bool ng, .slice la ln lc, .string tx, .int .i64 nm, .slice ia im ic, .slice ta tn tc] #[.int .u8 kd', .bool ng', .slice la' ln' lc', .string tx', .int .i64 nm', .slice ia' im' ic', .slice ta' tn' tc']).1; have HB0 := hide (two_tblks w 26 26 #[.int .u8 kd, .bool ng, .slice la ln lc, .string tx, .int .i64 nm, .slice ia im ic, .slice ta tn tc] #[.int .u8 kd', .bool ng', .slice la' ln' lc', .string tx', .int .i64 nm', .slice ia' im' ic', .slice ta' tn' tc']).2
  have HHA := hide ha; have HHB := hide hb; have HOA := hide hoa; have HOB := hide hob
  have M1 : Hid (1 = 1) := hide rfl
  clear ha hb hoa hob
  cases hra : rightT a with
  | false =>
    have HRA := hide hra
    have HV := hide (show sameT a b = false from by unfold sameT; rw [hra]; rfl)
    clear hra
    go_enter Tryz.func12, Tryz.ntmps12
    go_wp2_with
      first
      | (go_at_call 7
         clear M1
         refine (tm_right a _ B F _ _ _ _ _ _ _ _ _ _ _ _ _ (TermIn.keep HK0.out (fun _ _ => id) _ _ HHA.out)).mono ?_
         rintro e w1 ⟨rfl, hk1⟩
         rw [HRA.out]
         have HK1 := hide (HK0.out.trans' hk1 (fun _ _ => id) (fun _ _ => id) : Keeps NoB w w1)
         have HA1 := hide (HA0.out.keep hk1 id); have HB1 := hide (HB0.out.keep hk1 id)
         obtain ⟨x0, x1, x2, x3, x4, x5, x6⟩ := Blk.c7 (show Blk w1 (w.heap.size + 1) _ #[.int .u8 kd', .bool ng', .slice la' ln' lc', .string tx', .int .i64 nm', .slice ia' im' ic', .slice ta' tn' tc'] from HB1.out)
         clear hk1)
      | (go_at_call 7
         refine (tm_right b w1 B' F' _ _ _ _ _ _ _ _ _ _ _ _ _ (TermIn.keep HK1.out (fun _ _ => id) _ _ HHB.out)).mono ?_
         rintro e w2 ⟨rfl, hk2⟩
         rw [HRB.out]
         have HK2 := hide (HK1.out.trans' hk2 (fun _ _ => id) (fun _ _ => id) : Keeps NoB w w2)
         have HA2 := hide (HA1.out.keep hk2 id); have HB2 := hide (HB1.out.keep hk2 id)
         obtain ⟨y0, y1, y2, y3, y4, y5, y6⟩ := Blk.c7 (show Blk w2 (w.heap.size) _ #[.int .u8 kd, .bool ng, .slice la ln lc, .string tx, .int .i64 nm, .slice ia im ic, .slice ta tn tc] from HA2.out)
         obtain ⟨z0, z1, z2, z3, z4, z5, z6⟩ := Blk.c7 (show Blk w2 (w.heap.size + 1) _ #[.int .u8 kd', .bool ng', .slice la' ln' lc', .string tx', .int .i64 nm', .slice ia' im' ic', .slice ta' tn' tc'] from HB2.out)
         clear hk2)
      | (go_at_call 29
         refine (order_any a b ⟨HRA.out, HOA.out⟩ ⟨HRB.out, HOB.out⟩ w2 B B' F F' _ _ _ _ _ _ _ _ _ _ _ _ _ _ _ _ _ _ _ _ _ _ _ _ _ _ (TermIn.keep HK2.out (fun _ _ => id) _ _ HHA.out) (TermIn.keep HK2.out (fun _ _ => id) _ _ HHB.out)).mono ?_
         rintro e w3 ⟨rfl, hk3⟩
         rw [HOR.out]
         have HK3 := hide (HK2.out.trans' hk3 (fun _ _ => id) (fun _ _ => id) : Keeps NoB w w3)
         clear hk3)
      | fail
    go_ret
    exact ⟨by rw [HV.out]; rfl, HK1.out⟩
  | true =>
    have HRA := hide hra
    cases hrb : rightT b with
    | false =>
      have HRB := hide hrb
      have HV := hide (show sameT a b = false from by unfold sameT; rw [hra, hrb]; rfl)
      clear hra hrb
      go_enter Tryz.func12, Tryz.ntmps12
      go_wp2_with
        first
        | (go_at_call 7
           clear M1
           refine (tm_right a _ B F _ _ _ _ _ _ _ _ _ _ _ _ _ (TermIn.keep HK0.out (fun _ _ => id) _ _ HHA.out)).mono ?_
           rintro e w1 ⟨rfl, hk1⟩
           rw [HRA.out]
           have HK1 := hide (HK0.out.trans' hk1 (fun _ _ => id) (fun _ _ => id) : Keeps NoB w w1)
           have HA1 := hide (HA0.out.keep hk1 id); have HB1 := hide (HB0.out.keep hk1 id)
           obtain ⟨x0, x1, x2, x3, x4, x5, x6⟩ := Blk.c7 (show Blk w1 (w.heap.size + 1) _ #[.int .u8 kd', .bool ng', .slice la' ln' lc', .string tx', .int .i64 nm', .slice ia' im' ic', .slice ta' tn' tc'] from HB1.out)
           clear hk1)
        | (go_at_call 7
           refine (tm_right b w1 B' F' _ _ _ _ _ _ _ _ _ _ _ _ _ (TermIn.keep HK1.out (fun _ _ => id) _ _ HHB.out)).mono ?_
           rintro e w2 ⟨rfl, hk2⟩
           rw [HRB.out]
           have HK2 := hide (HK1.out.trans' hk2 (fun _ _ => id) (fun _ _ => id) : Keeps NoB w w2)
           have HA2 := hide (HA1.out.keep hk2 id); have HB2 := hide (HB1.out.keep hk2 id)
           obtain ⟨y0, y1, y2, y3, y4, y5, y6⟩ := Blk.c7 (show Blk w2 (w.heap.size) _ #[.int .u8 kd, .bool ng, .slice la ln lc, .string tx, .int .i64 nm, .slice ia im ic, .slice ta tn tc] from HA2.out)
           obtain ⟨z0, z1, z2, z3, z4, z5, z6⟩ := Blk.c7 (show Blk w2 (w.heap.size + 1) _ #[.int .u8 kd', .bool ng', .slice la' ln' lc', .string tx', .int .i64 nm', .slice ia' im' ic', .slice ta' tn' tc'] from HB2.out)
           clear hk2)
        | (go_at_call 29
           refine (order_any a b ⟨HRA.out, HOA.out⟩ ⟨HRB.out, HOB.out⟩ w2 B B' F F' _ _ _ _ _ _ _ _ _ _ _ _ _ _ _ _ _ _ _ _ _ _ _ _ _ _ (TermIn.keep HK2.out (fun _ _ => id) _ _ HHA.out) (TermIn.keep HK2.out (fun _ _ => id) _ _ HHB.out)).mono ?_
           rintro e w3 ⟨rfl, hk3⟩
           rw [HOR.out]
           have HK3 := hide (HK2.out.trans' hk3 (fun _ _ => id) (fun _ _ => id) : Keeps NoB w w3)
           clear hk3)
        | fail
      go_ret
      exact ⟨by rw [HV.out]; rfl, HK2.out⟩
    | true =>
      have HRB := hide hrb
      obtain ⟨z, hz⟩ : ∃ z, orderT a b = z := ⟨_, rfl⟩
      have HV := hide (show sameT a b = decide (z = 0) from by unfold sameT; rw [hra, hrb, hz]; rfl)
      have HOR := hide hz
      clear hra hrb hz
      by_cases h0 : z = 0
      · subst h0
        go_enter Tryz.func12, Tryz.ntmps12
        go_wp2_with
          first
          | (go_at_call 7
             clear M1
             refine (tm_right a _ B F _ _ _ _ _ _ _ _ _ _ _ _ _ (TermIn.keep HK0.out (fun _ _ => id) _ _ HHA.out)).mono ?_
             rintro e w1 ⟨rfl, hk1⟩
             rw [HRA.out]
             have HK1 := hide (HK0.out.trans' hk1 (fun _ _ => id) (fun _ _ => id) : Keeps NoB w w1)
             have HA1 := hide (HA0.out.keep hk1 id); have HB1 := hide (HB0.out.keep hk1 id)
             obtain ⟨x0, x1, x2, x3, x4, x5, x6⟩ := Blk.c7 (show Blk w1 (w.heap.size + 1) _ #[.int .u8 kd', .bool ng', .slice la' ln' lc', .string tx', .int .i64 nm', .slice ia' im' ic', .slice ta' tn' tc'] from HB1.out)
             clear hk1)
          | (go_at_call 7
             refine (tm_right b w1 B' F' _ _ _ _ _ _ _ _ _ _ _ _ _ (TermIn.keep HK1.out (fun _ _ => id) _ _ HHB.out)).mono ?_
             rintro e w2 ⟨rfl, hk2⟩
             rw [HRB.out]
             have HK2 := hide (HK1.out.trans' hk2 (fun _ _ => id) (fun _ _ => id) : Keeps NoB w w2)
             have HA2 := hide (HA1.out.keep hk2 id); have HB2 := hide (HB1.out.keep hk2 id)
             obtain ⟨y0, y1, y2, y3, y4, y5, y6⟩ := Blk.c7 (show Blk w2 (w.heap.size) _ #[.int .u8 kd, .bool ng, .slice la ln lc, .string tx, .int .i64 nm, .slice ia im ic, .slice ta tn tc] from HA2.out)
             obtain ⟨z0, z1, z2, z3, z4, z5, z6⟩ := Blk.c7 (show Blk w2 (w.heap.size + 1) _ #[.int .u8 kd', .bool ng', .slice la' ln' lc', .string tx', .int .i64 nm', .slice ia' im' ic', .slice ta' tn' tc'] from HB2.out)
             clear hk2)
          | (go_at_call 29
             refine (order_any a b ⟨HRA.out, HOA.out⟩ ⟨HRB.out, HOB.out⟩ w2 B B' F F' _ _ _ _ _ _ _ _ _ _ _ _ _ _ _ _ _ _ _ _ _ _ _ _ _ _ (TermIn.keep HK2.out (fun _ _ => id) _ _ HHA.out) (TermIn.keep HK2.out (fun _ _ => id) _ _ HHB.out)).mono ?_
             rintro e w3 ⟨rfl, hk3⟩
             rw [HOR.out]
             have HK3 := hide (HK2.out.trans' hk3 (fun _ _ => id) (fun _ _ => id) : Keeps NoB w w3)
             clear hk3)
          | fail
        go_ret
        exact ⟨by rw [HV.out]; rfl, HK3.out⟩
      · have h0b : (z == 0) = false := by simpa using h0
        go_enter Tryz.func12, Tryz.ntmps12
        go_wp2_with
          first
          | (go_at_call 7
             clear M1
             refine (tm_right a _ B F _ _ _ _ _ _ _ _ _ _ _ _ _ (TermIn.keep HK0.out (fun _ _ => id) _ _ HHA.out)).mono ?_
             rintro e w1 ⟨rfl, hk1⟩
             rw [HRA.out]
             have HK1 := hide (HK0.out.trans' hk1 (fun _ _ => id) (fun _ _ => id) : Keeps NoB w w1)
             have HA1 := hide (HA0.out.keep hk1 id); have HB1 := hide (HB0.out.keep hk1 id)
             obtain ⟨x0, x1, x2, x3, x4, x5, x6⟩ := Blk.c7 (show Blk w1 (w.heap.size + 1) _ #[.int .u8 kd', .bool ng', .slice la' ln' lc', .string tx', .int .i64 nm', .slice ia' im' ic', .slice ta' tn' tc'] from HB1.out)
             clear hk1)
          | (go_at_call 7
             refine (tm_right b w1 B' F' _ _ _ _ _ _ _ _ _ _ _ _ _ (TermIn.keep HK1.out (fun _ _ => id) _ _ HHB.out)).mono ?_
             rintro e w2 ⟨rfl, hk2⟩
             rw [HRB.out]
             have HK2 := hide (HK1.out.trans' hk2 (fun _ _ => id) (fun _ _ => id) : Keeps NoB w w2)
             have HA2 := hide (HA1.out.keep hk2 id); have HB2 := hide (HB1.out.keep hk2 id)
             obtain ⟨y0, y1, y2, y3, y4, y5, y6⟩ := Blk.c7 (show Blk w2 (w.heap.size) _ #[.int .u8 kd, .bool ng, .slice la ln lc, .string tx, .int .i64 nm, .slice ia im ic, .slice ta tn tc] from HA2.out)
             obtain ⟨z0, z1, z2, z3, z4, z5, z6⟩ := Blk.c7 (show Blk w2 (w.heap.size + 1) _ #[.int .u8 kd', .bool ng', .slice la' ln' lc', .string tx', .int .i64 nm', .slice ia' im' ic', .slice ta' tn' tc'] from HB2.out)
             clear hk2)
          | (go_at_call 29
             refine (order_any a b ⟨HRA.out, HOA.out⟩ ⟨HRB.out, HOB.out⟩ w2 B B' F F' _ _ _ _ _ _ _ _ _ _ _ _ _ _ _ _ _ _ _ _ _ _ _ _ _ _ (TermIn.keep HK2.out (fun _ _ => id) _ _ HHA.out) (TermIn.keep HK2.out (fun _ _ => id) _ _ HHB.out)).mono ?_
             rintro e w3 ⟨rfl, hk3⟩
             rw [HOR.out]
             have HK3 := hide (HK2.out.trans' hk3 (fun _ _ => id) (fun _ _ => id) : Keeps NoB w w3)
             clear hk3)
          | fail
        go_ret
        exact ⟨by rw [HV.out, decide_eq_false h0]; rfl, HK3.out⟩
end Go.Proofs.YtjdbjjjbgibpaaaGreatDoor
namespace Go.Proofs.YtjdbjjjbgibpaaaGreatDoor

theorem size_mem : ∀ {l : List Tm} {x : Tm}, x ∈ l → x.size < 1 + Tm.size.sizes l
  | [], _, h => by cases h
  | y :: l, x, h => by
    simp only [Tm.size.sizes]
    rcases List.mem_cons.1 h with rfl | h
    · omega
    · have := size_mem h; omega
theorem row_eq {f : Tm → Tm → Int} : ∀ (l m : List Tm), l.length = m.length → (∀ x ∈ l, ∀ y ∈ m, f x y = 0 → x = y) → rowO f l m = 0 → l = m
  | [], [], _, _, _ => rfl
  | [], _ :: _, h, _, _ => by simp at h
  | _ :: _, [], h, _, _ => by simp at h
  | x :: l, y :: m, h, hf, h0 => by
    unfold rowO at h0
    by_cases e : f x y = 0
    · rw [if_pos e] at h0
      rw [hf x List.mem_cons_self y List.mem_cons_self e, row_eq l m (by simpa using h) (fun x' hx y' hy => hf x' (List.mem_cons_of_mem _ hx) y' (List.mem_cons_of_mem _ hy)) h0]
    · rw [if_neg e] at h0; exact absurd h0 e
theorem toNat_inj : ∀ {l m : List Int}, (∀ x ∈ l, 0 ≤ x) → (∀ x ∈ m, 0 ≤ x) → l.map Int.toNat = m.map Int.toNat → l = m
  | [], [], _, _, _ => rfl
  | [], _ :: _, _, _, h => by simp at h
  | _ :: _, [], _, _, h => by simp at h
  | x :: l, y :: m, hl, hm, h => by
    simp only [List.map_cons, List.cons.injEq] at h
    have h1 := hl x List.mem_cons_self
    have h2 := hm y List.mem_cons_self
    rw [toNat_inj (fun a ha => hl a (List.mem_cons_of_mem _ ha)) (fun a ha => hm a (List.mem_cons_of_mem _ ha)) h.2, show x = y from by omega]
theorem cmpB_zero {s t : ByteArray} (h : cmpB s t = 0) : s = t := by
  unfold cmpB at h
  split at h
  · cases h
  · rename_i h1
    split at h
    · cases h
    · rename_i h2
      cases he : (s.toList == t.toList) with
      | true => exact key_inj (by simpa using he)
      | false => exact absurd (bytes_tri _ _ (by simpa using h1) he) h2
theorem firstI_zero {a b : Int} (h : firstI a b = 0) : a = 0 ∧ b = 0 := by
  unfold firstI at h
  split at h
  · rename_i h0; exact ⟨h0, h⟩
  · rename_i h0; exact absurd h h0
/-- An integer's digits, as they must be. -/
structure IntOk (ng : Bool) (limbs : List Int) (text : ByteArray) (num : Int) (items tail : List Tm) : Prop where
  text : text = ByteArray.empty
  num : num = 0
  items : items = []
  tail : tail = []
  pos : ∀ x ∈ limbs, 0 ≤ x
  low : Low (limbs.map Int.toNat)
  norm : Norm (limbs.map Int.toNat)
  sign : limbs = [] → ng = false
theorem int_ok {ng : Bool} {limbs : List Int} {text : ByteArray} {num : Int} {items tail : List Tm} (h : goodT (.mk 1 ng limbs text num items tail)) : IntOk ng limbs text num items tail := by
  obtain ⟨hr, ho⟩ := h
  unfold okT at ho
  have hs : 0 < sizeT (.mk 1 ng limbs text num items tail) := of_decide_eq_true hr
  unfold sizeT at hs
  rw [if_pos rfl] at hs
  split at hs
  · rename_i h1
    unfold intT at h1
    simp only [Bool.and_eq_true, decide_eq_true_eq] at h1
    obtain ⟨⟨⟨⟨⟨_, ht⟩, hn⟩, hi⟩, _⟩, hg⟩ := h1
    refine ⟨ht, hn, List.eq_nil_of_length_eq_zero (by omega), List.eq_nil_of_length_eq_zero (by omega), fun x hx => (ho.2.1 x hx).1, fun x hx => ?_, ?_, fun he => ?_⟩
    · obtain ⟨y, hy, rfl⟩ := List.mem_map.1 hx
      have := ho.2.1 y hy
      unfold B32
      omega
    · by_cases hl : limbs = []
      · left; rw [hl]; rfl
      · right
        have hl0 : limbs.length ≠ 0 := fun e => hl (List.eq_nil_of_length_eq_zero e)
        rw [if_neg hl0] at hg
        have hg' : limbs.getD (limbs.length - 1) 0 ≠ 0 := of_decide_eq_true hg
        have hlt : limbs.length - 1 < limbs.length := by omega
        have e1 : limbs.getD (limbs.length - 1) 0 = limbs[limbs.length - 1] := by simp [hlt]
        have e2 : (limbs.map Int.toNat).getD ((limbs.map Int.toNat).length - 1) 0 = (limbs[limbs.length - 1]).toNat := by simp [hlt]
        rw [e2]
        rw [e1] at hg'
        have := (ho.2.1 _ (List.getElem_mem hlt)).1
        omega
    · rw [he] at hg
      simpa using hg
  · omega
theorem int_eq {ng ng' : Bool} {limbs limbs' : List Int} {text text' : ByteArray} {num num' : Int} {items tail items' tail' : List Tm} (h : IntOk ng limbs text num items tail) (h' : IntOk ng' limbs' text' num' items' tail')
    (hv : sgn ng (nat (limbs.map Int.toNat)) = sgn ng' (nat (limbs'.map Int.toNat))) : Tm.mk 1 ng limbs text num items tail = .mk 1 ng' limbs' text' num' items' tail' := by
  have hn : nat (limbs.map Int.toNat) = nat (limbs'.map Int.toNat) := by
    have h1 : ∀ (b : Bool) (n : Nat), (sgn b n).natAbs = n := fun b n => by unfold sgn; split <;> omega
    rw [← h1 ng (nat (limbs.map Int.toNat)), hv, h1]
  have hl : limbs = limbs' := toNat_inj h.pos h'.pos (by rw [dig_nat h.low h.norm, dig_nat h'.low h'.norm, hn])
  subst hl
  have hg : ng = ng' := by
    by_cases he : limbs = []
    · rw [h.sign he, h'.sign he]
    · have h0 := nat_pos h.norm (by simpa using he)
      unfold sgn at hv
      cases ng <;> cases ng' <;> simp at hv <;> first | rfl | omega
  rw [h.text, h.num, h.items, h.tail, h'.text, h'.num, h'.items, h'.tail, hg]
/-- What is no integer, as it must be. -/
structure ElseOk (k : Int) (ng : Bool) (limbs : List Int) (text : ByteArray) (num : Int) (items tail : List Tm) : Prop where
  sign' : ng = false
  limbs' : limbs = []
  text' : k ≠ 2 → text = ByteArray.empty
  num' : k = 7 → num = 0
  num6' : k = 6 → num = 0
  items' : k = 2 ∨ k = 3 ∨ k = 5 → items = []
  tail' : k ≠ 7 → tail = []
  tail7' : k = 7 → tail.length ≤ 1 ∧ tail.length ≤ items.length ∧ ∀ x ∈ tail, x.kind ≠ 7
theorem else_ok {k : Int} {ng : Bool} {limbs : List Int} {text : ByteArray} {num : Int} {items tail : List Tm} (h1 : k ≠ 1) (hr : rightT (.mk k ng limbs text num items tail) = true) : ElseOk k ng limbs text num items tail := by
  have hs : 0 < sizeT (.mk k ng limbs text num items tail) := of_decide_eq_true hr
  unfold sizeT at hs
  rw [if_neg h1] at hs
  split at hs
  · rename_i hh
    unfold headT at hh
    simp only [Bool.and_eq_true, decide_eq_true_eq, Bool.not_eq_true'] at hh
    obtain ⟨⟨hg, hl⟩, hb⟩ := hh
    have hl' := List.eq_nil_of_length_eq_zero hl
    by_cases k2 : k = 2
    · rw [if_pos k2] at hb
      simp only [Bool.and_eq_true, decide_eq_true_eq] at hb
      obtain ⟨⟨⟨b1, b2⟩, b3⟩, _⟩ := hb
      exact ⟨hg, hl', fun h => absurd k2 h, fun h => by omega, fun h => by omega, fun _ => List.eq_nil_of_length_eq_zero b2, fun _ => List.eq_nil_of_length_eq_zero b3, fun h => by omega⟩
    · rw [if_neg k2] at hb
      simp only [Bool.and_eq_true, decide_eq_true_eq] at hb
      obtain ⟨ht, hb⟩ := hb
      by_cases k3 : k = 3 ∨ k = 5
      · rw [if_pos k3] at hb
        simp only [Bool.and_eq_true, decide_eq_true_eq] at hb
        obtain ⟨⟨⟨b1, b2⟩, _⟩, _⟩ := hb
        exact ⟨hg, hl', fun _ => ht, fun h => by omega, fun h => by omega, fun _ => List.eq_nil_of_length_eq_zero b1, fun _ => List.eq_nil_of_length_eq_zero b2, fun h => by omega⟩
      · rw [if_neg k3] at hb
        by_cases k4 : k = 4
        · rw [if_pos k4] at hb
          simp only [Bool.and_eq_true, decide_eq_true_eq] at hb
          exact ⟨hg, hl', fun _ => ht, fun h => by omega, fun h => by omega, fun h => by omega, fun _ => List.eq_nil_of_length_eq_zero hb.1.1, fun h => by omega⟩
        · rw [if_neg k4] at hb
          by_cases k6 : k = 6
          · rw [if_pos k6] at hb
            simp only [Bool.and_eq_true, decide_eq_true_eq] at hb
            exact ⟨hg, hl', fun _ => ht, fun h => by omega, fun _ => hb.1, fun h => by omega, fun _ => List.eq_nil_of_length_eq_zero hb.2, fun h => by omega⟩
          · rw [if_neg k6] at hb
            by_cases k7 : k = 7
            · rw [if_pos k7] at hb
              simp only [Bool.and_eq_true, decide_eq_true_eq, List.all_eq_true] at hb
              obtain ⟨⟨⟨b1, b2⟩, b3⟩, b4⟩ := hb
              exact ⟨hg, hl', fun _ => ht, fun _ => b1, fun h => by omega, fun h => by omega, fun h => absurd k7 h, fun _ => ⟨b2, b3, fun x hx => by simpa using b4 x hx⟩⟩
            · rw [if_neg k7] at hb; cases hb
  · omega
theorem ordO_ne {M : Nat} {a b : Tm} (hk : a.kind ≠ b.kind) : ordO (M + 1) a b = cmpZ a.kind b.kind := by rw [ordO, if_pos hk]
theorem ordO_int {M : Nat} {a b : Tm} (hk : a.kind = b.kind) (h1 : a.kind = 1) : ordO (M + 1) a b = cmpZ (intV a) (intV b) := by rw [ordO, if_neg (fun h => h hk), if_pos h1]
theorem eq_of_ordO : ∀ (M : Nat) (a b : Tm), a.size ≤ M → goodT a → goodT b → ordO M a b = 0 → a = b
  | 0, a, b, hM, _, _, _ => by cases a; simp only [Tm.size] at hM; omega
  | M + 1, .mk k ng limbs text num items tail, .mk k' ng' limbs' text' num' items' tail', hM, ha, hb, h => by
    have pa := good_parts ha
    have pb := good_parts hb
    simp only [Tm.size] at hM
    have hmem : ∀ x ∈ items, x.size ≤ M := fun x hx => by have := size_mem hx; omega
    have hmemt : ∀ x ∈ tail, x.size ≤ M := fun x hx => by have := size_mem hx; omega
    simp only [Tm.items, Tm.tail] at pa pb
    by_cases hk : k = k'
    · subst hk
      by_cases h1 : k = 1
      · subst h1
        rw [ordO_int (show (Tm.mk 1 ng limbs text num items tail).kind = (Tm.mk 1 ng' limbs' text' num' items' tail').kind from rfl) rfl] at h
        exact int_eq (int_ok ha) (int_ok hb) (cmpZ_zero h)
      · have ea := else_ok h1 ha.1
        have eb := else_ok h1 hb.1
        have hrow : items.length = items'.length → rowO (ordO M) items items' = 0 → items = items' := fun hl h0 => row_eq items items' hl (fun x hx y hy hxy => eq_of_ordO M x y (hmem x hx) (pa.1 x hx) (pb.1 y hy) hxy) h0
        by_cases h7 : k = 7
        · subst h7
          rw [ordO_seven M _ _ (show (Tm.mk 7 ng limbs text num items tail).kind = (Tm.mk 7 ng' limbs' text' num' items' tail').kind from rfl) rfl] at h
          have h : (if firstI (rowO (ordO M) items items') (cmpZ items.length items'.length) = 0 ∧ 0 < tail.length + tail'.length then ordO M (restT tail) (restT tail') else firstI (rowO (ordO M) items items') (cmpZ items.length items'.length)) = 0 := h
          have hfirst : firstI (rowO (ordO M) items items') (cmpZ items.length items'.length) = 0 := by
            by_cases hc : firstI (rowO (ordO M) items items') (cmpZ items.length items'.length) = 0
            · exact hc
            · rw [if_neg (fun e => hc e.1)] at h; exact h
          obtain ⟨h01, h02⟩ := firstI_zero hfirst
          have hi := hrow (by have := cmpZ_zero h02; omega) h01
          subst hi
          have ht : tail = tail' := by
            by_cases hz : 0 < tail.length + tail'.length
            · rw [if_pos ⟨hfirst, hz⟩] at h
              have h1 := ea.tail7' rfl
              have h2 := eb.tail7' rfl
              have hne : 1 ≤ M := by
                match items, h1, h2, hmem with
                | [], h1, h2, _ => have a1 := h1.2.1; have a2 := h2.2.1; simp only [List.length_nil] at a1 a2; omega
                | x :: l, _, _, hmem => have := hmem x List.mem_cons_self; have := x.size_pos; omega
              obtain ⟨M', rfl⟩ : ∃ M', M = M' + 1 := ⟨M - 1, by omega⟩
              match tail, tail', h1, h2, pa.2, pb.2, hmemt, h with
              | [], [], _, _, _, _, _, _ => rfl
              | [], [y], _, h2, _, _, _, h =>
                have hy := h2.2.2 y (by simp)
                have h' : ordO (M' + 1) nilT y = 0 := h
                rw [ordO_ne (show nilT.kind ≠ y.kind from fun e => hy e.symm)] at h'
                exact absurd (cmpZ_zero h').symm hy
              | [x], [], h1, _, _, _, _, h =>
                have hx := h1.2.2 x (by simp)
                have h' : ordO (M' + 1) x nilT = 0 := h
                rw [ordO_ne (show x.kind ≠ nilT.kind from hx)] at h'
                exact absurd (cmpZ_zero h') hx
              | [x], [y], _, _, pa2, pb2, hmt, h =>
                rw [eq_of_ordO (M' + 1) x y (hmt x (by simp)) (pa2 x (by simp)) (pb2 y (by simp)) h]
              | _ :: _ :: _, _, h1, _, _, _, _, _ => have := h1.1; simp at this
              | _, _ :: _ :: _, _, h2, _, _, _, _ => have := h2.1; simp at this
            · have e1 : tail = [] := List.eq_nil_of_length_eq_zero (by omega)
              have e2 : tail' = [] := List.eq_nil_of_length_eq_zero (by omega)
              rw [e1, e2]
          rw [ea.sign', ea.limbs', ea.text' (by decide), ea.num' rfl, eb.sign', eb.limbs', eb.text' (by decide), eb.num' rfl, ht]
        · rw [ordO_else M _ _ (show (Tm.mk k ng limbs text num items tail).kind = (Tm.mk k ng' limbs' text' num' items' tail').kind from rfl) h1 h7] at h
          have h : (if firstI (cmpB text text') (firstI (cmpZ num num') (cmpZ items.length items'.length)) = 0 then rowO (ordO M) items items' else firstI (cmpB text text') (firstI (cmpZ num num') (cmpZ items.length items'.length))) = 0 := h
          have hfirst : firstI (cmpB text text') (firstI (cmpZ num num') (cmpZ items.length items'.length)) = 0 := by
            by_cases hc : firstI (cmpB text text') (firstI (cmpZ num num') (cmpZ items.length items'.length)) = 0
            · exact hc
            · rw [if_neg hc] at h; exact h
          rw [if_pos hfirst] at h
          obtain ⟨h01, h02⟩ := firstI_zero hfirst
          obtain ⟨h02, h03⟩ := firstI_zero h02
          have hi := hrow (by have := cmpZ_zero h03; omega) h
          rw [ea.sign', ea.limbs', ea.tail' h7, eb.sign', eb.limbs', eb.tail' h7, cmpB_zero h01, cmpZ_zero h02, hi]
    · rw [ordO_ne (show (Tm.mk k ng limbs text num items tail).kind ≠ (Tm.mk k' ng' limbs' text' num' items' tail').kind from hk)] at h
      exact absurd (cmpZ_zero h) hk
/-- term.Same tells one and the same. -/
theorem same_iff {a b : Tm} (ha : okT a) (hb : okT b) : sameT a b = true ↔ rightT a = true ∧ a = b := by
  unfold sameT
  simp only [Bool.and_eq_true, decide_eq_true_eq]
  constructor
  · rintro ⟨h1, h2, h3⟩
    exact ⟨h1, eq_of_ordO (a.size + b.size) a b (by omega) ⟨h1, ha⟩ ⟨h2, hb⟩ h3⟩
  · rintro ⟨h1, rfl⟩
    exact ⟨h1, h1, order_self a⟩
end Go.Proofs.YtjdbjjjbgibpaaaGreatDoor
namespace Go.Proofs.YtjdbjjjbgibpaaaGreatDoor
set_option maxRecDepth 100000
open Go.RowKit

theorem results7 (f : Func) (k : Nat) (hr : f.results = #[ResultVar.cell k 26]) (tmps : Array Value) (r : Nat) (v0 v1 v2 v3 v4 v5 v6 : Value) (w : World) (ht : tmps[k]? = some (.pointer (some ⟨r, 0, none⟩))) (hB : Blk w r 26 #[v0, v1, v2, v3, v4, v5, v6]) : (results f tmps).run Tryz.prog w = .ok (.agg #[v0, v1, v2, v3, v4, v5, v6]) w := by
  have c0 : w.cell? ⟨r, 0, none⟩ = some v0 := hB.cell 0
  have c1 : w.cell? ⟨r, 1, none⟩ = some v1 := hB.cell 1
  have c2 : w.cell? ⟨r, 2, none⟩ = some v2 := hB.cell 2
  have c3 : w.cell? ⟨r, 3, none⟩ = some v3 := hB.cell 3
  have c4 : w.cell? ⟨r, 4, none⟩ = some v4 := hB.cell 4
  have c5 : w.cell? ⟨r, 5, none⟩ = some v5 := hB.cell 5
  have c6 : w.cell? ⟨r, 6, none⟩ = some v6 := hB.cell 6
  simp [results, hr, go_sem, ht, c0, c1, c2, c3, c4, c5, c6]
theorem results14 (f : Func) (k : Nat) (hr : f.results = #[ResultVar.cell k 99]) (tmps : Array Value) (r : Nat) (v0 v1 v2 v3 v4 v5 v6 v7 v8 v9 v10 v11 v12 v13 : Value) (w : World) (ht : tmps[k]? = some (.pointer (some ⟨r, 0, none⟩))) (hB : Blk w r 99 #[v0, v1, v2, v3, v4, v5, v6, v7, v8, v9, v10, v11, v12, v13]) : (results f tmps).run Tryz.prog w = .ok (.agg #[v0, v1, v2, v3, v4, v5, v6, v7, v8, v9, v10, v11, v12, v13]) w := by
  have c0 : w.cell? ⟨r, 0, none⟩ = some v0 := hB.cell 0
  have c1 : w.cell? ⟨r, 1, none⟩ = some v1 := hB.cell 1
  have c2 : w.cell? ⟨r, 2, none⟩ = some v2 := hB.cell 2
  have c3 : w.cell? ⟨r, 3, none⟩ = some v3 := hB.cell 3
  have c4 : w.cell? ⟨r, 4, none⟩ = some v4 := hB.cell 4
  have c5 : w.cell? ⟨r, 5, none⟩ = some v5 := hB.cell 5
  have c6 : w.cell? ⟨r, 6, none⟩ = some v6 := hB.cell 6
  have c7 : w.cell? ⟨r, 7, none⟩ = some v7 := hB.cell 7
  have c8 : w.cell? ⟨r, 8, none⟩ = some v8 := hB.cell 8
  have c9 : w.cell? ⟨r, 9, none⟩ = some v9 := hB.cell 9
  have c10 : w.cell? ⟨r, 10, none⟩ = some v10 := hB.cell 10
  have c11 : w.cell? ⟨r, 11, none⟩ = some v11 := hB.cell 11
  have c12 : w.cell? ⟨r, 12, none⟩ = some v12 := hB.cell 12
  have c13 : w.cell? ⟨r, 13, none⟩ = some v13 := hB.cell 13
  simp [results, hr, go_sem, ht, c0, c1, c2, c3, c4, c5, c6, c7, c8, c9, c10, c11, c12, c13]
theorem Blk.tput14 {w : World} {g : Nat} {t : TypeId} {a0 a1 a2 a3 a4 a5 a6 a7 a8 a9 a10 a11 a12 a13 : Value} (h : Blk w g t #[a0, a1, a2, a3, a4, a5, a6, a7, a8, a9, a10, a11, a12, a13]) (v0 v1 v2 v3 v4 v5 v6 v7 v8 v9 v10 v11 v12 v13 : Value) :
    Blk ((((((((((((((w.setCell ⟨g, 0, none⟩ v0).setCell ⟨g, 1, none⟩ v1).setCell ⟨g, 2, none⟩ v2).setCell ⟨g, 3, none⟩ v3).setCell ⟨g, 4, none⟩ v4).setCell ⟨g, 5, none⟩ v5).setCell ⟨g, 6, none⟩ v6).setCell ⟨g, 7, none⟩ v7).setCell ⟨g, 8, none⟩ v8).setCell ⟨g, 9, none⟩ v9).setCell ⟨g, 10, none⟩ v10).setCell ⟨g, 11, none⟩ v11).setCell ⟨g, 12, none⟩ v12).setCell ⟨g, 13, none⟩ v13) g t #[v0, v1, v2, v3, v4, v5, v6, v7, v8, v9, v10, v11, v12, v13] := by
  have := (((((((((((((h.put 0 v0).put 1 v1).put 2 v2).put 3 v3).put 4 v4).put 5 v5).put 6 v6).put 7 v7).put 8 v8).put 9 v9).put 10 v10).put 11 v11).put 12 v12).put 13 v13
  simpa using this
theorem keeps_tput14 (w : World) (g : Nat) (v0 v1 v2 v3 v4 v5 v6 v7 v8 v9 v10 v11 v12 v13 : Value) :
    Keeps (fun j => j = g) w ((((((((((((((w.setCell ⟨g, 0, none⟩ v0).setCell ⟨g, 1, none⟩ v1).setCell ⟨g, 2, none⟩ v2).setCell ⟨g, 3, none⟩ v3).setCell ⟨g, 4, none⟩ v4).setCell ⟨g, 5, none⟩ v5).setCell ⟨g, 6, none⟩ v6).setCell ⟨g, 7, none⟩ v7).setCell ⟨g, 8, none⟩ v8).setCell ⟨g, 9, none⟩ v9).setCell ⟨g, 10, none⟩ v10).setCell ⟨g, 11, none⟩ v11).setCell ⟨g, 12, none⟩ v12).setCell ⟨g, 13, none⟩ v13) := by
  have := ((((((((((((((Keeps.refl (fun j => j = g) w).setCell (p := ⟨g, 0, none⟩) (.inl rfl) v0).setCell (p := ⟨g, 1, none⟩) (.inl rfl) v1).setCell (p := ⟨g, 2, none⟩) (.inl rfl) v2).setCell (p := ⟨g, 3, none⟩) (.inl rfl) v3).setCell (p := ⟨g, 4, none⟩) (.inl rfl) v4).setCell (p := ⟨g, 5, none⟩) (.inl rfl) v5).setCell (p := ⟨g, 6, none⟩) (.inl rfl) v6).setCell (p := ⟨g, 7, none⟩) (.inl rfl) v7).setCell (p := ⟨g, 8, none⟩) (.inl rfl) v8).setCell (p := ⟨g, 9, none⟩) (.inl rfl) v9).setCell (p := ⟨g, 10, none⟩) (.inl rfl) v10).setCell (p := ⟨g, 11, none⟩) (.inl rfl) v11).setCell (p := ⟨g, 12, none⟩) (.inl rfl) v12).setCell (p := ⟨g, 13, none⟩) (.inl rfl) v13
  exact this
def ValP (w : World) (v : Value) (e : Ending) (w' : World) : Prop := e = .returned v ∧ Keeps NoB w w'
def atomV (s : ByteArray) : Value := .agg #[.int .u8 2, .bool false, .slice none 0 0, .string s, .int .i64 0, .slice none 0 0, .slice none 0 0]
def truthV (b : Bool) : Value := .agg #[.int .u8 2, .bool false, .slice none 0 0, .string (if b then ⟨#[116, 114, 117, 101]⟩ else ⟨#[102, 97, 108, 115, 101]⟩), .int .i64 0, .slice none 0 0, .slice none 0 0, .int .u8 0, .bool false, .slice none 0 0, .string ⟨#[]⟩, .int .i64 0, .slice none 0 0, .slice none 0 0]
set_option maxRecDepth 100000 in
theorem atom_any (s : ByteArray) (w : World) : Calls Tryz.prog 94 #[.string s] w (ValP w (atomV s)) := by
  have HB := hide (Blk.new w 26 #[.int .u8 0, .bool false, .slice none 0 0, .string ⟨#[]⟩, .int .i64 0, .slice none 0 0, .slice none 0 0])
  have HK := hide ((Keeps.refl NoB w).alloc (.cells #[.int .u8 0, .bool false, .slice none 0 0, .string ⟨#[]⟩, .int .i64 0, .slice none 0 0, .slice none 0 0] 26))
  go_enter Tryz.func94, Tryz.ntmps94
  go_upto_region 1 with fail
  generalize w.alloc (.cells #[.int .u8 0, .bool false, .slice none 0 0, .string ⟨#[]⟩, .int .i64 0, .slice none 0 0, .slice none 0 0] 26) = w1 at *
  have HGL := hide (Nat.le_refl w.heap.size)
  generalize hg : w.heap.size = g at HB ⊢
  obtain ⟨z0, z1, z2, z3, z4, z5, z6⟩ := Blk.f7 (w := w1) (g := g) HB.out
  obtain ⟨v0, v1, v2, v3, v4, v5, v6⟩ := Blk.c7 (show Blk w1 (g) _ #[.int .u8 0, .bool false, .slice none 0 0, .string ⟨#[]⟩, .int .i64 0, .slice none 0 0, .slice none 0 0] from HB.out)
  have HG := hide hg
  clear hg
  go_wp2
  refine bodyPost_ret (results7 Tryz.f94 2 (by kernel_rfl) _ _ _ _ _ _ _ _ _ _ rfl (HB.out.tput7 _ _ _ _ _ _ _)) rfl ?_
  exact ⟨rfl, HK.out.trans' (keeps_tput7 w1 g _ _ _ _ _ _ _) (fun _ _ => id) (fun i hi e => by have := HG.out; omega)⟩
end Go.Proofs.YtjdbjjjbgibpaaaGreatDoor
