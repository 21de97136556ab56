/- node.item of a list; node.body, and the others on one node. node.body, after, qualifies (where the functions on the kids are known, and item on the node). -/
import Derived.Test.YtincajfanhanjaaDoorNdItem2
namespace Go.Proofs.YtincajfanhanjaaDoor
open Go.RowKit

/-- Of a list. -/
theorem item6_eq (tx : ByteArray) (nm pl : Int) (kids : List Nd) (hpl : 0 ≤ pl) : okM 0 (.mk 6 tx nm pl kids) = (decide (0 ≤ nm) && decide (nm ≤ 1) && !(decide (nm = 1) && decide (kids.length < 2)) && tx.data.toList.isEmpty && okAs (kidsM 6 nm kids.length).1 (kidsM 6 nm kids.length).2 kids) := by
  rw [okM_zero]
  unfold itemH
  rw [decide_eq_true hpl, Bool.true_and]
  simp only [show shapeN 6 = some (0, 105, 1, 0, -1) from rfl]
  simp [wordedN, Bool.and_assoc]
set_option maxRecDepth 100000 in
set_option maxHeartbeats 2000000 in
theorem item6_bad (w : World) (tx : ByteArray) (pl : Int) (ka : Option Addr) (kn kc : Nat) (b : Bool) (hb : b = false) (hkn : kn < 2) (hpl : 0 ≤ pl) (hL : LaidN w) :
    Calls Tryd.prog 32 #[.agg #[.int .u8 6, .string tx, .int .i64 1, .int .i64 pl, .slice ka kn kc]] w (BoolP b w) := by
  have d8 : decide ((kn : Int) < 2) = true := by simp; omega
  have hc : ∀ j, j < 5 → w.cell? ⟨1, 6 * 5 + j, none⟩ = ([.int .u8 0, .int .u8 105, .int .i64 1, .int .i64 0, .int .i64 (-1)] : List Value)[j]? := fun j hj => hL.shape 6 j (by omega) hj
  have hk1 : Keeps NoB w (w.alloc (.cells #[.int .u8 6, .string tx, .int .i64 1, .int .i64 pl, .slice ka kn kc] 29)) := (Keeps.refl NoB w).alloc _
  have p0 : (w.alloc (.cells #[.int .u8 6, .string tx, .int .i64 1, .int .i64 pl, .slice ka kn kc] 29)).cell? ⟨1, 30, none⟩ = some (.int .u8 0) := hk1.cell id (hc 0 (by omega))
  have p1 : (w.alloc (.cells #[.int .u8 6, .string tx, .int .i64 1, .int .i64 pl, .slice ka kn kc] 29)).cell? ⟨1, 31, none⟩ = some (.int .u8 105) := hk1.cell id (hc 1 (by omega))
  have p2 : (w.alloc (.cells #[.int .u8 6, .string tx, .int .i64 1, .int .i64 pl, .slice ka kn kc] 29)).cell? ⟨1, 32, none⟩ = some (.int .i64 1) := hk1.cell id (hc 2 (by omega))
  have p3 : (w.alloc (.cells #[.int .u8 6, .string tx, .int .i64 1, .int .i64 pl, .slice ka kn kc] 29)).cell? ⟨1, 33, none⟩ = some (.int .i64 0) := hk1.cell id (hc 3 (by omega))
  have p4 : (w.alloc (.cells #[.int .u8 6, .string tx, .int .i64 1, .int .i64 pl, .slice ka kn kc] 29)).cell? ⟨1, 34, none⟩ = some (.int .i64 (-1)) := hk1.cell id (hc 4 (by omega))
  have hgl : 1 < w.heap.size := World.block_lt_of_cell? w _ (hc 0 (by omega))
  have b4 : decide (pl < 0) = false := by simp; omega
  have HK2 : Hid (Keeps NoB w ((w.alloc (.cells #[.int .u8 6, .string tx, .int .i64 1, .int .i64 pl, .slice ka kn kc] 29)).alloc (.cells #[.int .u8 0, .int .u8 105, .int .i64 1, .int .i64 0, .int .i64 (-1)] 67))) := hide (((Keeps.refl NoB w).alloc _).alloc _)
  subst hb
  clear hL hk1 hc
  go_enter Tryd.func32, Tryd.ntmps32
  go_wp2
  go_ret
  exact ⟨rfl, HK2.out⟩
set_option maxRecDepth 100000 in
set_option maxHeartbeats 2000000 in
theorem item6_out (w : World) (tx : ByteArray) (nm pl : Int) (ka : Option Addr) (kn kc : Nat) (b : Bool) (hb : b = false) (hnm : nm < 0 ∨ 1 < nm) (hpl : 0 ≤ pl) (hL : LaidN w) :
    Calls Tryd.prog 32 #[.agg #[.int .u8 6, .string tx, .int .i64 nm, .int .i64 pl, .slice ka kn kc]] w (BoolP b w) := by
  have hc : ∀ j, j < 5 → w.cell? ⟨1, 6 * 5 + j, none⟩ = ([.int .u8 0, .int .u8 105, .int .i64 1, .int .i64 0, .int .i64 (-1)] : List Value)[j]? := fun j hj => hL.shape 6 j (by omega) hj
  have hk1 : Keeps NoB w (w.alloc (.cells #[.int .u8 6, .string tx, .int .i64 nm, .int .i64 pl, .slice ka kn kc] 29)) := (Keeps.refl NoB w).alloc _
  have p0 : (w.alloc (.cells #[.int .u8 6, .string tx, .int .i64 nm, .int .i64 pl, .slice ka kn kc] 29)).cell? ⟨1, 30, none⟩ = some (.int .u8 0) := hk1.cell id (hc 0 (by omega))
  have p1 : (w.alloc (.cells #[.int .u8 6, .string tx, .int .i64 nm, .int .i64 pl, .slice ka kn kc] 29)).cell? ⟨1, 31, none⟩ = some (.int .u8 105) := hk1.cell id (hc 1 (by omega))
  have p2 : (w.alloc (.cells #[.int .u8 6, .string tx, .int .i64 nm, .int .i64 pl, .slice ka kn kc] 29)).cell? ⟨1, 32, none⟩ = some (.int .i64 1) := hk1.cell id (hc 2 (by omega))
  have p3 : (w.alloc (.cells #[.int .u8 6, .string tx, .int .i64 nm, .int .i64 pl, .slice ka kn kc] 29)).cell? ⟨1, 33, none⟩ = some (.int .i64 0) := hk1.cell id (hc 3 (by omega))
  have p4 : (w.alloc (.cells #[.int .u8 6, .string tx, .int .i64 nm, .int .i64 pl, .slice ka kn kc] 29)).cell? ⟨1, 34, none⟩ = some (.int .i64 (-1)) := hk1.cell id (hc 4 (by omega))
  have hgl : 1 < w.heap.size := World.block_lt_of_cell? w _ (hc 0 (by omega))
  have b4 : decide (pl < 0) = false := by simp; omega
  have HK2 : Hid (Keeps NoB w ((w.alloc (.cells #[.int .u8 6, .string tx, .int .i64 nm, .int .i64 pl, .slice ka kn kc] 29)).alloc (.cells #[.int .u8 0, .int .u8 105, .int .i64 1, .int .i64 0, .int .i64 (-1)] 67))) := hide (((Keeps.refl NoB w).alloc _).alloc _)
  subst hb
  clear hL hk1 hc
  rcases hnm with hnm | hnm
  · have d1 : decide (nm < 0) = true := by simpa using hnm
    go_enter Tryd.func32, Tryd.ntmps32
    go_wp2
    go_ret
    exact ⟨rfl, HK2.out⟩
  · have d1 : decide (nm < 0) = false := by simp; omega
    have d2 : decide (1 < nm) = true := by simpa using hnm
    go_enter Tryd.func32, Tryd.ntmps32
    go_wp2
    go_ret
    exact ⟨rfl, HK2.out⟩
set_option maxRecDepth 100000 in
set_option maxHeartbeats 2000000 in
theorem item6_0 (w : World) (B : Nat → Prop) (F : Bool) (tx : ByteArray) (pl : Int) (ka : Option Addr) (kn kc : Nat) (kids : List Nd) (hL : LaidN w) (ht : NodeIn w B F [.int .u8 6, .string tx, .int .i64 0, .int .i64 pl, .slice ka kn kc] (.mk 6 tx 0 pl kids)) (htx : tx.size ≤ 140737488355328) (hpl : 0 ≤ pl) (H : ∀ x ∈ kids, SaidOf x) :
    Calls Tryd.prog 32 #[.agg #[.int .u8 6, .string tx, .int .i64 0, .int .i64 pl, .slice ka kn kc]] w (BoolP (okM 0 (.mk 6 tx 0 pl kids)) w) := by
  have hkl : kids.length = kn := by
    obtain ⟨kids', css, e0, _, _, _, h⟩ := ht.kidsIn
    injection e0 with _ _ _ _ e0
    rw [e0]; exact h
  have hkn : kn ≤ 9223372036854775807 := by
    obtain ⟨_, _, _, h, _⟩ := ht.kidsIn
    have := h.1; unfold Roomy at this; omega
  have hc : ∀ j, j < 5 → w.cell? ⟨1, 6 * 5 + j, none⟩ = ([.int .u8 0, .int .u8 105, .int .i64 1, .int .i64 0, .int .i64 (-1)] : List Value)[j]? := fun j hj => hL.shape 6 j (by omega) hj
  have hk2 : Keeps NoB w ((w.alloc (.cells #[.int .u8 6, .string tx, .int .i64 0, .int .i64 pl, .slice ka kn kc] 29)).alloc (.cells #[.int .u8 0, .int .u8 105, .int .i64 1, .int .i64 0, .int .i64 (-1)] 67)) := ((Keeps.refl NoB w).alloc _).alloc _
  have hk1 : Keeps NoB w (w.alloc (.cells #[.int .u8 6, .string tx, .int .i64 0, .int .i64 pl, .slice ka kn kc] 29)) := (Keeps.refl NoB w).alloc _
  have HW := hide (worded_0 ((w.alloc (.cells #[.int .u8 6, .string tx, .int .i64 0, .int .i64 pl, .slice ka kn kc] 29)).alloc (.cells #[.int .u8 0, .int .u8 105, .int .i64 1, .int .i64 0, .int .i64 (-1)] 67)) 6 tx 0 pl ka kn kc kn)
  have heq := item6_eq tx 0 pl kids hpl
  have p0 : (w.alloc (.cells #[.int .u8 6, .string tx, .int .i64 0, .int .i64 pl, .slice ka kn kc] 29)).cell? ⟨1, 30, none⟩ = some (.int .u8 0) := hk1.cell id (hc 0 (by omega))
  have p1 : (w.alloc (.cells #[.int .u8 6, .string tx, .int .i64 0, .int .i64 pl, .slice ka kn kc] 29)).cell? ⟨1, 31, none⟩ = some (.int .u8 105) := hk1.cell id (hc 1 (by omega))
  have p2 : (w.alloc (.cells #[.int .u8 6, .string tx, .int .i64 0, .int .i64 pl, .slice ka kn kc] 29)).cell? ⟨1, 32, none⟩ = some (.int .i64 1) := hk1.cell id (hc 2 (by omega))
  have p3 : (w.alloc (.cells #[.int .u8 6, .string tx, .int .i64 0, .int .i64 pl, .slice ka kn kc] 29)).cell? ⟨1, 33, none⟩ = some (.int .i64 0) := hk1.cell id (hc 3 (by omega))
  have p4 : (w.alloc (.cells #[.int .u8 6, .string tx, .int .i64 0, .int .i64 pl, .slice ka kn kc] 29)).cell? ⟨1, 34, none⟩ = some (.int .i64 (-1)) := hk1.cell id (hc 4 (by omega))
  have hgl : 1 < w.heap.size := World.block_lt_of_cell? w _ (hc 0 (by omega))
  have b4 : decide (pl < 0) = false := by simp; omega
  have HK2 := hide hk2
  have HKL := hide hkl; have HT := hide ht; have HH := hide H; have HLD := hide hL
  clear hL ht H hk1 hk2 hkl hc
  by_cases c2 : (0 : Int) = 1 ∧ kn < 2
  · exact absurd c2.1 (by decide)
  have HV0 : Hid (okM 0 (.mk 6 tx 0 pl kids) = (tx.data.toList.isEmpty && okAs (kidsM 6 0 kids.length).1 (kidsM 6 0 kids.length).2 kids)) := hide (by
    rw [heq, HKL.out]
    have : (decide ((0 : Int) = 1) && decide (kn < 2)) = false := by
      cases h : (decide ((0 : Int) = 1) && decide (kn < 2)) with
      | false => rfl
      | true =>
        rw [Bool.and_eq_true, decide_eq_true_iff, decide_eq_true_iff] at h
        exact absurd h c2
    rw [this]
    simp)
  have d8 : (0 : Int) = 1 → decide ((kn : Int) < 2) = false := fun h => by simp; omega
  have tok : True := trivial
  clear heq c2 d8
  obtain ⟨b, hb⟩ : ∃ b, tx.data.toList.isEmpty = b := ⟨_, rfl⟩
  have HB : Hid (wordedN 0 tx.data.toList kn = b) := hide (by rw [← hb]; rfl)
  rw [hb] at HV0
  clear hb
  cases b with
  | false =>
    go_enter Tryd.func32, Tryd.ntmps32
    go_wp2_with
      first
      | (go_at_call 43
         refine HW.out.mono ?_
         rintro e w2 ⟨rfl, hk⟩
         rw [HB.out]
         have HK3 := hide (HK2.out.trans' hk (fun _ _ => id) (fun _ _ => id) : Keeps NoB w w2)
         clear hk)
      | fail
    go_ret
    exact ⟨by rw [HV0.out]; rfl, HK3.out⟩
  | true =>
    go_enter Tryd.func32, Tryd.ntmps32
    go_wp2_with
      first
      | (go_at_call 43
         refine HW.out.mono ?_
         rintro e w2 ⟨rfl, hk⟩
         rw [HB.out]
         have HK3 := hide (HK2.out.trans' hk (fun _ _ => id) (fun _ _ => id) : Keeps NoB w w2)
         have q0 : w2.cell? ⟨w.heap.size, 0, none⟩ = some (.int .u8 6) := hk.cell id (((Blk.new w 29 #[.int .u8 6, .string tx, .int .i64 0, .int .i64 pl, .slice ka kn kc]).alloc (.cells #[.int .u8 0, .int .u8 105, .int .i64 1, .int .i64 0, .int .i64 (-1)] 67)).cell 0)
         have q1 : w2.cell? ⟨w.heap.size, 1, none⟩ = some (.string tx) := hk.cell id (((Blk.new w 29 #[.int .u8 6, .string tx, .int .i64 0, .int .i64 pl, .slice ka kn kc]).alloc (.cells #[.int .u8 0, .int .u8 105, .int .i64 1, .int .i64 0, .int .i64 (-1)] 67)).cell 1)
         have q2 : w2.cell? ⟨w.heap.size, 2, none⟩ = some (.int .i64 0) := hk.cell id (((Blk.new w 29 #[.int .u8 6, .string tx, .int .i64 0, .int .i64 pl, .slice ka kn kc]).alloc (.cells #[.int .u8 0, .int .u8 105, .int .i64 1, .int .i64 0, .int .i64 (-1)] 67)).cell 2)
         have q3 : w2.cell? ⟨w.heap.size, 3, none⟩ = some (.int .i64 pl) := hk.cell id (((Blk.new w 29 #[.int .u8 6, .string tx, .int .i64 0, .int .i64 pl, .slice ka kn kc]).alloc (.cells #[.int .u8 0, .int .u8 105, .int .i64 1, .int .i64 0, .int .i64 (-1)] 67)).cell 3)
         have q4 : w2.cell? ⟨w.heap.size, 4, none⟩ = some (.slice ka kn kc) := hk.cell id (((Blk.new w 29 #[.int .u8 6, .string tx, .int .i64 0, .int .i64 pl, .slice ka kn kc]).alloc (.cells #[.int .u8 0, .int .u8 105, .int .i64 1, .int .i64 0, .int .i64 (-1)] 67)).cell 4)
         have q5 : w2.cell? ⟨w.heap.size + 1, 1, none⟩ = some (.int .u8 105) := hk.cell id ((Blk.newB w (.cells #[.int .u8 6, .string tx, .int .i64 0, .int .i64 pl, .slice ka kn kc] 29) 67 #[.int .u8 0, .int .u8 105, .int .i64 1, .int .i64 0, .int .i64 (-1)]).cell 1)
         clear hk)
      | (go_at_call 44
         refine (kids_105 (okM 0) _ w2 B F 6 tx 0 pl ka kn kc (HLD.out.keep HK3.out) (NodeIn.keep HK3.out (fun _ _ => id) _ _ HT.out) (fun x hx => not1_32 _ x (HH.out x hx).ok (HH.out x hx).item)).mono ?_
         rintro e w3 ⟨rfl, hk⟩
         have HK5 := hide (HK3.out.trans' hk (fun _ _ => id) (fun _ _ => id) : Keeps NoB w w3)
         clear hk)
      | fail
    go_ret
    exact ⟨by rw [HV0.out, show okAs (kidsM 6 0 kids.length).1 (kidsM 6 0 kids.length).2 kids = (Nd.mk 6 tx 0 pl kids).kids.all (okM 0) from okAs_nil 0 kids]; simp, HK5.out⟩
set_option maxRecDepth 100000 in
set_option maxHeartbeats 2000000 in
theorem item6_1 (w : World) (B : Nat → Prop) (F : Bool) (tx : ByteArray) (pl : Int) (ka : Option Addr) (kn kc : Nat) (kids : List Nd) (hL : LaidN w) (ht : NodeIn w B F [.int .u8 6, .string tx, .int .i64 1, .int .i64 pl, .slice ka kn kc] (.mk 6 tx 1 pl kids)) (htx : tx.size ≤ 140737488355328) (hpl : 0 ≤ pl) (H : ∀ x ∈ kids, SaidOf x) :
    Calls Tryd.prog 32 #[.agg #[.int .u8 6, .string tx, .int .i64 1, .int .i64 pl, .slice ka kn kc]] w (BoolP (okM 0 (.mk 6 tx 1 pl kids)) w) := by
  have hkl : kids.length = kn := by
    obtain ⟨kids', css, e0, _, _, _, h⟩ := ht.kidsIn
    injection e0 with _ _ _ _ e0
    rw [e0]; exact h
  have hkn : kn ≤ 9223372036854775807 := by
    obtain ⟨_, _, _, h, _⟩ := ht.kidsIn
    have := h.1; unfold Roomy at this; omega
  have hc : ∀ j, j < 5 → w.cell? ⟨1, 6 * 5 + j, none⟩ = ([.int .u8 0, .int .u8 105, .int .i64 1, .int .i64 0, .int .i64 (-1)] : List Value)[j]? := fun j hj => hL.shape 6 j (by omega) hj
  have hk2 : Keeps NoB w ((w.alloc (.cells #[.int .u8 6, .string tx, .int .i64 1, .int .i64 pl, .slice ka kn kc] 29)).alloc (.cells #[.int .u8 0, .int .u8 105, .int .i64 1, .int .i64 0, .int .i64 (-1)] 67)) := ((Keeps.refl NoB w).alloc _).alloc _
  have hk1 : Keeps NoB w (w.alloc (.cells #[.int .u8 6, .string tx, .int .i64 1, .int .i64 pl, .slice ka kn kc] 29)) := (Keeps.refl NoB w).alloc _
  have HW := hide (worded_0 ((w.alloc (.cells #[.int .u8 6, .string tx, .int .i64 1, .int .i64 pl, .slice ka kn kc] 29)).alloc (.cells #[.int .u8 0, .int .u8 105, .int .i64 1, .int .i64 0, .int .i64 (-1)] 67)) 6 tx 1 pl ka kn kc kn)
  have heq := item6_eq tx 1 pl kids hpl
  have p0 : (w.alloc (.cells #[.int .u8 6, .string tx, .int .i64 1, .int .i64 pl, .slice ka kn kc] 29)).cell? ⟨1, 30, none⟩ = some (.int .u8 0) := hk1.cell id (hc 0 (by omega))
  have p1 : (w.alloc (.cells #[.int .u8 6, .string tx, .int .i64 1, .int .i64 pl, .slice ka kn kc] 29)).cell? ⟨1, 31, none⟩ = some (.int .u8 105) := hk1.cell id (hc 1 (by omega))
  have p2 : (w.alloc (.cells #[.int .u8 6, .string tx, .int .i64 1, .int .i64 pl, .slice ka kn kc] 29)).cell? ⟨1, 32, none⟩ = some (.int .i64 1) := hk1.cell id (hc 2 (by omega))
  have p3 : (w.alloc (.cells #[.int .u8 6, .string tx, .int .i64 1, .int .i64 pl, .slice ka kn kc] 29)).cell? ⟨1, 33, none⟩ = some (.int .i64 0) := hk1.cell id (hc 3 (by omega))
  have p4 : (w.alloc (.cells #[.int .u8 6, .string tx, .int .i64 1, .int .i64 pl, .slice ka kn kc] 29)).cell? ⟨1, 34, none⟩ = some (.int .i64 (-1)) := hk1.cell id (hc 4 (by omega))
  have hgl : 1 < w.heap.size := World.block_lt_of_cell? w _ (hc 0 (by omega))
  have b4 : decide (pl < 0) = false := by simp; omega
  have HK2 := hide hk2
  have HKL := hide hkl; have HT := hide ht; have HH := hide H; have HLD := hide hL
  clear hL ht H hk1 hk2 hkl hc
  by_cases c2 : (1 : Int) = 1 ∧ kn < 2
  · exact item6_bad w tx pl ka kn kc _ (by rw [heq, HKL.out]; simp [c2.2]) c2.2 hpl HLD.out
  have HV0 : Hid (okM 0 (.mk 6 tx 1 pl kids) = (tx.data.toList.isEmpty && okAs (kidsM 6 1 kids.length).1 (kidsM 6 1 kids.length).2 kids)) := hide (by
    rw [heq, HKL.out]
    have : (decide ((1 : Int) = 1) && decide (kn < 2)) = false := by
      cases h : (decide ((1 : Int) = 1) && decide (kn < 2)) with
      | false => rfl
      | true =>
        rw [Bool.and_eq_true, decide_eq_true_iff, decide_eq_true_iff] at h
        exact absurd h c2
    rw [this]
    simp)
  have d8 : (1 : Int) = 1 → decide ((kn : Int) < 2) = false := fun h => by simp; omega
  have d9 := d8 rfl
  clear heq c2 d8
  obtain ⟨b, hb⟩ : ∃ b, tx.data.toList.isEmpty = b := ⟨_, rfl⟩
  have HB : Hid (wordedN 0 tx.data.toList kn = b) := hide (by rw [← hb]; rfl)
  rw [hb] at HV0
  clear hb
  cases b with
  | false =>
    go_enter Tryd.func32, Tryd.ntmps32
    go_wp2_with
      first
      | (go_at_call 43
         refine HW.out.mono ?_
         rintro e w2 ⟨rfl, hk⟩
         rw [HB.out]
         have HK3 := hide (HK2.out.trans' hk (fun _ _ => id) (fun _ _ => id) : Keeps NoB w w2)
         clear hk)
      | fail
    go_ret
    exact ⟨by rw [HV0.out]; rfl, HK3.out⟩
  | true =>
    go_enter Tryd.func32, Tryd.ntmps32
    go_wp2_with
      first
      | (go_at_call 43
         refine HW.out.mono ?_
         rintro e w2 ⟨rfl, hk⟩
         rw [HB.out]
         have HK3 := hide (HK2.out.trans' hk (fun _ _ => id) (fun _ _ => id) : Keeps NoB w w2)
         have q0 : w2.cell? ⟨w.heap.size, 0, none⟩ = some (.int .u8 6) := hk.cell id (((Blk.new w 29 #[.int .u8 6, .string tx, .int .i64 1, .int .i64 pl, .slice ka kn kc]).alloc (.cells #[.int .u8 0, .int .u8 105, .int .i64 1, .int .i64 0, .int .i64 (-1)] 67)).cell 0)
         have q1 : w2.cell? ⟨w.heap.size, 1, none⟩ = some (.string tx) := hk.cell id (((Blk.new w 29 #[.int .u8 6, .string tx, .int .i64 1, .int .i64 pl, .slice ka kn kc]).alloc (.cells #[.int .u8 0, .int .u8 105, .int .i64 1, .int .i64 0, .int .i64 (-1)] 67)).cell 1)
         have q2 : w2.cell? ⟨w.heap.size, 2, none⟩ = some (.int .i64 1) := hk.cell id (((Blk.new w 29 #[.int .u8 6, .string tx, .int .i64 1, .int .i64 pl, .slice ka kn kc]).alloc (.cells #[.int .u8 0, .int .u8 105, .int .i64 1, .int .i64 0, .int .i64 (-1)] 67)).cell 2)
         have q3 : w2.cell? ⟨w.heap.size, 3, none⟩ = some (.int .i64 pl) := hk.cell id (((Blk.new w 29 #[.int .u8 6, .string tx, .int .i64 1, .int .i64 pl, .slice ka kn kc]).alloc (.cells #[.int .u8 0, .int .u8 105, .int .i64 1, .int .i64 0, .int .i64 (-1)] 67)).cell 3)
         have q4 : w2.cell? ⟨w.heap.size, 4, none⟩ = some (.slice ka kn kc) := hk.cell id (((Blk.new w 29 #[.int .u8 6, .string tx, .int .i64 1, .int .i64 pl, .slice ka kn kc]).alloc (.cells #[.int .u8 0, .int .u8 105, .int .i64 1, .int .i64 0, .int .i64 (-1)] 67)).cell 4)
         have q5 : w2.cell? ⟨w.heap.size + 1, 1, none⟩ = some (.int .u8 105) := hk.cell id ((Blk.newB w (.cells #[.int .u8 6, .string tx, .int .i64 1, .int .i64 pl, .slice ka kn kc] 29) 67 #[.int .u8 0, .int .u8 105, .int .i64 1, .int .i64 0, .int .i64 (-1)]).cell 1)
         clear hk)
      | (go_at_call 44
         refine (kids_105 (okM 0) _ w2 B F 6 tx 1 pl ka kn kc (HLD.out.keep HK3.out) (NodeIn.keep HK3.out (fun _ _ => id) _ _ HT.out) (fun x hx => not1_32 _ x (HH.out x hx).ok (HH.out x hx).item)).mono ?_
         rintro e w3 ⟨rfl, hk⟩
         have HK5 := hide (HK3.out.trans' hk (fun _ _ => id) (fun _ _ => id) : Keeps NoB w w3)
         clear hk)
      | fail
    go_ret
    exact ⟨by rw [HV0.out, show okAs (kidsM 6 1 kids.length).1 (kidsM 6 1 kids.length).2 kids = (Nd.mk 6 tx 1 pl kids).kids.all (okM 0) from okAs_nil 0 kids]; simp, HK5.out⟩

set_option maxRecDepth 100000 in
/-- Of what can be no item. -/
theorem item_bad (w : World) (kd : Int) (tx : ByteArray) (nm pl : Int) (ka : Option Addr) (kn kc : Nat) (b : Bool) (hb : b = false) (hkd : 0 ≤ kd ∧ kd ≤ 255) (h : 20 ≤ kd ∨ kd = 0 ∨ kd = 15 ∨ kd = 18 ∨ pl < 0) : Calls Tryd.prog 32 #[.agg #[.int .u8 kd, .string tx, .int .i64 nm, .int .i64 pl, .slice ka kn kc]] w (BoolP b w) := by
  have HK := hide ((Keeps.refl NoB w).alloc (.cells #[.int .u8 kd, .string tx, .int .i64 nm, .int .i64 pl, .slice ka kn kc] 29))
  subst hb
  obtain ⟨kk, rfl⟩ := Int.eq_ofNat_of_zero_le hkd.1
  by_cases h1 : 20 ≤ (kk : Int)
  · have d1 : decide (20 ≤ (kk : Int)) = true := by simpa using h1
    clear h
    go_enter Tryd.func32, Tryd.ntmps32
    go_wp2
    go_ret
    exact ⟨rfl, HK.out⟩
  · have d1 : decide (20 ≤ (kk : Int)) = false := by simpa using h1
    by_cases h2 : (kk : Int) = 0
    · have d2 : ((kk : Int) == 0) = true := by simpa using h2
      clear h h2
      go_enter Tryd.func32, Tryd.ntmps32
      go_wp2
      go_ret
      exact ⟨rfl, HK.out⟩
    · have d2 : ((kk : Int) == 0) = false := by simpa using h2
      by_cases h3 : (kk : Int) = 15
      · have d3 : ((kk : Int) == 15) = true := by simpa using h3
        clear h h3
        go_enter Tryd.func32, Tryd.ntmps32
        go_wp2
        go_ret
        exact ⟨rfl, HK.out⟩
      · have d3 : ((kk : Int) == 15) = false := by simpa using h3
        by_cases h4 : (kk : Int) = 18
        · have d4 : ((kk : Int) == 18) = true := by simpa using h4
          clear h h4
          go_enter Tryd.func32, Tryd.ntmps32
          go_wp2
          go_ret
          exact ⟨rfl, HK.out⟩
        · have d4 : ((kk : Int) == 18) = false := by simpa using h4
          have h5 : pl < 0 := by omega
          have d5 : decide (pl < 0) = true := by simpa using h5
          clear h
          go_enter Tryd.func32, Tryd.ntmps32
          go_wp2
          go_ret
          exact ⟨rfl, HK.out⟩
theorem item_false {k : Int} {tx : ByteArray} {num pl : Int} {kids : List Nd} (h : shapeN k = none ∨ pl < 0) : okM 0 (.mk k tx num pl kids) = false := by
  rw [okM_zero]
  unfold itemH
  rcases h with h | h
  · rw [h]; simp
  · rw [decide_eq_false (by omega)]; simp
/-- node.item, where the functions on the kids are known. -/
theorem item_of (t : Nd) (ho : okN t) (H : ∀ x ∈ t.kids, SaidOf x) : Says 32 (okM 0) t := by
  intro w B F kd tx nm pl ka kn kc hL _ ht
  obtain ⟨kids, css, rfl, _⟩ := ht.kidsIn
  unfold okN at ho
  obtain ⟨hkd, htx, _, _, _⟩ := ho
  by_cases hpl : pl < 0
  · exact item_bad w kd tx nm pl ka kn kc _ (item_false (.inr hpl)) hkd (by omega)
  cases hsh : shapeN kd with
  | none =>
    have hn : 20 ≤ kd ∨ kd = 0 ∨ kd = 15 ∨ kd = 18 := by
      by_cases hh : 20 ≤ kd ∨ kd = 0 ∨ kd = 15 ∨ kd = 18
      · exact hh
      · obtain ⟨_, _, _, _, _, e⟩ := shape_some (k := kd) (by omega)
        rw [e] at hsh; cases hsh
    exact item_bad w kd tx nm pl ka kn kc _ (item_false (.inl hsh)) hkd (by omega)
  | some x =>
    obtain ⟨st, sq, sm, sl, so⟩ := x
    obtain ⟨kk, rfl⟩ := Int.eq_ofNat_of_zero_le hkd.1
    by_cases h6 : kk = 6
    · subst h6
      by_cases h0 : nm = 0
      · subst h0
        exact item6_0 w B F tx pl ka kn kc kids hL ht htx (by omega) H
      by_cases h1 : nm = 1
      · subst h1
        exact item6_1 w B F tx pl ka kn kc kids hL ht htx (by omega) H
      · have hf : okM 0 (.mk 6 tx nm pl kids) = false := by
          rw [item6_eq tx nm pl kids (by omega)]
          cases h : (decide (0 ≤ nm) && decide (nm ≤ 1)) with
          | false => rfl
          | true =>
            simp only [Bool.and_eq_true, decide_eq_true_eq] at h
            omega
        exact item6_out w tx nm pl ka kn kc _ hf (by omega) (by omega) hL
    · exact item_walk kk h6 st sq sm sl so w B F tx nm pl ka kn kc kids hsh hL ht htx (by omega) H
end Go.Proofs.YtincajfanhanjaaDoor
namespace Go.Proofs.YtincajfanhanjaaDoor
open Go.RowKit

theorem okM_one (k : Int) (tx : ByteArray) (num pl : Int) (kids : List Nd) : okM 1 (.mk k tx num pl kids) = (decide (k = 19) && okM 0 (.mk k tx num pl kids)) := by
  rw [okM_zero]; unfold okM; rw [if_neg (by decide), if_pos rfl, Bool.and_assoc]
set_option maxRecDepth 100000 in
theorem body_of (t : Nd) (H : Says 32 (okM 0) t) : Says 54 (okM 1) t := by
  intro w B F kd tx nm pl ka kn kc hL ho ht
  have hk : Keeps NoB w (w.alloc (.cells #[.int .u8 kd, .string tx, .int .i64 nm, .int .i64 pl, .slice ka kn kc] 29)) := (Keeps.refl NoB w).alloc _
  have HI := hide (H _ B F kd tx nm pl ka kn kc (hL.keep hk) ho (NodeIn.keep hk (fun _ _ => id) _ _ ht))
  obtain ⟨kids, css, rfl, _⟩ := ht.kidsIn
  have HE : Hid (okM 1 (.mk kd tx nm pl kids) = (decide (kd = 19) && okM 0 (.mk kd tx nm pl kids))) := hide (okM_one kd tx nm pl kids)
  have HK := hide hk
  clear hL ho ht H hk
  by_cases h : kd = 19
  · have HH := hide h
    have b1 : (kd == 19) = true := by simpa using h
    clear h
    go_enter Tryd.func54, Tryd.ntmps54
    go_wp2_with
      first
      | (go_at_call 32
         refine HI.out.mono ?_
         rintro e w2 ⟨rfl, hk⟩
         have HK2 := hide (HK.out.trans' hk (fun _ _ => id) (fun _ _ => id) : Keeps NoB w w2)
         clear hk)
      | fail
    go_ret
    exact ⟨by rw [HE.out, decide_eq_true HH.out]; simp, HK2.out⟩
  · have HH := hide h
    have b1 : (kd == 19) = false := by simpa using h
    clear h
    go_enter Tryd.func54, Tryd.ntmps54
    go_wp2
    go_ret
    exact ⟨by rw [HE.out, decide_eq_false HH.out]; rfl, HK.out⟩
end Go.Proofs.YtincajfanhanjaaDoor
