/- node.item, body, qualifies, after: walks. -/
import Derived.Test.YtincajfanhanjaaDoorNdItem
namespace Go.Proofs.YtincajfanhanjaaDoor
open Go.RowKit

theorem okM_zero (k : Int) (tx : ByteArray) (num pl : Int) (kids : List Nd) : okM 0 (.mk k tx num pl kids) = (itemH k tx.data.toList num pl kids.length && okAs (kidsM k num kids.length).1 (kidsM k num kids.length).2 kids) := by
  unfold okM; rw [if_pos rfl]
theorem Blk.newB (w : World) (o : Obj) (t : TypeId) (cs : Array Value) : Blk ((w.alloc o).alloc (.cells cs t)) (w.heap.size + 1) t cs := by
  have h := Blk.new (w.alloc o) t cs
  simpa using h
set_option maxRecDepth 100000 in
set_option maxHeartbeats 4000000 in
theorem item_walk (kk : Nat) (h6 : kk ≠ 6) (st sq sm : Int) (sl : Nat) (so : Int) (w : World) (B : Nat → Prop) (F : Bool) (tx : ByteArray) (nm pl : Int) (ka : Option Addr) (kn kc : Nat) (kids : List Nd) (hsh : shapeN kk = some (st, sq, sm, sl, so)) (hL : LaidN w) (ht : NodeIn w B F [.int .u8 kk, .string tx, .int .i64 nm, .int .i64 pl, .slice ka kn kc] (.mk kk tx nm pl kids)) (htx : tx.size ≤ 140737488355328) (hpl : 0 ≤ pl) (H : ∀ x ∈ kids, SaidOf x) :
    Calls Tryd.prog 32 #[.agg #[.int .u8 kk, .string tx, .int .i64 nm, .int .i64 pl, .slice ka kn kc]] w (BoolP (okM 0 (.mk kk tx nm pl kids)) w) := by
  obtain ⟨r1, r2, r3, r4, r5, r6, r7, r8, r9, r10, r11, r12, r13, _⟩ := shape_range hsh
  have hkl : kids.length = kn := by
    obtain ⟨kids', css, e0, _, _, _, h⟩ := ht.kidsIn
    injection e0 with _ _ _ _ e0
    rw [e0]; exact h
  have hkn : kn ≤ 9223372036854775807 := by
    obtain ⟨_, _, _, h, _⟩ := ht.kidsIn
    have := h.1; unfold Roomy at this; omega
  have hc : ∀ j, j < 5 → w.cell? ⟨1, kk * 5 + j, none⟩ = ([.int .u8 st, .int .u8 sq, .int .i64 sm, .int .i64 sl, .int .i64 so] : List Value)[j]? := fun j hj => by
    have h := hL.shape kk j (by omega) hj
    unfold shapeC at h
    rw [hsh] at h
    exact h
  have hk2 : Keeps NoB w ((w.alloc (.cells #[.int .u8 kk, .string tx, .int .i64 nm, .int .i64 pl, .slice ka kn kc] 29)).alloc (.cells #[.int .u8 st, .int .u8 sq, .int .i64 sm, .int .i64 sl, .int .i64 so] 67)) := ((Keeps.refl NoB w).alloc _).alloc _
  have hk1 : Keeps NoB w (w.alloc (.cells #[.int .u8 kk, .string tx, .int .i64 nm, .int .i64 pl, .slice ka kn kc] 29)) := (Keeps.refl NoB w).alloc _
  have HW := hide (worded_of hsh _ kk tx nm pl ka kn kc (hL.keep hk2) htx hkn)
  have heq : okM 0 (.mk kk tx nm pl kids) = (decide (0 ≤ nm) && decide (nm ≤ sm) && decide (sl ≤ kn) && (decide (so < 0) || decide ((kn : Int) ≤ so)) && wordedN st tx.data.toList kn && okAs (kidsM kk nm kids.length).1 (kidsM kk nm kids.length).2 kids) := by
    rw [okM_zero]
    unfold itemH
    rw [hsh, decide_eq_true hpl, Bool.true_and, hkl]
    have : decide ((kk : Int) = 6) = false := by simp; omega
    simp only [this, Bool.false_and, Bool.not_false, Bool.and_true]
  have HNO : Hid (¬ (0 ≤ nm ∧ nm ≤ sm ∧ sl ≤ kn ∧ (so < 0 ∨ (kn : Int) ≤ so)) → okM 0 (.mk kk tx nm pl kids) = false) := hide (fun h => by
    rw [heq]
    cases h0 : (decide (0 ≤ nm) && decide (nm ≤ sm) && decide (sl ≤ kn) && (decide (so < 0) || decide ((kn : Int) ≤ so))) with
    | false => rfl
    | true => exact absurd (by simpa [and_assoc] using h0) h)
  have HYES : Hid ((0 ≤ nm ∧ nm ≤ sm ∧ sl ≤ kn ∧ (so < 0 ∨ (kn : Int) ≤ so)) → okM 0 (.mk kk tx nm pl kids) = (wordedN st tx.data.toList kn && okAs (kidsM kk nm kids.length).1 (kidsM kk nm kids.length).2 kids)) := hide (fun h => by
    rw [heq]
    have h0 : (decide (0 ≤ nm) && decide (nm ≤ sm) && decide (sl ≤ kn) && (decide (so < 0) || decide ((kn : Int) ≤ so))) = true := by simpa [and_assoc] using h
    rw [h0, Bool.true_and])
  clear heq
  have p0 : (w.alloc (.cells #[.int .u8 kk, .string tx, .int .i64 nm, .int .i64 pl, .slice ka kn kc] 29)).cell? ⟨1, kk * 5, none⟩ = some (.int .u8 st) := hk1.cell id (hc 0 (by omega))
  have p1 : (w.alloc (.cells #[.int .u8 kk, .string tx, .int .i64 nm, .int .i64 pl, .slice ka kn kc] 29)).cell? ⟨1, kk * 5 + 1, none⟩ = some (.int .u8 sq) := hk1.cell id (hc 1 (by omega))
  have p2 : (w.alloc (.cells #[.int .u8 kk, .string tx, .int .i64 nm, .int .i64 pl, .slice ka kn kc] 29)).cell? ⟨1, kk * 5 + 2, none⟩ = some (.int .i64 sm) := hk1.cell id (hc 2 (by omega))
  have p3 : (w.alloc (.cells #[.int .u8 kk, .string tx, .int .i64 nm, .int .i64 pl, .slice ka kn kc] 29)).cell? ⟨1, kk * 5 + 3, none⟩ = some (.int .i64 sl) := hk1.cell id (hc 3 (by omega))
  have p4 : (w.alloc (.cells #[.int .u8 kk, .string tx, .int .i64 nm, .int .i64 pl, .slice ka kn kc] 29)).cell? ⟨1, kk * 5 + 4, none⟩ = some (.int .i64 so) := hk1.cell id (hc 4 (by omega))
  have hgl : 1 < w.heap.size := World.block_lt_of_cell? w _ (hc 0 (by omega))
  have b1 : ((kk : Int) == 0) = false := by simp; omega
  have b2 : ((kk : Int) == 15) = false := by simp; omega
  have b3 : ((kk : Int) == 18) = false := by simp; omega
  have b4 : decide (pl < 0) = false := by simp; omega
  have b6 : ((kk : Int) == 6) = false := by simp; omega
  have k20 : (kk : Int) < 20 := by omega
  have HK2 := hide hk2
  have HKL := hide hkl; have HSH := hide hsh; have HT := hide ht; have HH := hide H; have HLD := hide hL
  clear hsh hL ht H hk1 hk2 hkl hc r3 r4 r5 r6 r7 r8 h6
  by_cases c1 : nm < 0
  · have HV := hide (HNO.out (by omega))
    have d1 : decide (nm < 0) = true := by simpa using c1
    go_enter Tryd.func32, Tryd.ntmps32
    go_wp2
    go_ret
    exact ⟨by rw [HV.out]; rfl, HK2.out⟩
  have d1 : decide (nm < 0) = false := by simpa using c1
  by_cases c2 : sm < nm
  · have HV := hide (HNO.out (by omega))
    have d2 : decide (sm < nm) = true := by simpa using c2
    go_enter Tryd.func32, Tryd.ntmps32
    go_wp2
    go_ret
    exact ⟨by rw [HV.out]; rfl, HK2.out⟩
  have d2 : decide (sm < nm) = false := by simpa using c2
  by_cases c3 : kn < sl
  · have HV := hide (HNO.out (by omega))
    have d3 : decide (kn < sl) = true := by simpa using c3
    go_enter Tryd.func32, Tryd.ntmps32
    go_wp2
    go_ret
    exact ⟨by rw [HV.out]; rfl, HK2.out⟩
  have d3 : decide (kn < sl) = false := by simpa using c3
  by_cases c4 : so < 0
  · have d4 : decide (0 ≤ so) = false := by simp; omega
    have hgood : 0 ≤ nm ∧ nm ≤ sm ∧ sl ≤ kn ∧ (so < 0 ∨ (kn : Int) ≤ so) := ⟨by omega, by omega, by omega, by omega⟩
    have hv := HYES.out hgood
    have HG := hide hgood
    obtain ⟨b, hb⟩ : ∃ b, wordedN st tx.data.toList kn = b := ⟨_, rfl⟩
    rw [hb] at hv
    have HB := hide hb; have HV := hide hv
    clear hb hv hgood HYES HNO
    cases b with
    | false =>
      go_enter Tryd.func32, Tryd.ntmps32
      go_wp2_with
        first
        | (go_at_call 43
           refine HW.out.mono ?_
           rintro e w2 ⟨rfl, hk⟩
           rw [HB.out]
           have HK3 := hide (HK2.out.trans' hk (fun _ _ => id) (fun _ _ => id) : Keeps NoB w w2)
           clear hk)
        | fail
      go_ret
      exact ⟨by rw [HV.out]; rfl, HK3.out⟩
    | true =>
      go_enter Tryd.func32, Tryd.ntmps32
      go_wp2_with
        first
        | (go_at_call 43
           refine HW.out.mono ?_
           rintro e w2 ⟨rfl, hk⟩
           rw [HB.out]
           have HK3 := hide (HK2.out.trans' hk (fun _ _ => id) (fun _ _ => id) : Keeps NoB w w2)
           have q0 : w2.cell? ⟨w.heap.size, 0, none⟩ = some (.int .u8 kk) := hk.cell id (((Blk.new w 29 #[.int .u8 kk, .string tx, .int .i64 nm, .int .i64 pl, .slice ka kn kc]).alloc (.cells #[.int .u8 st, .int .u8 sq, .int .i64 sm, .int .i64 sl, .int .i64 so] 67)).cell 0)
           have q1 : w2.cell? ⟨w.heap.size, 1, none⟩ = some (.string tx) := hk.cell id (((Blk.new w 29 #[.int .u8 kk, .string tx, .int .i64 nm, .int .i64 pl, .slice ka kn kc]).alloc (.cells #[.int .u8 st, .int .u8 sq, .int .i64 sm, .int .i64 sl, .int .i64 so] 67)).cell 1)
           have q2 : w2.cell? ⟨w.heap.size, 2, none⟩ = some (.int .i64 nm) := hk.cell id (((Blk.new w 29 #[.int .u8 kk, .string tx, .int .i64 nm, .int .i64 pl, .slice ka kn kc]).alloc (.cells #[.int .u8 st, .int .u8 sq, .int .i64 sm, .int .i64 sl, .int .i64 so] 67)).cell 2)
           have q3 : w2.cell? ⟨w.heap.size, 3, none⟩ = some (.int .i64 pl) := hk.cell id (((Blk.new w 29 #[.int .u8 kk, .string tx, .int .i64 nm, .int .i64 pl, .slice ka kn kc]).alloc (.cells #[.int .u8 st, .int .u8 sq, .int .i64 sm, .int .i64 sl, .int .i64 so] 67)).cell 3)
           have q4 : w2.cell? ⟨w.heap.size, 4, none⟩ = some (.slice ka kn kc) := hk.cell id (((Blk.new w 29 #[.int .u8 kk, .string tx, .int .i64 nm, .int .i64 pl, .slice ka kn kc]).alloc (.cells #[.int .u8 st, .int .u8 sq, .int .i64 sm, .int .i64 sl, .int .i64 so] 67)).cell 4)
           have q5 : w2.cell? ⟨w.heap.size + 1, 1, none⟩ = some (.int .u8 sq) := hk.cell id ((Blk.newB w (.cells #[.int .u8 kk, .string tx, .int .i64 nm, .int .i64 pl, .slice ka kn kc] 29) 67 #[.int .u8 st, .int .u8 sq, .int .i64 sm, .int .i64 sl, .int .i64 so]).cell 1)
           clear hk)
        | (go_at_call 44
           refine (kids_of HSH.out w2 B F tx nm pl ka kn kc kids (HLD.out.keep HK3.out) (NodeIn.keep HK3.out (fun _ _ => id) _ _ HT.out) ⟨HG.out.1, HG.out.2.1⟩ (by have := HG.out.2.2.1; have := HKL.out; omega) (by have := HG.out.2.2.2; have := HKL.out; omega) HH.out).mono ?_
           rintro e w3 ⟨rfl, hk⟩
           have HK5 := hide (HK3.out.trans' hk (fun _ _ => id) (fun _ _ => id) : Keeps NoB w w3)
           clear hk)
        | fail
      go_ret
      exact ⟨by rw [HV.out]; simp, HK5.out⟩
  · have d4 : decide (0 ≤ so) = true := by simp; omega
    by_cases c5 : so < (kn : Int)
    · have HV := hide (HNO.out (by omega))
      have d5 : decide (so < (kn : Int)) = true := by simpa using c5
      go_enter Tryd.func32, Tryd.ntmps32
      go_wp2
      go_ret
      exact ⟨by rw [HV.out]; rfl, HK2.out⟩
    · have d5 : decide (so < (kn : Int)) = false := by simpa using c5
      have hgood : 0 ≤ nm ∧ nm ≤ sm ∧ sl ≤ kn ∧ (so < 0 ∨ (kn : Int) ≤ so) := ⟨by omega, by omega, by omega, by omega⟩
      have hv := HYES.out hgood
      have HG := hide hgood
      obtain ⟨b, hb⟩ : ∃ b, wordedN st tx.data.toList kn = b := ⟨_, rfl⟩
      rw [hb] at hv
      have HB := hide hb; have HV := hide hv
      clear hb hv hgood HYES HNO
      cases b with
      | false =>
        go_enter Tryd.func32, Tryd.ntmps32
        go_wp2_with
          first
          | (go_at_call 43
             refine HW.out.mono ?_
             rintro e w2 ⟨rfl, hk⟩
             rw [HB.out]
             have HK3 := hide (HK2.out.trans' hk (fun _ _ => id) (fun _ _ => id) : Keeps NoB w w2)
             clear hk)
          | fail
        go_ret
        exact ⟨by rw [HV.out]; rfl, HK3.out⟩
      | true =>
        go_enter Tryd.func32, Tryd.ntmps32
        go_wp2_with
          first
          | (go_at_call 43
             refine HW.out.mono ?_
             rintro e w2 ⟨rfl, hk⟩
             rw [HB.out]
             have HK3 := hide (HK2.out.trans' hk (fun _ _ => id) (fun _ _ => id) : Keeps NoB w w2)
             have q0 : w2.cell? ⟨w.heap.size, 0, none⟩ = some (.int .u8 kk) := hk.cell id (((Blk.new w 29 #[.int .u8 kk, .string tx, .int .i64 nm, .int .i64 pl, .slice ka kn kc]).alloc (.cells #[.int .u8 st, .int .u8 sq, .int .i64 sm, .int .i64 sl, .int .i64 so] 67)).cell 0)
             have q1 : w2.cell? ⟨w.heap.size, 1, none⟩ = some (.string tx) := hk.cell id (((Blk.new w 29 #[.int .u8 kk, .string tx, .int .i64 nm, .int .i64 pl, .slice ka kn kc]).alloc (.cells #[.int .u8 st, .int .u8 sq, .int .i64 sm, .int .i64 sl, .int .i64 so] 67)).cell 1)
             have q2 : w2.cell? ⟨w.heap.size, 2, none⟩ = some (.int .i64 nm) := hk.cell id (((Blk.new w 29 #[.int .u8 kk, .string tx, .int .i64 nm, .int .i64 pl, .slice ka kn kc]).alloc (.cells #[.int .u8 st, .int .u8 sq, .int .i64 sm, .int .i64 sl, .int .i64 so] 67)).cell 2)
             have q3 : w2.cell? ⟨w.heap.size, 3, none⟩ = some (.int .i64 pl) := hk.cell id (((Blk.new w 29 #[.int .u8 kk, .string tx, .int .i64 nm, .int .i64 pl, .slice ka kn kc]).alloc (.cells #[.int .u8 st, .int .u8 sq, .int .i64 sm, .int .i64 sl, .int .i64 so] 67)).cell 3)
             have q4 : w2.cell? ⟨w.heap.size, 4, none⟩ = some (.slice ka kn kc) := hk.cell id (((Blk.new w 29 #[.int .u8 kk, .string tx, .int .i64 nm, .int .i64 pl, .slice ka kn kc]).alloc (.cells #[.int .u8 st, .int .u8 sq, .int .i64 sm, .int .i64 sl, .int .i64 so] 67)).cell 4)
             have q5 : w2.cell? ⟨w.heap.size + 1, 1, none⟩ = some (.int .u8 sq) := hk.cell id ((Blk.newB w (.cells #[.int .u8 kk, .string tx, .int .i64 nm, .int .i64 pl, .slice ka kn kc] 29) 67 #[.int .u8 st, .int .u8 sq, .int .i64 sm, .int .i64 sl, .int .i64 so]).cell 1)
             clear hk)
          | (go_at_call 44
             refine (kids_of HSH.out w2 B F tx nm pl ka kn kc kids (HLD.out.keep HK3.out) (NodeIn.keep HK3.out (fun _ _ => id) _ _ HT.out) ⟨HG.out.1, HG.out.2.1⟩ (by have := HG.out.2.2.1; have := HKL.out; omega) (by have := HG.out.2.2.2; have := HKL.out; omega) HH.out).mono ?_
             rintro e w3 ⟨rfl, hk⟩
             have HK5 := hide (HK3.out.trans' hk (fun _ _ => id) (fun _ _ => id) : Keeps NoB w w3)
             clear hk)
          | fail
        go_ret
        exact ⟨by rw [HV.out]; simp, HK5.out⟩

end Go.Proofs.YtincajfanhanjaaDoor
