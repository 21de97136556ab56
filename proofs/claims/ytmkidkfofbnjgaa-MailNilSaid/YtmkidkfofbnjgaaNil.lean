/- pigeonholelaw12: MailNil. -/
import Derived.Test.YtmkidkfofbnjgaaSameTs
import Derived.Test.YtmkidkfofbnjgaaAwake
import Derived.Deep.LoopGhost
namespace Go.Proofs.Ytmkidkfofbnjgaa
open Go.RowKit

theorem same_zero (w : World) : Calls Try.prog 27 #[.agg zeroT, .agg zeroT] w fun e w' => e = .returned (.bool true) ∧ Keeps NoB w w' := by
  have he : eqT (flatT 0 ByteArray.empty 0) (flatT 0 ByteArray.empty 0) = true := by simp [flatT, eqT, eqTs, eqL]
  have h := same_term (flatT 0 ByteArray.empty 0) (flatT 0 ByteArray.empty 0) w (fun _ => False) (fun _ => False) false false 0 false none 0 0 ByteArray.empty 0 none 0 0 none 0 0 0 false none 0 0 ByteArray.empty 0 none 0 0 none 0 0 (flat_in w _ _ 0 _ 0) (flat_in w _ _ 0 _ 0)
  rw [he] at h
  exact h

set_option maxRecDepth 100000 in
set_option maxHeartbeats 2000000 in
theorem mail_nil (v0 v1 v2 v3 v4 v5 v6 : Value) (w : World) : Calls Try.prog 8 #[.agg #[v0, v1, v2, v3, v4, v5, v6]] w fun e w' => e = .returned (.bool true) ∧ Keeps NoB w w' := by
  go_enter Try.func8, Try.ntmps8
  go_wp2_with
    first
    | (go_at_call 19
       refine (awake_any _).mono ?_
       rintro e w2 ⟨rfl, hbel⟩
       have HK1 := hide (Keeps.of_below hbel NoB)
       clear hbel)
    | fail
  have HT := hide (show Blk ((w2.alloc (Obj.cells #[Value.slice none 0 0, Value.int IntKind.i64 0, Value.bool false] 61)).alloc (Obj.cells #[Value.pointer none, Value.pointer (some { block := w2.heap.size, off := 0 })] 22)) w.heap.size 33 #[v0, v1, v2, v3, v4, v5, v6] from (((Blk.new w 33 _).keep HK1.out id).alloc _).alloc _)
  have HB := hide (show Blk ((w2.alloc (Obj.cells #[Value.slice none 0 0, Value.int IntKind.i64 0, Value.bool false] 61)).alloc (Obj.cells #[Value.pointer none, Value.pointer (some { block := w2.heap.size, off := 0 })] 22)) w2.heap.size 61 #[.slice none 0 0, .int .i64 0, .bool false] from (Blk.new w2 61 _).alloc _)
  have HA := hide (show Blk ((w2.alloc (Obj.cells #[Value.slice none 0 0, Value.int IntKind.i64 0, Value.bool false] 61)).alloc (Obj.cells #[Value.pointer none, Value.pointer (some { block := w2.heap.size, off := 0 })] 22)) (w2.heap.size + 1) 22 #[.pointer none, .pointer (some ⟨w2.heap.size, 0, none⟩)] from Blk.new2 w2 _ _ _)
  have HK := hide (((((Keeps.refl NoB w).alloc _).trans' HK1.out (fun _ _ => id) (fun _ _ => id)).alloc _).alloc _ : Keeps NoB w ((w2.alloc (Obj.cells #[Value.slice none 0 0, Value.int IntKind.i64 0, Value.bool false] 61)).alloc (Obj.cells #[Value.pointer none, Value.pointer (some { block := w2.heap.size, off := 0 })] 22)))
  generalize ((w2.alloc (Obj.cells #[Value.slice none 0 0, Value.int IntKind.i64 0, Value.bool false] 61)).alloc (Obj.cells #[Value.pointer none, Value.pointer (some { block := w2.heap.size, off := 0 })] 22)) = W3 at *
  have HW2 := hide (show w2.heap.size + 1 < W3.heap.size from HA.out.lt)
  generalize w2.heap.size = g at *
  generalize hB : w.heap.size = bt at *
  clear HK1 w2
  have HBT := hide hB; clear hB
  go_loopw [5] (fun i wr => ∃ k : Nat, k ≤ 2 ∧ i = .int .i64 k ∧ Keeps NoB W3 wr) (fun i _ => 2 - (intOf i).toNat)
  case atStart => exact ⟨0, by omega, rfl, Keeps.refl _ _⟩
  case round =>
    obtain ⟨k, hk, rfl, hkw⟩ := hrel
    have HR := hide hkw; clear hkw
    rcases (by omega : k = 0 ∨ k = 1 ∨ k = 2) with rfl | rfl | rfl
    · have a0 : wr.cell? ⟨g + 1, 0, none⟩ = some (.pointer none) := (HA.out.keep HR.out id).cell 0
      go_wp2_with
        first
        | (go_at_call 23
           refine (begin_nil _).mono ?_
           rintro e w' ⟨rfl, rfl⟩)
        | (go_at_call 26
           refine (next_nil _).mono ?_
           rintro e wA ⟨rfl, hbel⟩
           have HKA := hide (HR.out.trans' (Keeps.of_below hbel NoB) (fun _ _ => id) (fun _ _ => id) : Keeps NoB W3 wA)
           clear hbel a0)
        | (go_at_call 16
           refine (take_nil _).mono ?_
           rintro e wB ⟨rfl, hbel⟩
           have HKB := hide (((HKA.out.alloc _).trans' (Keeps.of_below hbel NoB) (fun _ _ => id) (fun _ _ => id)).alloc (.cells zeroT 33) : Keeps NoB W3 (wB.alloc (.cells zeroT 33)))
           have HX := hide (show Blk (wB.alloc (.cells zeroT 33)) wA.heap.size 33 zeroT from ((Blk.new wA 33 zeroT).keep (Keeps.of_below hbel NoB) id).alloc _)
           have HY := hide (show Blk (wB.alloc (.cells zeroT 33)) wB.heap.size 33 zeroT from Blk.new wB 33 zeroT)
           clear hbel
           have t0 : (wB.alloc (.cells #[.int .u8 0, .bool false, .slice none 0 0, .string ByteArray.empty, .int .i64 0, .slice none 0 0, .slice none 0 0] 33)).cell? ⟨bt, 0, none⟩ = some v0 := (HT.out.keep HKB.out id).cell 0
           have t1 : (wB.alloc (.cells #[.int .u8 0, .bool false, .slice none 0 0, .string ByteArray.empty, .int .i64 0, .slice none 0 0, .slice none 0 0] 33)).cell? ⟨bt, 1, none⟩ = some v1 := (HT.out.keep HKB.out id).cell 1
           have t2 : (wB.alloc (.cells #[.int .u8 0, .bool false, .slice none 0 0, .string ByteArray.empty, .int .i64 0, .slice none 0 0, .slice none 0 0] 33)).cell? ⟨bt, 2, none⟩ = some v2 := (HT.out.keep HKB.out id).cell 2
           have t3 : (wB.alloc (.cells #[.int .u8 0, .bool false, .slice none 0 0, .string ByteArray.empty, .int .i64 0, .slice none 0 0, .slice none 0 0] 33)).cell? ⟨bt, 3, none⟩ = some v3 := (HT.out.keep HKB.out id).cell 3
           have t4 : (wB.alloc (.cells #[.int .u8 0, .bool false, .slice none 0 0, .string ByteArray.empty, .int .i64 0, .slice none 0 0, .slice none 0 0] 33)).cell? ⟨bt, 4, none⟩ = some v4 := (HT.out.keep HKB.out id).cell 4
           have t5 : (wB.alloc (.cells #[.int .u8 0, .bool false, .slice none 0 0, .string ByteArray.empty, .int .i64 0, .slice none 0 0, .slice none 0 0] 33)).cell? ⟨bt, 5, none⟩ = some v5 := (HT.out.keep HKB.out id).cell 5
           have t6 : (wB.alloc (.cells #[.int .u8 0, .bool false, .slice none 0 0, .string ByteArray.empty, .int .i64 0, .slice none 0 0, .slice none 0 0] 33)).cell? ⟨bt, 6, none⟩ = some v6 := (HT.out.keep HKB.out id).cell 6
           skip)
        | (go_at_call 10
           refine (put_nil _ rfl _).mono ?_
           rintro e wC ⟨rfl, hbel⟩
           clear t0 t1 t2 t3 t4 t5 t6
           have HKC := hide (HKB.out.trans' (Keeps.of_below hbel NoB) (fun _ _ => id) (fun _ _ => id) : Keeps NoB W3 wC)
           have HXC := hide (HX.out.keep (Keeps.of_below hbel NoB) id)
           have HYC := hide (HY.out.keep (Keeps.of_below hbel NoB) id)
           clear hbel
           have x0 : wC.cell? ⟨wA.heap.size, 0, none⟩ = some (.int .u8 0) := HXC.out.cell 0
           have x1 : wC.cell? ⟨wA.heap.size, 1, none⟩ = some (.bool false) := HXC.out.cell 1
           have x2 : wC.cell? ⟨wA.heap.size, 2, none⟩ = some (.slice none 0 0) := HXC.out.cell 2
           have x3 : wC.cell? ⟨wA.heap.size, 3, none⟩ = some (.string ByteArray.empty) := HXC.out.cell 3
           have x4 : wC.cell? ⟨wA.heap.size, 4, none⟩ = some (.int .i64 0) := HXC.out.cell 4
           have x5 : wC.cell? ⟨wA.heap.size, 5, none⟩ = some (.slice none 0 0) := HXC.out.cell 5
           have x6 : wC.cell? ⟨wA.heap.size, 6, none⟩ = some (.slice none 0 0) := HXC.out.cell 6
           skip)
        | (go_at_call 27
           clear x0 x1 x2 x3 x4 x5 x6
           refine (same_zero _).mono ?_
           rintro e wD ⟨rfl, hkd⟩
           have HKD := hide (HKC.out.trans' hkd (fun _ _ => id) (fun _ _ => id) : Keeps NoB W3 wD)
           have HYD := hide (HYC.out.keep hkd id)
           clear hkd
           have y0 : wD.cell? ⟨wB.heap.size, 0, none⟩ = some (.int .u8 0) := HYD.out.cell 0
           have y1 : wD.cell? ⟨wB.heap.size, 1, none⟩ = some (.bool false) := HYD.out.cell 1
           have y2 : wD.cell? ⟨wB.heap.size, 2, none⟩ = some (.slice none 0 0) := HYD.out.cell 2
           have y3 : wD.cell? ⟨wB.heap.size, 3, none⟩ = some (.string ByteArray.empty) := HYD.out.cell 3
           have y4 : wD.cell? ⟨wB.heap.size, 4, none⟩ = some (.int .i64 0) := HYD.out.cell 4
           have y5 : wD.cell? ⟨wB.heap.size, 5, none⟩ = some (.slice none 0 0) := HYD.out.cell 5
           have y6 : wD.cell? ⟨wB.heap.size, 6, none⟩ = some (.slice none 0 0) := HYD.out.cell 6
           skip)
        | (go_at_call 27
           clear y0 y1 y2 y3 y4 y5 y6
           refine (same_zero _).mono ?_
           rintro e wE ⟨rfl, hke⟩
           have HKE := hide (HKD.out.trans' hke (fun _ _ => id) (fun _ _ => id) : Keeps NoB W3 wE)
           clear hke)
        | (go_at_call 14
           refine (skip_nil _).mono ?_
           rintro e w' ⟨rfl, rfl⟩)
        | (go_at_call 13
           refine (len_nil _).mono ?_
           rintro e w' ⟨rfl, rfl⟩)
        | (go_at_call 24
           refine (all_nil _).mono ?_
           rintro e w' ⟨rfl, rfl⟩)
        | (go_at_call 29
           refine (copy_nil _).mono ?_
           rintro e w' ⟨rfl, rfl⟩)
        | fail
      go_roundw
      case rel => exact ⟨1, by omega, by go_num, HKE.out⟩
      case measure => simp [intOf]
    · have a0 : wr.cell? ⟨g + 1, 1, none⟩ = some (.pointer (some ⟨g, 0, none⟩)) := (HA.out.keep HR.out id).cell 1
      go_wp2_with
        first
        | (go_at_call 23
           refine (begin_unmade g _ ((HB.out.keep HR.out id).cell 2)).mono ?_
           rintro e w' ⟨rfl, rfl⟩)
        | (go_at_call 26
           refine (next_unmade g _ ((HB.out.keep HR.out id).cell 2)).mono ?_
           rintro e wA ⟨rfl, hbel⟩
           have HKA := hide (HR.out.trans' (Keeps.of_below hbel NoB) (fun _ _ => id) (fun _ _ => id) : Keeps NoB W3 wA)
           clear hbel a0)
        | (go_at_call 16
           refine (take_unmade g _ (((HB.out.keep HKA.out id).alloc _).cell 2)).mono ?_
           rintro e wB ⟨rfl, hbel⟩
           have HKB := hide (((HKA.out.alloc _).trans' (Keeps.of_below hbel NoB) (fun _ _ => id) (fun _ _ => id)).alloc (.cells zeroT 33) : Keeps NoB W3 (wB.alloc (.cells zeroT 33)))
           have HX := hide (show Blk (wB.alloc (.cells zeroT 33)) wA.heap.size 33 zeroT from ((Blk.new wA 33 zeroT).keep (Keeps.of_below hbel NoB) id).alloc _)
           have HY := hide (show Blk (wB.alloc (.cells zeroT 33)) wB.heap.size 33 zeroT from Blk.new wB 33 zeroT)
           clear hbel
           have t0 : (wB.alloc (.cells #[.int .u8 0, .bool false, .slice none 0 0, .string ByteArray.empty, .int .i64 0, .slice none 0 0, .slice none 0 0] 33)).cell? ⟨bt, 0, none⟩ = some v0 := (HT.out.keep HKB.out id).cell 0
           have t1 : (wB.alloc (.cells #[.int .u8 0, .bool false, .slice none 0 0, .string ByteArray.empty, .int .i64 0, .slice none 0 0, .slice none 0 0] 33)).cell? ⟨bt, 1, none⟩ = some v1 := (HT.out.keep HKB.out id).cell 1
           have t2 : (wB.alloc (.cells #[.int .u8 0, .bool false, .slice none 0 0, .string ByteArray.empty, .int .i64 0, .slice none 0 0, .slice none 0 0] 33)).cell? ⟨bt, 2, none⟩ = some v2 := (HT.out.keep HKB.out id).cell 2
           have t3 : (wB.alloc (.cells #[.int .u8 0, .bool false, .slice none 0 0, .string ByteArray.empty, .int .i64 0, .slice none 0 0, .slice none 0 0] 33)).cell? ⟨bt, 3, none⟩ = some v3 := (HT.out.keep HKB.out id).cell 3
           have t4 : (wB.alloc (.cells #[.int .u8 0, .bool false, .slice none 0 0, .string ByteArray.empty, .int .i64 0, .slice none 0 0, .slice none 0 0] 33)).cell? ⟨bt, 4, none⟩ = some v4 := (HT.out.keep HKB.out id).cell 4
           have t5 : (wB.alloc (.cells #[.int .u8 0, .bool false, .slice none 0 0, .string ByteArray.empty, .int .i64 0, .slice none 0 0, .slice none 0 0] 33)).cell? ⟨bt, 5, none⟩ = some v5 := (HT.out.keep HKB.out id).cell 5
           have t6 : (wB.alloc (.cells #[.int .u8 0, .bool false, .slice none 0 0, .string ByteArray.empty, .int .i64 0, .slice none 0 0, .slice none 0 0] 33)).cell? ⟨bt, 6, none⟩ = some v6 := (HT.out.keep HKB.out id).cell 6
           skip)
        | (go_at_call 10
           refine (put_unmade g _ rfl _ ((HB.out.keep HKB.out id).cell 2)).mono ?_
           rintro e wC ⟨rfl, hbel⟩
           clear t0 t1 t2 t3 t4 t5 t6
           have HKC := hide (HKB.out.trans' (Keeps.of_below hbel NoB) (fun _ _ => id) (fun _ _ => id) : Keeps NoB W3 wC)
           have HXC := hide (HX.out.keep (Keeps.of_below hbel NoB) id)
           have HYC := hide (HY.out.keep (Keeps.of_below hbel NoB) id)
           clear hbel
           have x0 : wC.cell? ⟨wA.heap.size, 0, none⟩ = some (.int .u8 0) := HXC.out.cell 0
           have x1 : wC.cell? ⟨wA.heap.size, 1, none⟩ = some (.bool false) := HXC.out.cell 1
           have x2 : wC.cell? ⟨wA.heap.size, 2, none⟩ = some (.slice none 0 0) := HXC.out.cell 2
           have x3 : wC.cell? ⟨wA.heap.size, 3, none⟩ = some (.string ByteArray.empty) := HXC.out.cell 3
           have x4 : wC.cell? ⟨wA.heap.size, 4, none⟩ = some (.int .i64 0) := HXC.out.cell 4
           have x5 : wC.cell? ⟨wA.heap.size, 5, none⟩ = some (.slice none 0 0) := HXC.out.cell 5
           have x6 : wC.cell? ⟨wA.heap.size, 6, none⟩ = some (.slice none 0 0) := HXC.out.cell 6
           skip)
        | (go_at_call 27
           clear x0 x1 x2 x3 x4 x5 x6
           refine (same_zero _).mono ?_
           rintro e wD ⟨rfl, hkd⟩
           have HKD := hide (HKC.out.trans' hkd (fun _ _ => id) (fun _ _ => id) : Keeps NoB W3 wD)
           have HYD := hide (HYC.out.keep hkd id)
           clear hkd
           have y0 : wD.cell? ⟨wB.heap.size, 0, none⟩ = some (.int .u8 0) := HYD.out.cell 0
           have y1 : wD.cell? ⟨wB.heap.size, 1, none⟩ = some (.bool false) := HYD.out.cell 1
           have y2 : wD.cell? ⟨wB.heap.size, 2, none⟩ = some (.slice none 0 0) := HYD.out.cell 2
           have y3 : wD.cell? ⟨wB.heap.size, 3, none⟩ = some (.string ByteArray.empty) := HYD.out.cell 3
           have y4 : wD.cell? ⟨wB.heap.size, 4, none⟩ = some (.int .i64 0) := HYD.out.cell 4
           have y5 : wD.cell? ⟨wB.heap.size, 5, none⟩ = some (.slice none 0 0) := HYD.out.cell 5
           have y6 : wD.cell? ⟨wB.heap.size, 6, none⟩ = some (.slice none 0 0) := HYD.out.cell 6
           skip)
        | (go_at_call 27
           clear y0 y1 y2 y3 y4 y5 y6
           refine (same_zero _).mono ?_
           rintro e wE ⟨rfl, hke⟩
           have HKE := hide (HKD.out.trans' hke (fun _ _ => id) (fun _ _ => id) : Keeps NoB W3 wE)
           clear hke)
        | (go_at_call 14
           refine (skip_unmade g _ ((HB.out.keep HKE.out id).cell 2)).mono ?_
           rintro e w' ⟨rfl, rfl⟩)
        | (go_at_call 13
           refine (len_unmade g _ ((HB.out.keep HKE.out id).cell 2)).mono ?_
           rintro e w' ⟨rfl, rfl⟩)
        | (go_at_call 24
           refine (all_unmade g _ ((HB.out.keep HKE.out id).cell 2)).mono ?_
           rintro e w' ⟨rfl, rfl⟩)
        | (go_at_call 29
           refine (copy_unmade g _ ((HB.out.keep HKE.out id).cell 2)).mono ?_
           rintro e w' ⟨rfl, rfl⟩)
        | fail
      go_roundw
      case rel => exact ⟨2, by omega, by go_num, HKE.out⟩
      case measure => simp [intOf]
    · go_wp2
      go_ret
      exact ⟨rfl, HK.out.trans' HR.out (fun _ _ => id) (fun _ _ => id)⟩
end Go.Proofs.Ytmkidkfofbnjgaa
