/- node.Right. -/
import Derived.Test.YtincajfanhanjaaDoorNdFun
namespace Go.Proofs.YtincajfanhanjaaDoor
open Go.RowKit

set_option maxRecDepth 100000 in
set_option maxHeartbeats 4000000 in
theorem right_any (t : Nd) (ho : okN t) (hm : manyN t ≤ 4611686018427387904) : Says 21 rightN t := by
  intro w B F kd tx nm pl ka kn kc hL _ ht
  have hn : ∀ x ∈ t.kids, Not1 31 functionN x := fun x hx => not1_31 _ x (ok_kids ho hx) (function_any x (ok_kids ho hx))
  have hI := (said_any t ho).item
  have hD := deep_any t hm
  have hM := many_any t hm
  obtain ⟨kids, css, rfl, hroom, hr, hc, hkl⟩ := ht.kidsIn
  have hk1 : Keeps NoB w (w.alloc (.cells #[.int .u8 kd, .string tx, .int .i64 nm, .int .i64 pl, .slice ka kn kc] 29)) := (Keeps.refl NoB w).alloc _
  have P1 := hide (plain_any 22 _ (w.alloc (.cells #[.int .u8 kd, .string tx, .int .i64 nm, .int .i64 pl, .slice ka kn kc] 29)) B F kd tx nm pl ka kn kc (NodeIn.keep hk1 (fun _ _ => id) _ _ ht))
  have P2 := hide (fun (W : World) (hk : Keeps NoB w W) => nd_all 31 functionN kids hn css ka kn kc W B F (hL.keep hk) (hr.keep hk (fun _ _ => id)) (NodesIn.keep hk (fun _ _ => id) _ _ hc) hroom.1)
  have P3 := hide (fun (W : World) (hk : Keeps NoB w W) => hI W B F kd tx nm pl ka kn kc (hL.keep hk) ho (NodeIn.keep hk (fun _ _ => id) _ _ ht))
  have P4 := hide (fun (W : World) (hk : Keeps NoB w W) => hD W B F kd tx nm pl ka kn kc (NodeIn.keep hk (fun _ _ => id) _ _ ht))
  have P5 := hide (fun (W : World) (hk : Keeps NoB w W) => hM W B F kd tx nm pl ka kn kc (NodeIn.keep hk (fun _ _ => id) _ _ ht))
  have HK := hide hk1
  have HBX := hide (Blk.new w 29 #[.int .u8 kd, .string tx, .int .i64 nm, .int .i64 pl, .slice ka kn kc])
  have HE : Hid (rightN (.mk kd tx nm pl kids) = ((plainN (.mk kd tx nm pl kids) 22 && kids.all functionN || okM 0 (.mk kd tx nm pl kids)) && decide (deepN (.mk kd tx nm pl kids) ≤ 50) && decide (manyN (.mk kd tx nm pl kids) ≤ 16384))) := hide rfl
  rw [HE.out]
  obtain ⟨v1, hv1⟩ : ∃ v, plainN (.mk kd tx nm pl kids) 22 = v := ⟨_, rfl⟩
  obtain ⟨v2, hv2⟩ : ∃ v, kids.all functionN = v := ⟨_, rfl⟩
  obtain ⟨v3, hv3⟩ : ∃ v, okM 0 (.mk kd tx nm pl kids) = v := ⟨_, rfl⟩
  obtain ⟨d, hd⟩ : ∃ v, deepN (.mk kd tx nm pl kids) = v := ⟨_, rfl⟩
  obtain ⟨m, hmm⟩ : ∃ v, manyN (.mk kd tx nm pl kids) = v := ⟨_, rfl⟩
  rw [hv1, hv2, hv3, hd, hmm]
  have H1 := hide hv1; have H2 := hide hv2; have H3 := hide hv3; have H4 := hide hd; have H5 := hide hmm
  clear HE hv1 hv2 hv3 hd hmm hn hr hc ht hroom hL ho hk1 hkl hI hD hM hm
  cases v1 with
  | true =>
    cases v2 with
    | true =>
      by_cases h5 : d ≤ 50
      · have b5 : decide ((d : Int) ≤ 50) = true := by simp; omega
        have c5 : decide (d ≤ 50) = true := by simpa using h5
        by_cases h6 : m ≤ 16384
        · have b6 : decide ((m : Int) ≤ 16384) = true := by simp; omega
          have c6 : decide (m ≤ 16384) = true := by simpa using h6
          go_enter Tryd.func21, Tryd.ntmps21
          go_wp2_with
            first
            | (go_at_call 29
               refine (P1.out).mono ?_
               rintro e w2 ⟨rfl, hk⟩
               rw [H1.out]
               have HKD := hide hk
               have HKC := hide (HK.out.trans' hk (fun _ _ => id) (fun _ _ => id) : Keeps NoB w w2)
               have qw20 : w2.cell? ⟨w.heap.size, 0, none⟩ = some (.int .u8 kd) := (HKD.out).cell id (HBX.out.cell 0)
               have qw21 : w2.cell? ⟨w.heap.size, 1, none⟩ = some (.string tx) := (HKD.out).cell id (HBX.out.cell 1)
               have qw22 : w2.cell? ⟨w.heap.size, 2, none⟩ = some (.int .i64 nm) := (HKD.out).cell id (HBX.out.cell 2)
               have qw23 : w2.cell? ⟨w.heap.size, 3, none⟩ = some (.int .i64 pl) := (HKD.out).cell id (HBX.out.cell 3)
               have qw24 : w2.cell? ⟨w.heap.size, 4, none⟩ = some (.slice ka kn kc) := (HKD.out).cell id (HBX.out.cell 4)
               clear hk)
            | (go_at_call 30
               refine (P2.out _ HKC.out).mono ?_
               rintro e w3 ⟨rfl, hk⟩
               rw [H2.out]
               have HKD1 := hide (HKD.out.trans' hk (fun _ _ => id) (fun _ _ => id) : Keeps NoB (w.alloc (.cells #[.int .u8 kd, .string tx, .int .i64 nm, .int .i64 pl, .slice ka kn kc] 29)) w3)
               have HKC1 := hide (HKC.out.trans' hk (fun _ _ => id) (fun _ _ => id) : Keeps NoB w w3)
               clear HKD HKC
               have HKD := HKD1; have HKC := HKC1
               clear HKD1 HKC1
               have qw30 : w3.cell? ⟨w.heap.size, 0, none⟩ = some (.int .u8 kd) := (HKD.out).cell id (HBX.out.cell 0)
               have qw31 : w3.cell? ⟨w.heap.size, 1, none⟩ = some (.string tx) := (HKD.out).cell id (HBX.out.cell 1)
               have qw32 : w3.cell? ⟨w.heap.size, 2, none⟩ = some (.int .i64 nm) := (HKD.out).cell id (HBX.out.cell 2)
               have qw33 : w3.cell? ⟨w.heap.size, 3, none⟩ = some (.int .i64 pl) := (HKD.out).cell id (HBX.out.cell 3)
               have qw34 : w3.cell? ⟨w.heap.size, 4, none⟩ = some (.slice ka kn kc) := (HKD.out).cell id (HBX.out.cell 4)
               clear hk)
            | (go_at_call 32
               refine (P3.out _ HKC.out).mono ?_
               rintro e w4 ⟨rfl, hk⟩
               rw [H3.out]
               have HKD1 := hide (HKD.out.trans' hk (fun _ _ => id) (fun _ _ => id) : Keeps NoB (w.alloc (.cells #[.int .u8 kd, .string tx, .int .i64 nm, .int .i64 pl, .slice ka kn kc] 29)) w4)
               have HKC1 := hide (HKC.out.trans' hk (fun _ _ => id) (fun _ _ => id) : Keeps NoB w w4)
               clear HKD HKC
               have HKD := HKD1; have HKC := HKC1
               clear HKD1 HKC1
               have qw40 : w4.cell? ⟨w.heap.size, 0, none⟩ = some (.int .u8 kd) := (HKD.out).cell id (HBX.out.cell 0)
               have qw41 : w4.cell? ⟨w.heap.size, 1, none⟩ = some (.string tx) := (HKD.out).cell id (HBX.out.cell 1)
               have qw42 : w4.cell? ⟨w.heap.size, 2, none⟩ = some (.int .i64 nm) := (HKD.out).cell id (HBX.out.cell 2)
               have qw43 : w4.cell? ⟨w.heap.size, 3, none⟩ = some (.int .i64 pl) := (HKD.out).cell id (HBX.out.cell 3)
               have qw44 : w4.cell? ⟨w.heap.size, 4, none⟩ = some (.slice ka kn kc) := (HKD.out).cell id (HBX.out.cell 4)
               clear hk)
            | (go_at_call 33
               refine (P4.out _ HKC.out).mono ?_
               rintro e w5 ⟨rfl, hk⟩
               rw [H4.out]
               have HKD1 := hide (HKD.out.trans' hk (fun _ _ => id) (fun _ _ => id) : Keeps NoB (w.alloc (.cells #[.int .u8 kd, .string tx, .int .i64 nm, .int .i64 pl, .slice ka kn kc] 29)) w5)
               have HKC1 := hide (HKC.out.trans' hk (fun _ _ => id) (fun _ _ => id) : Keeps NoB w w5)
               clear HKD HKC
               have HKD := HKD1; have HKC := HKC1
               clear HKD1 HKC1
               have qw50 : w5.cell? ⟨w.heap.size, 0, none⟩ = some (.int .u8 kd) := (HKD.out).cell id (HBX.out.cell 0)
               have qw51 : w5.cell? ⟨w.heap.size, 1, none⟩ = some (.string tx) := (HKD.out).cell id (HBX.out.cell 1)
               have qw52 : w5.cell? ⟨w.heap.size, 2, none⟩ = some (.int .i64 nm) := (HKD.out).cell id (HBX.out.cell 2)
               have qw53 : w5.cell? ⟨w.heap.size, 3, none⟩ = some (.int .i64 pl) := (HKD.out).cell id (HBX.out.cell 3)
               have qw54 : w5.cell? ⟨w.heap.size, 4, none⟩ = some (.slice ka kn kc) := (HKD.out).cell id (HBX.out.cell 4)
               clear hk)
            | (go_at_call 34
               refine (P5.out _ HKC.out).mono ?_
               rintro e w6 ⟨rfl, hk⟩
               rw [H5.out]
               have HKD1 := hide (HKD.out.trans' hk (fun _ _ => id) (fun _ _ => id) : Keeps NoB (w.alloc (.cells #[.int .u8 kd, .string tx, .int .i64 nm, .int .i64 pl, .slice ka kn kc] 29)) w6)
               have HKC1 := hide (HKC.out.trans' hk (fun _ _ => id) (fun _ _ => id) : Keeps NoB w w6)
               clear HKD HKC
               have HKD := HKD1; have HKC := HKC1
               clear HKD1 HKC1
               clear hk)
            | fail
          go_ret
          exact ⟨by simp [h5, h6], HKC.out⟩
        · have b6 : decide ((m : Int) ≤ 16384) = false := by simp; omega
          have c6 : decide (m ≤ 16384) = false := by simpa using h6
          go_enter Tryd.func21, Tryd.ntmps21
          go_wp2_with
            first
            | (go_at_call 29
               refine (P1.out).mono ?_
               rintro e w2 ⟨rfl, hk⟩
               rw [H1.out]
               have HKD := hide hk
               have HKC := hide (HK.out.trans' hk (fun _ _ => id) (fun _ _ => id) : Keeps NoB w w2)
               have qw20 : w2.cell? ⟨w.heap.size, 0, none⟩ = some (.int .u8 kd) := (HKD.out).cell id (HBX.out.cell 0)
               have qw21 : w2.cell? ⟨w.heap.size, 1, none⟩ = some (.string tx) := (HKD.out).cell id (HBX.out.cell 1)
               have qw22 : w2.cell? ⟨w.heap.size, 2, none⟩ = some (.int .i64 nm) := (HKD.out).cell id (HBX.out.cell 2)
               have qw23 : w2.cell? ⟨w.heap.size, 3, none⟩ = some (.int .i64 pl) := (HKD.out).cell id (HBX.out.cell 3)
               have qw24 : w2.cell? ⟨w.heap.size, 4, none⟩ = some (.slice ka kn kc) := (HKD.out).cell id (HBX.out.cell 4)
               clear hk)
            | (go_at_call 30
               refine (P2.out _ HKC.out).mono ?_
               rintro e w3 ⟨rfl, hk⟩
               rw [H2.out]
               have HKD1 := hide (HKD.out.trans' hk (fun _ _ => id) (fun _ _ => id) : Keeps NoB (w.alloc (.cells #[.int .u8 kd, .string tx, .int .i64 nm, .int .i64 pl, .slice ka kn kc] 29)) w3)
               have HKC1 := hide (HKC.out.trans' hk (fun _ _ => id) (fun _ _ => id) : Keeps NoB w w3)
               clear HKD HKC
               have HKD := HKD1; have HKC := HKC1
               clear HKD1 HKC1
               have qw30 : w3.cell? ⟨w.heap.size, 0, none⟩ = some (.int .u8 kd) := (HKD.out).cell id (HBX.out.cell 0)
               have qw31 : w3.cell? ⟨w.heap.size, 1, none⟩ = some (.string tx) := (HKD.out).cell id (HBX.out.cell 1)
               have qw32 : w3.cell? ⟨w.heap.size, 2, none⟩ = some (.int .i64 nm) := (HKD.out).cell id (HBX.out.cell 2)
               have qw33 : w3.cell? ⟨w.heap.size, 3, none⟩ = some (.int .i64 pl) := (HKD.out).cell id (HBX.out.cell 3)
               have qw34 : w3.cell? ⟨w.heap.size, 4, none⟩ = some (.slice ka kn kc) := (HKD.out).cell id (HBX.out.cell 4)
               clear hk)
            | (go_at_call 32
               refine (P3.out _ HKC.out).mono ?_
               rintro e w4 ⟨rfl, hk⟩
               rw [H3.out]
               have HKD1 := hide (HKD.out.trans' hk (fun _ _ => id) (fun _ _ => id) : Keeps NoB (w.alloc (.cells #[.int .u8 kd, .string tx, .int .i64 nm, .int .i64 pl, .slice ka kn kc] 29)) w4)
               have HKC1 := hide (HKC.out.trans' hk (fun _ _ => id) (fun _ _ => id) : Keeps NoB w w4)
               clear HKD HKC
               have HKD := HKD1; have HKC := HKC1
               clear HKD1 HKC1
               have qw40 : w4.cell? ⟨w.heap.size, 0, none⟩ = some (.int .u8 kd) := (HKD.out).cell id (HBX.out.cell 0)
               have qw41 : w4.cell? ⟨w.heap.size, 1, none⟩ = some (.string tx) := (HKD.out).cell id (HBX.out.cell 1)
               have qw42 : w4.cell? ⟨w.heap.size, 2, none⟩ = some (.int .i64 nm) := (HKD.out).cell id (HBX.out.cell 2)
               have qw43 : w4.cell? ⟨w.heap.size, 3, none⟩ = some (.int .i64 pl) := (HKD.out).cell id (HBX.out.cell 3)
               have qw44 : w4.cell? ⟨w.heap.size, 4, none⟩ = some (.slice ka kn kc) := (HKD.out).cell id (HBX.out.cell 4)
               clear hk)
            | (go_at_call 33
               refine (P4.out _ HKC.out).mono ?_
               rintro e w5 ⟨rfl, hk⟩
               rw [H4.out]
               have HKD1 := hide (HKD.out.trans' hk (fun _ _ => id) (fun _ _ => id) : Keeps NoB (w.alloc (.cells #[.int .u8 kd, .string tx, .int .i64 nm, .int .i64 pl, .slice ka kn kc] 29)) w5)
               have HKC1 := hide (HKC.out.trans' hk (fun _ _ => id) (fun _ _ => id) : Keeps NoB w w5)
               clear HKD HKC
               have HKD := HKD1; have HKC := HKC1
               clear HKD1 HKC1
               have qw50 : w5.cell? ⟨w.heap.size, 0, none⟩ = some (.int .u8 kd) := (HKD.out).cell id (HBX.out.cell 0)
               have qw51 : w5.cell? ⟨w.heap.size, 1, none⟩ = some (.string tx) := (HKD.out).cell id (HBX.out.cell 1)
               have qw52 : w5.cell? ⟨w.heap.size, 2, none⟩ = some (.int .i64 nm) := (HKD.out).cell id (HBX.out.cell 2)
               have qw53 : w5.cell? ⟨w.heap.size, 3, none⟩ = some (.int .i64 pl) := (HKD.out).cell id (HBX.out.cell 3)
               have qw54 : w5.cell? ⟨w.heap.size, 4, none⟩ = some (.slice ka kn kc) := (HKD.out).cell id (HBX.out.cell 4)
               clear hk)
            | (go_at_call 34
               refine (P5.out _ HKC.out).mono ?_
               rintro e w6 ⟨rfl, hk⟩
               rw [H5.out]
               have HKD1 := hide (HKD.out.trans' hk (fun _ _ => id) (fun _ _ => id) : Keeps NoB (w.alloc (.cells #[.int .u8 kd, .string tx, .int .i64 nm, .int .i64 pl, .slice ka kn kc] 29)) w6)
               have HKC1 := hide (HKC.out.trans' hk (fun _ _ => id) (fun _ _ => id) : Keeps NoB w w6)
               clear HKD HKC
               have HKD := HKD1; have HKC := HKC1
               clear HKD1 HKC1
               clear hk)
            | fail
          go_ret
          exact ⟨by simp [h5, h6], HKC.out⟩
      · have b5 : decide ((d : Int) ≤ 50) = false := by simp; omega
        have c5 : decide (d ≤ 50) = false := by simpa using h5
        go_enter Tryd.func21, Tryd.ntmps21
        go_wp2_with
          first
          | (go_at_call 29
             refine (P1.out).mono ?_
             rintro e w2 ⟨rfl, hk⟩
             rw [H1.out]
             have HKD := hide hk
             have HKC := hide (HK.out.trans' hk (fun _ _ => id) (fun _ _ => id) : Keeps NoB w w2)
             have qw20 : w2.cell? ⟨w.heap.size, 0, none⟩ = some (.int .u8 kd) := (HKD.out).cell id (HBX.out.cell 0)
             have qw21 : w2.cell? ⟨w.heap.size, 1, none⟩ = some (.string tx) := (HKD.out).cell id (HBX.out.cell 1)
             have qw22 : w2.cell? ⟨w.heap.size, 2, none⟩ = some (.int .i64 nm) := (HKD.out).cell id (HBX.out.cell 2)
             have qw23 : w2.cell? ⟨w.heap.size, 3, none⟩ = some (.int .i64 pl) := (HKD.out).cell id (HBX.out.cell 3)
             have qw24 : w2.cell? ⟨w.heap.size, 4, none⟩ = some (.slice ka kn kc) := (HKD.out).cell id (HBX.out.cell 4)
             clear hk)
          | (go_at_call 30
             refine (P2.out _ HKC.out).mono ?_
             rintro e w3 ⟨rfl, hk⟩
             rw [H2.out]
             have HKD1 := hide (HKD.out.trans' hk (fun _ _ => id) (fun _ _ => id) : Keeps NoB (w.alloc (.cells #[.int .u8 kd, .string tx, .int .i64 nm, .int .i64 pl, .slice ka kn kc] 29)) w3)
             have HKC1 := hide (HKC.out.trans' hk (fun _ _ => id) (fun _ _ => id) : Keeps NoB w w3)
             clear HKD HKC
             have HKD := HKD1; have HKC := HKC1
             clear HKD1 HKC1
             have qw30 : w3.cell? ⟨w.heap.size, 0, none⟩ = some (.int .u8 kd) := (HKD.out).cell id (HBX.out.cell 0)
             have qw31 : w3.cell? ⟨w.heap.size, 1, none⟩ = some (.string tx) := (HKD.out).cell id (HBX.out.cell 1)
             have qw32 : w3.cell? ⟨w.heap.size, 2, none⟩ = some (.int .i64 nm) := (HKD.out).cell id (HBX.out.cell 2)
             have qw33 : w3.cell? ⟨w.heap.size, 3, none⟩ = some (.int .i64 pl) := (HKD.out).cell id (HBX.out.cell 3)
             have qw34 : w3.cell? ⟨w.heap.size, 4, none⟩ = some (.slice ka kn kc) := (HKD.out).cell id (HBX.out.cell 4)
             clear hk)
          | (go_at_call 32
             refine (P3.out _ HKC.out).mono ?_
             rintro e w4 ⟨rfl, hk⟩
             rw [H3.out]
             have HKD1 := hide (HKD.out.trans' hk (fun _ _ => id) (fun _ _ => id) : Keeps NoB (w.alloc (.cells #[.int .u8 kd, .string tx, .int .i64 nm, .int .i64 pl, .slice ka kn kc] 29)) w4)
             have HKC1 := hide (HKC.out.trans' hk (fun _ _ => id) (fun _ _ => id) : Keeps NoB w w4)
             clear HKD HKC
             have HKD := HKD1; have HKC := HKC1
             clear HKD1 HKC1
             have qw40 : w4.cell? ⟨w.heap.size, 0, none⟩ = some (.int .u8 kd) := (HKD.out).cell id (HBX.out.cell 0)
             have qw41 : w4.cell? ⟨w.heap.size, 1, none⟩ = some (.string tx) := (HKD.out).cell id (HBX.out.cell 1)
             have qw42 : w4.cell? ⟨w.heap.size, 2, none⟩ = some (.int .i64 nm) := (HKD.out).cell id (HBX.out.cell 2)
             have qw43 : w4.cell? ⟨w.heap.size, 3, none⟩ = some (.int .i64 pl) := (HKD.out).cell id (HBX.out.cell 3)
             have qw44 : w4.cell? ⟨w.heap.size, 4, none⟩ = some (.slice ka kn kc) := (HKD.out).cell id (HBX.out.cell 4)
             clear hk)
          | (go_at_call 33
             refine (P4.out _ HKC.out).mono ?_
             rintro e w5 ⟨rfl, hk⟩
             rw [H4.out]
             have HKD1 := hide (HKD.out.trans' hk (fun _ _ => id) (fun _ _ => id) : Keeps NoB (w.alloc (.cells #[.int .u8 kd, .string tx, .int .i64 nm, .int .i64 pl, .slice ka kn kc] 29)) w5)
             have HKC1 := hide (HKC.out.trans' hk (fun _ _ => id) (fun _ _ => id) : Keeps NoB w w5)
             clear HKD HKC
             have HKD := HKD1; have HKC := HKC1
             clear HKD1 HKC1
             have qw50 : w5.cell? ⟨w.heap.size, 0, none⟩ = some (.int .u8 kd) := (HKD.out).cell id (HBX.out.cell 0)
             have qw51 : w5.cell? ⟨w.heap.size, 1, none⟩ = some (.string tx) := (HKD.out).cell id (HBX.out.cell 1)
             have qw52 : w5.cell? ⟨w.heap.size, 2, none⟩ = some (.int .i64 nm) := (HKD.out).cell id (HBX.out.cell 2)
             have qw53 : w5.cell? ⟨w.heap.size, 3, none⟩ = some (.int .i64 pl) := (HKD.out).cell id (HBX.out.cell 3)
             have qw54 : w5.cell? ⟨w.heap.size, 4, none⟩ = some (.slice ka kn kc) := (HKD.out).cell id (HBX.out.cell 4)
             clear hk)
          | (go_at_call 34
             refine (P5.out _ HKC.out).mono ?_
             rintro e w6 ⟨rfl, hk⟩
             rw [H5.out]
             have HKD1 := hide (HKD.out.trans' hk (fun _ _ => id) (fun _ _ => id) : Keeps NoB (w.alloc (.cells #[.int .u8 kd, .string tx, .int .i64 nm, .int .i64 pl, .slice ka kn kc] 29)) w6)
             have HKC1 := hide (HKC.out.trans' hk (fun _ _ => id) (fun _ _ => id) : Keeps NoB w w6)
             clear HKD HKC
             have HKD := HKD1; have HKC := HKC1
             clear HKD1 HKC1
             clear hk)
          | fail
        go_ret
        exact ⟨by simp [h5], HKC.out⟩
    | false =>
      cases v3 with
      | true =>
        by_cases h5 : d ≤ 50
        · have b5 : decide ((d : Int) ≤ 50) = true := by simp; omega
          have c5 : decide (d ≤ 50) = true := by simpa using h5
          by_cases h6 : m ≤ 16384
          · have b6 : decide ((m : Int) ≤ 16384) = true := by simp; omega
            have c6 : decide (m ≤ 16384) = true := by simpa using h6
            go_enter Tryd.func21, Tryd.ntmps21
            go_wp2_with
              first
              | (go_at_call 29
                 refine (P1.out).mono ?_
                 rintro e w2 ⟨rfl, hk⟩
                 rw [H1.out]
                 have HKD := hide hk
                 have HKC := hide (HK.out.trans' hk (fun _ _ => id) (fun _ _ => id) : Keeps NoB w w2)
                 have qw20 : w2.cell? ⟨w.heap.size, 0, none⟩ = some (.int .u8 kd) := (HKD.out).cell id (HBX.out.cell 0)
                 have qw21 : w2.cell? ⟨w.heap.size, 1, none⟩ = some (.string tx) := (HKD.out).cell id (HBX.out.cell 1)
                 have qw22 : w2.cell? ⟨w.heap.size, 2, none⟩ = some (.int .i64 nm) := (HKD.out).cell id (HBX.out.cell 2)
                 have qw23 : w2.cell? ⟨w.heap.size, 3, none⟩ = some (.int .i64 pl) := (HKD.out).cell id (HBX.out.cell 3)
                 have qw24 : w2.cell? ⟨w.heap.size, 4, none⟩ = some (.slice ka kn kc) := (HKD.out).cell id (HBX.out.cell 4)
                 clear hk)
              | (go_at_call 30
                 refine (P2.out _ HKC.out).mono ?_
                 rintro e w3 ⟨rfl, hk⟩
                 rw [H2.out]
                 have HKD1 := hide (HKD.out.trans' hk (fun _ _ => id) (fun _ _ => id) : Keeps NoB (w.alloc (.cells #[.int .u8 kd, .string tx, .int .i64 nm, .int .i64 pl, .slice ka kn kc] 29)) w3)
                 have HKC1 := hide (HKC.out.trans' hk (fun _ _ => id) (fun _ _ => id) : Keeps NoB w w3)
                 clear HKD HKC
                 have HKD := HKD1; have HKC := HKC1
                 clear HKD1 HKC1
                 have qw30 : w3.cell? ⟨w.heap.size, 0, none⟩ = some (.int .u8 kd) := (HKD.out).cell id (HBX.out.cell 0)
                 have qw31 : w3.cell? ⟨w.heap.size, 1, none⟩ = some (.string tx) := (HKD.out).cell id (HBX.out.cell 1)
                 have qw32 : w3.cell? ⟨w.heap.size, 2, none⟩ = some (.int .i64 nm) := (HKD.out).cell id (HBX.out.cell 2)
                 have qw33 : w3.cell? ⟨w.heap.size, 3, none⟩ = some (.int .i64 pl) := (HKD.out).cell id (HBX.out.cell 3)
                 have qw34 : w3.cell? ⟨w.heap.size, 4, none⟩ = some (.slice ka kn kc) := (HKD.out).cell id (HBX.out.cell 4)
                 clear hk)
              | (go_at_call 32
                 refine (P3.out _ HKC.out).mono ?_
                 rintro e w4 ⟨rfl, hk⟩
                 rw [H3.out]
                 have HKD1 := hide (HKD.out.trans' hk (fun _ _ => id) (fun _ _ => id) : Keeps NoB (w.alloc (.cells #[.int .u8 kd, .string tx, .int .i64 nm, .int .i64 pl, .slice ka kn kc] 29)) w4)
                 have HKC1 := hide (HKC.out.trans' hk (fun _ _ => id) (fun _ _ => id) : Keeps NoB w w4)
                 clear HKD HKC
                 have HKD := HKD1; have HKC := HKC1
                 clear HKD1 HKC1
                 have qw40 : w4.cell? ⟨w.heap.size, 0, none⟩ = some (.int .u8 kd) := (HKD.out).cell id (HBX.out.cell 0)
                 have qw41 : w4.cell? ⟨w.heap.size, 1, none⟩ = some (.string tx) := (HKD.out).cell id (HBX.out.cell 1)
                 have qw42 : w4.cell? ⟨w.heap.size, 2, none⟩ = some (.int .i64 nm) := (HKD.out).cell id (HBX.out.cell 2)
                 have qw43 : w4.cell? ⟨w.heap.size, 3, none⟩ = some (.int .i64 pl) := (HKD.out).cell id (HBX.out.cell 3)
                 have qw44 : w4.cell? ⟨w.heap.size, 4, none⟩ = some (.slice ka kn kc) := (HKD.out).cell id (HBX.out.cell 4)
                 clear hk)
              | (go_at_call 33
                 refine (P4.out _ HKC.out).mono ?_
                 rintro e w5 ⟨rfl, hk⟩
                 rw [H4.out]
                 have HKD1 := hide (HKD.out.trans' hk (fun _ _ => id) (fun _ _ => id) : Keeps NoB (w.alloc (.cells #[.int .u8 kd, .string tx, .int .i64 nm, .int .i64 pl, .slice ka kn kc] 29)) w5)
                 have HKC1 := hide (HKC.out.trans' hk (fun _ _ => id) (fun _ _ => id) : Keeps NoB w w5)
                 clear HKD HKC
                 have HKD := HKD1; have HKC := HKC1
                 clear HKD1 HKC1
                 have qw50 : w5.cell? ⟨w.heap.size, 0, none⟩ = some (.int .u8 kd) := (HKD.out).cell id (HBX.out.cell 0)
                 have qw51 : w5.cell? ⟨w.heap.size, 1, none⟩ = some (.string tx) := (HKD.out).cell id (HBX.out.cell 1)
                 have qw52 : w5.cell? ⟨w.heap.size, 2, none⟩ = some (.int .i64 nm) := (HKD.out).cell id (HBX.out.cell 2)
                 have qw53 : w5.cell? ⟨w.heap.size, 3, none⟩ = some (.int .i64 pl) := (HKD.out).cell id (HBX.out.cell 3)
                 have qw54 : w5.cell? ⟨w.heap.size, 4, none⟩ = some (.slice ka kn kc) := (HKD.out).cell id (HBX.out.cell 4)
                 clear hk)
              | (go_at_call 34
                 refine (P5.out _ HKC.out).mono ?_
                 rintro e w6 ⟨rfl, hk⟩
                 rw [H5.out]
                 have HKD1 := hide (HKD.out.trans' hk (fun _ _ => id) (fun _ _ => id) : Keeps NoB (w.alloc (.cells #[.int .u8 kd, .string tx, .int .i64 nm, .int .i64 pl, .slice ka kn kc] 29)) w6)
                 have HKC1 := hide (HKC.out.trans' hk (fun _ _ => id) (fun _ _ => id) : Keeps NoB w w6)
                 clear HKD HKC
                 have HKD := HKD1; have HKC := HKC1
                 clear HKD1 HKC1
                 clear hk)
              | fail
            go_ret
            exact ⟨by simp [h5, h6], HKC.out⟩
          · have b6 : decide ((m : Int) ≤ 16384) = false := by simp; omega
            have c6 : decide (m ≤ 16384) = false := by simpa using h6
            go_enter Tryd.func21, Tryd.ntmps21
            go_wp2_with
              first
              | (go_at_call 29
                 refine (P1.out).mono ?_
                 rintro e w2 ⟨rfl, hk⟩
                 rw [H1.out]
                 have HKD := hide hk
                 have HKC := hide (HK.out.trans' hk (fun _ _ => id) (fun _ _ => id) : Keeps NoB w w2)
                 have qw20 : w2.cell? ⟨w.heap.size, 0, none⟩ = some (.int .u8 kd) := (HKD.out).cell id (HBX.out.cell 0)
                 have qw21 : w2.cell? ⟨w.heap.size, 1, none⟩ = some (.string tx) := (HKD.out).cell id (HBX.out.cell 1)
                 have qw22 : w2.cell? ⟨w.heap.size, 2, none⟩ = some (.int .i64 nm) := (HKD.out).cell id (HBX.out.cell 2)
                 have qw23 : w2.cell? ⟨w.heap.size, 3, none⟩ = some (.int .i64 pl) := (HKD.out).cell id (HBX.out.cell 3)
                 have qw24 : w2.cell? ⟨w.heap.size, 4, none⟩ = some (.slice ka kn kc) := (HKD.out).cell id (HBX.out.cell 4)
                 clear hk)
              | (go_at_call 30
                 refine (P2.out _ HKC.out).mono ?_
                 rintro e w3 ⟨rfl, hk⟩
                 rw [H2.out]
                 have HKD1 := hide (HKD.out.trans' hk (fun _ _ => id) (fun _ _ => id) : Keeps NoB (w.alloc (.cells #[.int .u8 kd, .string tx, .int .i64 nm, .int .i64 pl, .slice ka kn kc] 29)) w3)
                 have HKC1 := hide (HKC.out.trans' hk (fun _ _ => id) (fun _ _ => id) : Keeps NoB w w3)
                 clear HKD HKC
                 have HKD := HKD1; have HKC := HKC1
                 clear HKD1 HKC1
                 have qw30 : w3.cell? ⟨w.heap.size, 0, none⟩ = some (.int .u8 kd) := (HKD.out).cell id (HBX.out.cell 0)
                 have qw31 : w3.cell? ⟨w.heap.size, 1, none⟩ = some (.string tx) := (HKD.out).cell id (HBX.out.cell 1)
                 have qw32 : w3.cell? ⟨w.heap.size, 2, none⟩ = some (.int .i64 nm) := (HKD.out).cell id (HBX.out.cell 2)
                 have qw33 : w3.cell? ⟨w.heap.size, 3, none⟩ = some (.int .i64 pl) := (HKD.out).cell id (HBX.out.cell 3)
                 have qw34 : w3.cell? ⟨w.heap.size, 4, none⟩ = some (.slice ka kn kc) := (HKD.out).cell id (HBX.out.cell 4)
                 clear hk)
              | (go_at_call 32
                 refine (P3.out _ HKC.out).mono ?_
                 rintro e w4 ⟨rfl, hk⟩
                 rw [H3.out]
                 have HKD1 := hide (HKD.out.trans' hk (fun _ _ => id) (fun _ _ => id) : Keeps NoB (w.alloc (.cells #[.int .u8 kd, .string tx, .int .i64 nm, .int .i64 pl, .slice ka kn kc] 29)) w4)
                 have HKC1 := hide (HKC.out.trans' hk (fun _ _ => id) (fun _ _ => id) : Keeps NoB w w4)
                 clear HKD HKC
                 have HKD := HKD1; have HKC := HKC1
                 clear HKD1 HKC1
                 have qw40 : w4.cell? ⟨w.heap.size, 0, none⟩ = some (.int .u8 kd) := (HKD.out).cell id (HBX.out.cell 0)
                 have qw41 : w4.cell? ⟨w.heap.size, 1, none⟩ = some (.string tx) := (HKD.out).cell id (HBX.out.cell 1)
                 have qw42 : w4.cell? ⟨w.heap.size, 2, none⟩ = some (.int .i64 nm) := (HKD.out).cell id (HBX.out.cell 2)
                 have qw43 : w4.cell? ⟨w.heap.size, 3, none⟩ = some (.int .i64 pl) := (HKD.out).cell id (HBX.out.cell 3)
                 have qw44 : w4.cell? ⟨w.heap.size, 4, none⟩ = some (.slice ka kn kc) := (HKD.out).cell id (HBX.out.cell 4)
                 clear hk)
              | (go_at_call 33
                 refine (P4.out _ HKC.out).mono ?_
                 rintro e w5 ⟨rfl, hk⟩
                 rw [H4.out]
                 have HKD1 := hide (HKD.out.trans' hk (fun _ _ => id) (fun _ _ => id) : Keeps NoB (w.alloc (.cells #[.int .u8 kd, .string tx, .int .i64 nm, .int .i64 pl, .slice ka kn kc] 29)) w5)
                 have HKC1 := hide (HKC.out.trans' hk (fun _ _ => id) (fun _ _ => id) : Keeps NoB w w5)
                 clear HKD HKC
                 have HKD := HKD1; have HKC := HKC1
                 clear HKD1 HKC1
                 have qw50 : w5.cell? ⟨w.heap.size, 0, none⟩ = some (.int .u8 kd) := (HKD.out).cell id (HBX.out.cell 0)
                 have qw51 : w5.cell? ⟨w.heap.size, 1, none⟩ = some (.string tx) := (HKD.out).cell id (HBX.out.cell 1)
                 have qw52 : w5.cell? ⟨w.heap.size, 2, none⟩ = some (.int .i64 nm) := (HKD.out).cell id (HBX.out.cell 2)
                 have qw53 : w5.cell? ⟨w.heap.size, 3, none⟩ = some (.int .i64 pl) := (HKD.out).cell id (HBX.out.cell 3)
                 have qw54 : w5.cell? ⟨w.heap.size, 4, none⟩ = some (.slice ka kn kc) := (HKD.out).cell id (HBX.out.cell 4)
                 clear hk)
              | (go_at_call 34
                 refine (P5.out _ HKC.out).mono ?_
                 rintro e w6 ⟨rfl, hk⟩
                 rw [H5.out]
                 have HKD1 := hide (HKD.out.trans' hk (fun _ _ => id) (fun _ _ => id) : Keeps NoB (w.alloc (.cells #[.int .u8 kd, .string tx, .int .i64 nm, .int .i64 pl, .slice ka kn kc] 29)) w6)
                 have HKC1 := hide (HKC.out.trans' hk (fun _ _ => id) (fun _ _ => id) : Keeps NoB w w6)
                 clear HKD HKC
                 have HKD := HKD1; have HKC := HKC1
                 clear HKD1 HKC1
                 clear hk)
              | fail
            go_ret
            exact ⟨by simp [h5, h6], HKC.out⟩
        · have b5 : decide ((d : Int) ≤ 50) = false := by simp; omega
          have c5 : decide (d ≤ 50) = false := by simpa using h5
          go_enter Tryd.func21, Tryd.ntmps21
          go_wp2_with
            first
            | (go_at_call 29
               refine (P1.out).mono ?_
               rintro e w2 ⟨rfl, hk⟩
               rw [H1.out]
               have HKD := hide hk
               have HKC := hide (HK.out.trans' hk (fun _ _ => id) (fun _ _ => id) : Keeps NoB w w2)
               have qw20 : w2.cell? ⟨w.heap.size, 0, none⟩ = some (.int .u8 kd) := (HKD.out).cell id (HBX.out.cell 0)
               have qw21 : w2.cell? ⟨w.heap.size, 1, none⟩ = some (.string tx) := (HKD.out).cell id (HBX.out.cell 1)
               have qw22 : w2.cell? ⟨w.heap.size, 2, none⟩ = some (.int .i64 nm) := (HKD.out).cell id (HBX.out.cell 2)
               have qw23 : w2.cell? ⟨w.heap.size, 3, none⟩ = some (.int .i64 pl) := (HKD.out).cell id (HBX.out.cell 3)
               have qw24 : w2.cell? ⟨w.heap.size, 4, none⟩ = some (.slice ka kn kc) := (HKD.out).cell id (HBX.out.cell 4)
               clear hk)
            | (go_at_call 30
               refine (P2.out _ HKC.out).mono ?_
               rintro e w3 ⟨rfl, hk⟩
               rw [H2.out]
               have HKD1 := hide (HKD.out.trans' hk (fun _ _ => id) (fun _ _ => id) : Keeps NoB (w.alloc (.cells #[.int .u8 kd, .string tx, .int .i64 nm, .int .i64 pl, .slice ka kn kc] 29)) w3)
               have HKC1 := hide (HKC.out.trans' hk (fun _ _ => id) (fun _ _ => id) : Keeps NoB w w3)
               clear HKD HKC
               have HKD := HKD1; have HKC := HKC1
               clear HKD1 HKC1
               have qw30 : w3.cell? ⟨w.heap.size, 0, none⟩ = some (.int .u8 kd) := (HKD.out).cell id (HBX.out.cell 0)
               have qw31 : w3.cell? ⟨w.heap.size, 1, none⟩ = some (.string tx) := (HKD.out).cell id (HBX.out.cell 1)
               have qw32 : w3.cell? ⟨w.heap.size, 2, none⟩ = some (.int .i64 nm) := (HKD.out).cell id (HBX.out.cell 2)
               have qw33 : w3.cell? ⟨w.heap.size, 3, none⟩ = some (.int .i64 pl) := (HKD.out).cell id (HBX.out.cell 3)
               have qw34 : w3.cell? ⟨w.heap.size, 4, none⟩ = some (.slice ka kn kc) := (HKD.out).cell id (HBX.out.cell 4)
               clear hk)
            | (go_at_call 32
               refine (P3.out _ HKC.out).mono ?_
               rintro e w4 ⟨rfl, hk⟩
               rw [H3.out]
               have HKD1 := hide (HKD.out.trans' hk (fun _ _ => id) (fun _ _ => id) : Keeps NoB (w.alloc (.cells #[.int .u8 kd, .string tx, .int .i64 nm, .int .i64 pl, .slice ka kn kc] 29)) w4)
               have HKC1 := hide (HKC.out.trans' hk (fun _ _ => id) (fun _ _ => id) : Keeps NoB w w4)
               clear HKD HKC
               have HKD := HKD1; have HKC := HKC1
               clear HKD1 HKC1
               have qw40 : w4.cell? ⟨w.heap.size, 0, none⟩ = some (.int .u8 kd) := (HKD.out).cell id (HBX.out.cell 0)
               have qw41 : w4.cell? ⟨w.heap.size, 1, none⟩ = some (.string tx) := (HKD.out).cell id (HBX.out.cell 1)
               have qw42 : w4.cell? ⟨w.heap.size, 2, none⟩ = some (.int .i64 nm) := (HKD.out).cell id (HBX.out.cell 2)
               have qw43 : w4.cell? ⟨w.heap.size, 3, none⟩ = some (.int .i64 pl) := (HKD.out).cell id (HBX.out.cell 3)
               have qw44 : w4.cell? ⟨w.heap.size, 4, none⟩ = some (.slice ka kn kc) := (HKD.out).cell id (HBX.out.cell 4)
               clear hk)
            | (go_at_call 33
               refine (P4.out _ HKC.out).mono ?_
               rintro e w5 ⟨rfl, hk⟩
               rw [H4.out]
               have HKD1 := hide (HKD.out.trans' hk (fun _ _ => id) (fun _ _ => id) : Keeps NoB (w.alloc (.cells #[.int .u8 kd, .string tx, .int .i64 nm, .int .i64 pl, .slice ka kn kc] 29)) w5)
               have HKC1 := hide (HKC.out.trans' hk (fun _ _ => id) (fun _ _ => id) : Keeps NoB w w5)
               clear HKD HKC
               have HKD := HKD1; have HKC := HKC1
               clear HKD1 HKC1
               have qw50 : w5.cell? ⟨w.heap.size, 0, none⟩ = some (.int .u8 kd) := (HKD.out).cell id (HBX.out.cell 0)
               have qw51 : w5.cell? ⟨w.heap.size, 1, none⟩ = some (.string tx) := (HKD.out).cell id (HBX.out.cell 1)
               have qw52 : w5.cell? ⟨w.heap.size, 2, none⟩ = some (.int .i64 nm) := (HKD.out).cell id (HBX.out.cell 2)
               have qw53 : w5.cell? ⟨w.heap.size, 3, none⟩ = some (.int .i64 pl) := (HKD.out).cell id (HBX.out.cell 3)
               have qw54 : w5.cell? ⟨w.heap.size, 4, none⟩ = some (.slice ka kn kc) := (HKD.out).cell id (HBX.out.cell 4)
               clear hk)
            | (go_at_call 34
               refine (P5.out _ HKC.out).mono ?_
               rintro e w6 ⟨rfl, hk⟩
               rw [H5.out]
               have HKD1 := hide (HKD.out.trans' hk (fun _ _ => id) (fun _ _ => id) : Keeps NoB (w.alloc (.cells #[.int .u8 kd, .string tx, .int .i64 nm, .int .i64 pl, .slice ka kn kc] 29)) w6)
               have HKC1 := hide (HKC.out.trans' hk (fun _ _ => id) (fun _ _ => id) : Keeps NoB w w6)
               clear HKD HKC
               have HKD := HKD1; have HKC := HKC1
               clear HKD1 HKC1
               clear hk)
            | fail
          go_ret
          exact ⟨by simp [h5], HKC.out⟩
      | false =>
        go_enter Tryd.func21, Tryd.ntmps21
        go_wp2_with
          first
          | (go_at_call 29
             refine (P1.out).mono ?_
             rintro e w2 ⟨rfl, hk⟩
             rw [H1.out]
             have HKD := hide hk
             have HKC := hide (HK.out.trans' hk (fun _ _ => id) (fun _ _ => id) : Keeps NoB w w2)
             have qw20 : w2.cell? ⟨w.heap.size, 0, none⟩ = some (.int .u8 kd) := (HKD.out).cell id (HBX.out.cell 0)
             have qw21 : w2.cell? ⟨w.heap.size, 1, none⟩ = some (.string tx) := (HKD.out).cell id (HBX.out.cell 1)
             have qw22 : w2.cell? ⟨w.heap.size, 2, none⟩ = some (.int .i64 nm) := (HKD.out).cell id (HBX.out.cell 2)
             have qw23 : w2.cell? ⟨w.heap.size, 3, none⟩ = some (.int .i64 pl) := (HKD.out).cell id (HBX.out.cell 3)
             have qw24 : w2.cell? ⟨w.heap.size, 4, none⟩ = some (.slice ka kn kc) := (HKD.out).cell id (HBX.out.cell 4)
             clear hk)
          | (go_at_call 30
             refine (P2.out _ HKC.out).mono ?_
             rintro e w3 ⟨rfl, hk⟩
             rw [H2.out]
             have HKD1 := hide (HKD.out.trans' hk (fun _ _ => id) (fun _ _ => id) : Keeps NoB (w.alloc (.cells #[.int .u8 kd, .string tx, .int .i64 nm, .int .i64 pl, .slice ka kn kc] 29)) w3)
             have HKC1 := hide (HKC.out.trans' hk (fun _ _ => id) (fun _ _ => id) : Keeps NoB w w3)
             clear HKD HKC
             have HKD := HKD1; have HKC := HKC1
             clear HKD1 HKC1
             have qw30 : w3.cell? ⟨w.heap.size, 0, none⟩ = some (.int .u8 kd) := (HKD.out).cell id (HBX.out.cell 0)
             have qw31 : w3.cell? ⟨w.heap.size, 1, none⟩ = some (.string tx) := (HKD.out).cell id (HBX.out.cell 1)
             have qw32 : w3.cell? ⟨w.heap.size, 2, none⟩ = some (.int .i64 nm) := (HKD.out).cell id (HBX.out.cell 2)
             have qw33 : w3.cell? ⟨w.heap.size, 3, none⟩ = some (.int .i64 pl) := (HKD.out).cell id (HBX.out.cell 3)
             have qw34 : w3.cell? ⟨w.heap.size, 4, none⟩ = some (.slice ka kn kc) := (HKD.out).cell id (HBX.out.cell 4)
             clear hk)
          | (go_at_call 32
             refine (P3.out _ HKC.out).mono ?_
             rintro e w4 ⟨rfl, hk⟩
             rw [H3.out]
             have HKD1 := hide (HKD.out.trans' hk (fun _ _ => id) (fun _ _ => id) : Keeps NoB (w.alloc (.cells #[.int .u8 kd, .string tx, .int .i64 nm, .int .i64 pl, .slice ka kn kc] 29)) w4)
             have HKC1 := hide (HKC.out.trans' hk (fun _ _ => id) (fun _ _ => id) : Keeps NoB w w4)
             clear HKD HKC
             have HKD := HKD1; have HKC := HKC1
             clear HKD1 HKC1
             have qw40 : w4.cell? ⟨w.heap.size, 0, none⟩ = some (.int .u8 kd) := (HKD.out).cell id (HBX.out.cell 0)
             have qw41 : w4.cell? ⟨w.heap.size, 1, none⟩ = some (.string tx) := (HKD.out).cell id (HBX.out.cell 1)
             have qw42 : w4.cell? ⟨w.heap.size, 2, none⟩ = some (.int .i64 nm) := (HKD.out).cell id (HBX.out.cell 2)
             have qw43 : w4.cell? ⟨w.heap.size, 3, none⟩ = some (.int .i64 pl) := (HKD.out).cell id (HBX.out.cell 3)
             have qw44 : w4.cell? ⟨w.heap.size, 4, none⟩ = some (.slice ka kn kc) := (HKD.out).cell id (HBX.out.cell 4)
             clear hk)
          | (go_at_call 33
             refine (P4.out _ HKC.out).mono ?_
             rintro e w5 ⟨rfl, hk⟩
             rw [H4.out]
             have HKD1 := hide (HKD.out.trans' hk (fun _ _ => id) (fun _ _ => id) : Keeps NoB (w.alloc (.cells #[.int .u8 kd, .string tx, .int .i64 nm, .int .i64 pl, .slice ka kn kc] 29)) w5)
             have HKC1 := hide (HKC.out.trans' hk (fun _ _ => id) (fun _ _ => id) : Keeps NoB w w5)
             clear HKD HKC
             have HKD := HKD1; have HKC := HKC1
             clear HKD1 HKC1
             have qw50 : w5.cell? ⟨w.heap.size, 0, none⟩ = some (.int .u8 kd) := (HKD.out).cell id (HBX.out.cell 0)
             have qw51 : w5.cell? ⟨w.heap.size, 1, none⟩ = some (.string tx) := (HKD.out).cell id (HBX.out.cell 1)
             have qw52 : w5.cell? ⟨w.heap.size, 2, none⟩ = some (.int .i64 nm) := (HKD.out).cell id (HBX.out.cell 2)
             have qw53 : w5.cell? ⟨w.heap.size, 3, none⟩ = some (.int .i64 pl) := (HKD.out).cell id (HBX.out.cell 3)
             have qw54 : w5.cell? ⟨w.heap.size, 4, none⟩ = some (.slice ka kn kc) := (HKD.out).cell id (HBX.out.cell 4)
             clear hk)
          | (go_at_call 34
             refine (P5.out _ HKC.out).mono ?_
             rintro e w6 ⟨rfl, hk⟩
             rw [H5.out]
             have HKD1 := hide (HKD.out.trans' hk (fun _ _ => id) (fun _ _ => id) : Keeps NoB (w.alloc (.cells #[.int .u8 kd, .string tx, .int .i64 nm, .int .i64 pl, .slice ka kn kc] 29)) w6)
             have HKC1 := hide (HKC.out.trans' hk (fun _ _ => id) (fun _ _ => id) : Keeps NoB w w6)
             clear HKD HKC
             have HKD := HKD1; have HKC := HKC1
             clear HKD1 HKC1
             clear hk)
          | fail
        go_ret
        exact ⟨by simp, HKC.out⟩
  | false =>
    cases v3 with
    | true =>
      by_cases h5 : d ≤ 50
      · have b5 : decide ((d : Int) ≤ 50) = true := by simp; omega
        have c5 : decide (d ≤ 50) = true := by simpa using h5
        by_cases h6 : m ≤ 16384
        · have b6 : decide ((m : Int) ≤ 16384) = true := by simp; omega
          have c6 : decide (m ≤ 16384) = true := by simpa using h6
          go_enter Tryd.func21, Tryd.ntmps21
          go_wp2_with
            first
            | (go_at_call 29
               refine (P1.out).mono ?_
               rintro e w2 ⟨rfl, hk⟩
               rw [H1.out]
               have HKD := hide hk
               have HKC := hide (HK.out.trans' hk (fun _ _ => id) (fun _ _ => id) : Keeps NoB w w2)
               have qw20 : w2.cell? ⟨w.heap.size, 0, none⟩ = some (.int .u8 kd) := (HKD.out).cell id (HBX.out.cell 0)
               have qw21 : w2.cell? ⟨w.heap.size, 1, none⟩ = some (.string tx) := (HKD.out).cell id (HBX.out.cell 1)
               have qw22 : w2.cell? ⟨w.heap.size, 2, none⟩ = some (.int .i64 nm) := (HKD.out).cell id (HBX.out.cell 2)
               have qw23 : w2.cell? ⟨w.heap.size, 3, none⟩ = some (.int .i64 pl) := (HKD.out).cell id (HBX.out.cell 3)
               have qw24 : w2.cell? ⟨w.heap.size, 4, none⟩ = some (.slice ka kn kc) := (HKD.out).cell id (HBX.out.cell 4)
               clear hk)
            | (go_at_call 30
               refine (P2.out _ HKC.out).mono ?_
               rintro e w3 ⟨rfl, hk⟩
               rw [H2.out]
               have HKD1 := hide (HKD.out.trans' hk (fun _ _ => id) (fun _ _ => id) : Keeps NoB (w.alloc (.cells #[.int .u8 kd, .string tx, .int .i64 nm, .int .i64 pl, .slice ka kn kc] 29)) w3)
               have HKC1 := hide (HKC.out.trans' hk (fun _ _ => id) (fun _ _ => id) : Keeps NoB w w3)
               clear HKD HKC
               have HKD := HKD1; have HKC := HKC1
               clear HKD1 HKC1
               have qw30 : w3.cell? ⟨w.heap.size, 0, none⟩ = some (.int .u8 kd) := (HKD.out).cell id (HBX.out.cell 0)
               have qw31 : w3.cell? ⟨w.heap.size, 1, none⟩ = some (.string tx) := (HKD.out).cell id (HBX.out.cell 1)
               have qw32 : w3.cell? ⟨w.heap.size, 2, none⟩ = some (.int .i64 nm) := (HKD.out).cell id (HBX.out.cell 2)
               have qw33 : w3.cell? ⟨w.heap.size, 3, none⟩ = some (.int .i64 pl) := (HKD.out).cell id (HBX.out.cell 3)
               have qw34 : w3.cell? ⟨w.heap.size, 4, none⟩ = some (.slice ka kn kc) := (HKD.out).cell id (HBX.out.cell 4)
               clear hk)
            | (go_at_call 32
               refine (P3.out _ HKC.out).mono ?_
               rintro e w4 ⟨rfl, hk⟩
               rw [H3.out]
               have HKD1 := hide (HKD.out.trans' hk (fun _ _ => id) (fun _ _ => id) : Keeps NoB (w.alloc (.cells #[.int .u8 kd, .string tx, .int .i64 nm, .int .i64 pl, .slice ka kn kc] 29)) w4)
               have HKC1 := hide (HKC.out.trans' hk (fun _ _ => id) (fun _ _ => id) : Keeps NoB w w4)
               clear HKD HKC
               have HKD := HKD1; have HKC := HKC1
               clear HKD1 HKC1
               have qw40 : w4.cell? ⟨w.heap.size, 0, none⟩ = some (.int .u8 kd) := (HKD.out).cell id (HBX.out.cell 0)
               have qw41 : w4.cell? ⟨w.heap.size, 1, none⟩ = some (.string tx) := (HKD.out).cell id (HBX.out.cell 1)
               have qw42 : w4.cell? ⟨w.heap.size, 2, none⟩ = some (.int .i64 nm) := (HKD.out).cell id (HBX.out.cell 2)
               have qw43 : w4.cell? ⟨w.heap.size, 3, none⟩ = some (.int .i64 pl) := (HKD.out).cell id (HBX.out.cell 3)
               have qw44 : w4.cell? ⟨w.heap.size, 4, none⟩ = some (.slice ka kn kc) := (HKD.out).cell id (HBX.out.cell 4)
               clear hk)
            | (go_at_call 33
               refine (P4.out _ HKC.out).mono ?_
               rintro e w5 ⟨rfl, hk⟩
               rw [H4.out]
               have HKD1 := hide (HKD.out.trans' hk (fun _ _ => id) (fun _ _ => id) : Keeps NoB (w.alloc (.cells #[.int .u8 kd, .string tx, .int .i64 nm, .int .i64 pl, .slice ka kn kc] 29)) w5)
               have HKC1 := hide (HKC.out.trans' hk (fun _ _ => id) (fun _ _ => id) : Keeps NoB w w5)
               clear HKD HKC
               have HKD := HKD1; have HKC := HKC1
               clear HKD1 HKC1
               have qw50 : w5.cell? ⟨w.heap.size, 0, none⟩ = some (.int .u8 kd) := (HKD.out).cell id (HBX.out.cell 0)
               have qw51 : w5.cell? ⟨w.heap.size, 1, none⟩ = some (.string tx) := (HKD.out).cell id (HBX.out.cell 1)
               have qw52 : w5.cell? ⟨w.heap.size, 2, none⟩ = some (.int .i64 nm) := (HKD.out).cell id (HBX.out.cell 2)
               have qw53 : w5.cell? ⟨w.heap.size, 3, none⟩ = some (.int .i64 pl) := (HKD.out).cell id (HBX.out.cell 3)
               have qw54 : w5.cell? ⟨w.heap.size, 4, none⟩ = some (.slice ka kn kc) := (HKD.out).cell id (HBX.out.cell 4)
               clear hk)
            | (go_at_call 34
               refine (P5.out _ HKC.out).mono ?_
               rintro e w6 ⟨rfl, hk⟩
               rw [H5.out]
               have HKD1 := hide (HKD.out.trans' hk (fun _ _ => id) (fun _ _ => id) : Keeps NoB (w.alloc (.cells #[.int .u8 kd, .string tx, .int .i64 nm, .int .i64 pl, .slice ka kn kc] 29)) w6)
               have HKC1 := hide (HKC.out.trans' hk (fun _ _ => id) (fun _ _ => id) : Keeps NoB w w6)
               clear HKD HKC
               have HKD := HKD1; have HKC := HKC1
               clear HKD1 HKC1
               clear hk)
            | fail
          go_ret
          exact ⟨by simp [h5, h6], HKC.out⟩
        · have b6 : decide ((m : Int) ≤ 16384) = false := by simp; omega
          have c6 : decide (m ≤ 16384) = false := by simpa using h6
          go_enter Tryd.func21, Tryd.ntmps21
          go_wp2_with
            first
            | (go_at_call 29
               refine (P1.out).mono ?_
               rintro e w2 ⟨rfl, hk⟩
               rw [H1.out]
               have HKD := hide hk
               have HKC := hide (HK.out.trans' hk (fun _ _ => id) (fun _ _ => id) : Keeps NoB w w2)
               have qw20 : w2.cell? ⟨w.heap.size, 0, none⟩ = some (.int .u8 kd) := (HKD.out).cell id (HBX.out.cell 0)
               have qw21 : w2.cell? ⟨w.heap.size, 1, none⟩ = some (.string tx) := (HKD.out).cell id (HBX.out.cell 1)
               have qw22 : w2.cell? ⟨w.heap.size, 2, none⟩ = some (.int .i64 nm) := (HKD.out).cell id (HBX.out.cell 2)
               have qw23 : w2.cell? ⟨w.heap.size, 3, none⟩ = some (.int .i64 pl) := (HKD.out).cell id (HBX.out.cell 3)
               have qw24 : w2.cell? ⟨w.heap.size, 4, none⟩ = some (.slice ka kn kc) := (HKD.out).cell id (HBX.out.cell 4)
               clear hk)
            | (go_at_call 30
               refine (P2.out _ HKC.out).mono ?_
               rintro e w3 ⟨rfl, hk⟩
               rw [H2.out]
               have HKD1 := hide (HKD.out.trans' hk (fun _ _ => id) (fun _ _ => id) : Keeps NoB (w.alloc (.cells #[.int .u8 kd, .string tx, .int .i64 nm, .int .i64 pl, .slice ka kn kc] 29)) w3)
               have HKC1 := hide (HKC.out.trans' hk (fun _ _ => id) (fun _ _ => id) : Keeps NoB w w3)
               clear HKD HKC
               have HKD := HKD1; have HKC := HKC1
               clear HKD1 HKC1
               have qw30 : w3.cell? ⟨w.heap.size, 0, none⟩ = some (.int .u8 kd) := (HKD.out).cell id (HBX.out.cell 0)
               have qw31 : w3.cell? ⟨w.heap.size, 1, none⟩ = some (.string tx) := (HKD.out).cell id (HBX.out.cell 1)
               have qw32 : w3.cell? ⟨w.heap.size, 2, none⟩ = some (.int .i64 nm) := (HKD.out).cell id (HBX.out.cell 2)
               have qw33 : w3.cell? ⟨w.heap.size, 3, none⟩ = some (.int .i64 pl) := (HKD.out).cell id (HBX.out.cell 3)
               have qw34 : w3.cell? ⟨w.heap.size, 4, none⟩ = some (.slice ka kn kc) := (HKD.out).cell id (HBX.out.cell 4)
               clear hk)
            | (go_at_call 32
               refine (P3.out _ HKC.out).mono ?_
               rintro e w4 ⟨rfl, hk⟩
               rw [H3.out]
               have HKD1 := hide (HKD.out.trans' hk (fun _ _ => id) (fun _ _ => id) : Keeps NoB (w.alloc (.cells #[.int .u8 kd, .string tx, .int .i64 nm, .int .i64 pl, .slice ka kn kc] 29)) w4)
               have HKC1 := hide (HKC.out.trans' hk (fun _ _ => id) (fun _ _ => id) : Keeps NoB w w4)
               clear HKD HKC
               have HKD := HKD1; have HKC := HKC1
               clear HKD1 HKC1
               have qw40 : w4.cell? ⟨w.heap.size, 0, none⟩ = some (.int .u8 kd) := (HKD.out).cell id (HBX.out.cell 0)
               have qw41 : w4.cell? ⟨w.heap.size, 1, none⟩ = some (.string tx) := (HKD.out).cell id (HBX.out.cell 1)
               have qw42 : w4.cell? ⟨w.heap.size, 2, none⟩ = some (.int .i64 nm) := (HKD.out).cell id (HBX.out.cell 2)
               have qw43 : w4.cell? ⟨w.heap.size, 3, none⟩ = some (.int .i64 pl) := (HKD.out).cell id (HBX.out.cell 3)
               have qw44 : w4.cell? ⟨w.heap.size, 4, none⟩ = some (.slice ka kn kc) := (HKD.out).cell id (HBX.out.cell 4)
               clear hk)
            | (go_at_call 33
               refine (P4.out _ HKC.out).mono ?_
               rintro e w5 ⟨rfl, hk⟩
               rw [H4.out]
               have HKD1 := hide (HKD.out.trans' hk (fun _ _ => id) (fun _ _ => id) : Keeps NoB (w.alloc (.cells #[.int .u8 kd, .string tx, .int .i64 nm, .int .i64 pl, .slice ka kn kc] 29)) w5)
               have HKC1 := hide (HKC.out.trans' hk (fun _ _ => id) (fun _ _ => id) : Keeps NoB w w5)
               clear HKD HKC
               have HKD := HKD1; have HKC := HKC1
               clear HKD1 HKC1
               have qw50 : w5.cell? ⟨w.heap.size, 0, none⟩ = some (.int .u8 kd) := (HKD.out).cell id (HBX.out.cell 0)
               have qw51 : w5.cell? ⟨w.heap.size, 1, none⟩ = some (.string tx) := (HKD.out).cell id (HBX.out.cell 1)
               have qw52 : w5.cell? ⟨w.heap.size, 2, none⟩ = some (.int .i64 nm) := (HKD.out).cell id (HBX.out.cell 2)
               have qw53 : w5.cell? ⟨w.heap.size, 3, none⟩ = some (.int .i64 pl) := (HKD.out).cell id (HBX.out.cell 3)
               have qw54 : w5.cell? ⟨w.heap.size, 4, none⟩ = some (.slice ka kn kc) := (HKD.out).cell id (HBX.out.cell 4)
               clear hk)
            | (go_at_call 34
               refine (P5.out _ HKC.out).mono ?_
               rintro e w6 ⟨rfl, hk⟩
               rw [H5.out]
               have HKD1 := hide (HKD.out.trans' hk (fun _ _ => id) (fun _ _ => id) : Keeps NoB (w.alloc (.cells #[.int .u8 kd, .string tx, .int .i64 nm, .int .i64 pl, .slice ka kn kc] 29)) w6)
               have HKC1 := hide (HKC.out.trans' hk (fun _ _ => id) (fun _ _ => id) : Keeps NoB w w6)
               clear HKD HKC
               have HKD := HKD1; have HKC := HKC1
               clear HKD1 HKC1
               clear hk)
            | fail
          go_ret
          exact ⟨by simp [h5, h6], HKC.out⟩
      · have b5 : decide ((d : Int) ≤ 50) = false := by simp; omega
        have c5 : decide (d ≤ 50) = false := by simpa using h5
        go_enter Tryd.func21, Tryd.ntmps21
        go_wp2_with
          first
          | (go_at_call 29
             refine (P1.out).mono ?_
             rintro e w2 ⟨rfl, hk⟩
             rw [H1.out]
             have HKD := hide hk
             have HKC := hide (HK.out.trans' hk (fun _ _ => id) (fun _ _ => id) : Keeps NoB w w2)
             have qw20 : w2.cell? ⟨w.heap.size, 0, none⟩ = some (.int .u8 kd) := (HKD.out).cell id (HBX.out.cell 0)
             have qw21 : w2.cell? ⟨w.heap.size, 1, none⟩ = some (.string tx) := (HKD.out).cell id (HBX.out.cell 1)
             have qw22 : w2.cell? ⟨w.heap.size, 2, none⟩ = some (.int .i64 nm) := (HKD.out).cell id (HBX.out.cell 2)
             have qw23 : w2.cell? ⟨w.heap.size, 3, none⟩ = some (.int .i64 pl) := (HKD.out).cell id (HBX.out.cell 3)
             have qw24 : w2.cell? ⟨w.heap.size, 4, none⟩ = some (.slice ka kn kc) := (HKD.out).cell id (HBX.out.cell 4)
             clear hk)
          | (go_at_call 30
             refine (P2.out _ HKC.out).mono ?_
             rintro e w3 ⟨rfl, hk⟩
             rw [H2.out]
             have HKD1 := hide (HKD.out.trans' hk (fun _ _ => id) (fun _ _ => id) : Keeps NoB (w.alloc (.cells #[.int .u8 kd, .string tx, .int .i64 nm, .int .i64 pl, .slice ka kn kc] 29)) w3)
             have HKC1 := hide (HKC.out.trans' hk (fun _ _ => id) (fun _ _ => id) : Keeps NoB w w3)
             clear HKD HKC
             have HKD := HKD1; have HKC := HKC1
             clear HKD1 HKC1
             have qw30 : w3.cell? ⟨w.heap.size, 0, none⟩ = some (.int .u8 kd) := (HKD.out).cell id (HBX.out.cell 0)
             have qw31 : w3.cell? ⟨w.heap.size, 1, none⟩ = some (.string tx) := (HKD.out).cell id (HBX.out.cell 1)
             have qw32 : w3.cell? ⟨w.heap.size, 2, none⟩ = some (.int .i64 nm) := (HKD.out).cell id (HBX.out.cell 2)
             have qw33 : w3.cell? ⟨w.heap.size, 3, none⟩ = some (.int .i64 pl) := (HKD.out).cell id (HBX.out.cell 3)
             have qw34 : w3.cell? ⟨w.heap.size, 4, none⟩ = some (.slice ka kn kc) := (HKD.out).cell id (HBX.out.cell 4)
             clear hk)
          | (go_at_call 32
             refine (P3.out _ HKC.out).mono ?_
             rintro e w4 ⟨rfl, hk⟩
             rw [H3.out]
             have HKD1 := hide (HKD.out.trans' hk (fun _ _ => id) (fun _ _ => id) : Keeps NoB (w.alloc (.cells #[.int .u8 kd, .string tx, .int .i64 nm, .int .i64 pl, .slice ka kn kc] 29)) w4)
             have HKC1 := hide (HKC.out.trans' hk (fun _ _ => id) (fun _ _ => id) : Keeps NoB w w4)
             clear HKD HKC
             have HKD := HKD1; have HKC := HKC1
             clear HKD1 HKC1
             have qw40 : w4.cell? ⟨w.heap.size, 0, none⟩ = some (.int .u8 kd) := (HKD.out).cell id (HBX.out.cell 0)
             have qw41 : w4.cell? ⟨w.heap.size, 1, none⟩ = some (.string tx) := (HKD.out).cell id (HBX.out.cell 1)
             have qw42 : w4.cell? ⟨w.heap.size, 2, none⟩ = some (.int .i64 nm) := (HKD.out).cell id (HBX.out.cell 2)
             have qw43 : w4.cell? ⟨w.heap.size, 3, none⟩ = some (.int .i64 pl) := (HKD.out).cell id (HBX.out.cell 3)
             have qw44 : w4.cell? ⟨w.heap.size, 4, none⟩ = some (.slice ka kn kc) := (HKD.out).cell id (HBX.out.cell 4)
             clear hk)
          | (go_at_call 33
             refine (P4.out _ HKC.out).mono ?_
             rintro e w5 ⟨rfl, hk⟩
             rw [H4.out]
             have HKD1 := hide (HKD.out.trans' hk (fun _ _ => id) (fun _ _ => id) : Keeps NoB (w.alloc (.cells #[.int .u8 kd, .string tx, .int .i64 nm, .int .i64 pl, .slice ka kn kc] 29)) w5)
             have HKC1 := hide (HKC.out.trans' hk (fun _ _ => id) (fun _ _ => id) : Keeps NoB w w5)
             clear HKD HKC
             have HKD := HKD1; have HKC := HKC1
             clear HKD1 HKC1
             have qw50 : w5.cell? ⟨w.heap.size, 0, none⟩ = some (.int .u8 kd) := (HKD.out).cell id (HBX.out.cell 0)
             have qw51 : w5.cell? ⟨w.heap.size, 1, none⟩ = some (.string tx) := (HKD.out).cell id (HBX.out.cell 1)
             have qw52 : w5.cell? ⟨w.heap.size, 2, none⟩ = some (.int .i64 nm) := (HKD.out).cell id (HBX.out.cell 2)
             have qw53 : w5.cell? ⟨w.heap.size, 3, none⟩ = some (.int .i64 pl) := (HKD.out).cell id (HBX.out.cell 3)
             have qw54 : w5.cell? ⟨w.heap.size, 4, none⟩ = some (.slice ka kn kc) := (HKD.out).cell id (HBX.out.cell 4)
             clear hk)
          | (go_at_call 34
             refine (P5.out _ HKC.out).mono ?_
             rintro e w6 ⟨rfl, hk⟩
             rw [H5.out]
             have HKD1 := hide (HKD.out.trans' hk (fun _ _ => id) (fun _ _ => id) : Keeps NoB (w.alloc (.cells #[.int .u8 kd, .string tx, .int .i64 nm, .int .i64 pl, .slice ka kn kc] 29)) w6)
             have HKC1 := hide (HKC.out.trans' hk (fun _ _ => id) (fun _ _ => id) : Keeps NoB w w6)
             clear HKD HKC
             have HKD := HKD1; have HKC := HKC1
             clear HKD1 HKC1
             clear hk)
          | fail
        go_ret
        exact ⟨by simp [h5], HKC.out⟩
    | false =>
      go_enter Tryd.func21, Tryd.ntmps21
      go_wp2_with
        first
        | (go_at_call 29
           refine (P1.out).mono ?_
           rintro e w2 ⟨rfl, hk⟩
           rw [H1.out]
           have HKD := hide hk
           have HKC := hide (HK.out.trans' hk (fun _ _ => id) (fun _ _ => id) : Keeps NoB w w2)
           have qw20 : w2.cell? ⟨w.heap.size, 0, none⟩ = some (.int .u8 kd) := (HKD.out).cell id (HBX.out.cell 0)
           have qw21 : w2.cell? ⟨w.heap.size, 1, none⟩ = some (.string tx) := (HKD.out).cell id (HBX.out.cell 1)
           have qw22 : w2.cell? ⟨w.heap.size, 2, none⟩ = some (.int .i64 nm) := (HKD.out).cell id (HBX.out.cell 2)
           have qw23 : w2.cell? ⟨w.heap.size, 3, none⟩ = some (.int .i64 pl) := (HKD.out).cell id (HBX.out.cell 3)
           have qw24 : w2.cell? ⟨w.heap.size, 4, none⟩ = some (.slice ka kn kc) := (HKD.out).cell id (HBX.out.cell 4)
           clear hk)
        | (go_at_call 30
           refine (P2.out _ HKC.out).mono ?_
           rintro e w3 ⟨rfl, hk⟩
           rw [H2.out]
           have HKD1 := hide (HKD.out.trans' hk (fun _ _ => id) (fun _ _ => id) : Keeps NoB (w.alloc (.cells #[.int .u8 kd, .string tx, .int .i64 nm, .int .i64 pl, .slice ka kn kc] 29)) w3)
           have HKC1 := hide (HKC.out.trans' hk (fun _ _ => id) (fun _ _ => id) : Keeps NoB w w3)
           clear HKD HKC
           have HKD := HKD1; have HKC := HKC1
           clear HKD1 HKC1
           have qw30 : w3.cell? ⟨w.heap.size, 0, none⟩ = some (.int .u8 kd) := (HKD.out).cell id (HBX.out.cell 0)
           have qw31 : w3.cell? ⟨w.heap.size, 1, none⟩ = some (.string tx) := (HKD.out).cell id (HBX.out.cell 1)
           have qw32 : w3.cell? ⟨w.heap.size, 2, none⟩ = some (.int .i64 nm) := (HKD.out).cell id (HBX.out.cell 2)
           have qw33 : w3.cell? ⟨w.heap.size, 3, none⟩ = some (.int .i64 pl) := (HKD.out).cell id (HBX.out.cell 3)
           have qw34 : w3.cell? ⟨w.heap.size, 4, none⟩ = some (.slice ka kn kc) := (HKD.out).cell id (HBX.out.cell 4)
           clear hk)
        | (go_at_call 32
           refine (P3.out _ HKC.out).mono ?_
           rintro e w4 ⟨rfl, hk⟩
           rw [H3.out]
           have HKD1 := hide (HKD.out.trans' hk (fun _ _ => id) (fun _ _ => id) : Keeps NoB (w.alloc (.cells #[.int .u8 kd, .string tx, .int .i64 nm, .int .i64 pl, .slice ka kn kc] 29)) w4)
           have HKC1 := hide (HKC.out.trans' hk (fun _ _ => id) (fun _ _ => id) : Keeps NoB w w4)
           clear HKD HKC
           have HKD := HKD1; have HKC := HKC1
           clear HKD1 HKC1
           have qw40 : w4.cell? ⟨w.heap.size, 0, none⟩ = some (.int .u8 kd) := (HKD.out).cell id (HBX.out.cell 0)
           have qw41 : w4.cell? ⟨w.heap.size, 1, none⟩ = some (.string tx) := (HKD.out).cell id (HBX.out.cell 1)
           have qw42 : w4.cell? ⟨w.heap.size, 2, none⟩ = some (.int .i64 nm) := (HKD.out).cell id (HBX.out.cell 2)
           have qw43 : w4.cell? ⟨w.heap.size, 3, none⟩ = some (.int .i64 pl) := (HKD.out).cell id (HBX.out.cell 3)
           have qw44 : w4.cell? ⟨w.heap.size, 4, none⟩ = some (.slice ka kn kc) := (HKD.out).cell id (HBX.out.cell 4)
           clear hk)
        | (go_at_call 33
           refine (P4.out _ HKC.out).mono ?_
           rintro e w5 ⟨rfl, hk⟩
           rw [H4.out]
           have HKD1 := hide (HKD.out.trans' hk (fun _ _ => id) (fun _ _ => id) : Keeps NoB (w.alloc (.cells #[.int .u8 kd, .string tx, .int .i64 nm, .int .i64 pl, .slice ka kn kc] 29)) w5)
           have HKC1 := hide (HKC.out.trans' hk (fun _ _ => id) (fun _ _ => id) : Keeps NoB w w5)
           clear HKD HKC
           have HKD := HKD1; have HKC := HKC1
           clear HKD1 HKC1
           have qw50 : w5.cell? ⟨w.heap.size, 0, none⟩ = some (.int .u8 kd) := (HKD.out).cell id (HBX.out.cell 0)
           have qw51 : w5.cell? ⟨w.heap.size, 1, none⟩ = some (.string tx) := (HKD.out).cell id (HBX.out.cell 1)
           have qw52 : w5.cell? ⟨w.heap.size, 2, none⟩ = some (.int .i64 nm) := (HKD.out).cell id (HBX.out.cell 2)
           have qw53 : w5.cell? ⟨w.heap.size, 3, none⟩ = some (.int .i64 pl) := (HKD.out).cell id (HBX.out.cell 3)
           have qw54 : w5.cell? ⟨w.heap.size, 4, none⟩ = some (.slice ka kn kc) := (HKD.out).cell id (HBX.out.cell 4)
           clear hk)
        | (go_at_call 34
           refine (P5.out _ HKC.out).mono ?_
           rintro e w6 ⟨rfl, hk⟩
           rw [H5.out]
           have HKD1 := hide (HKD.out.trans' hk (fun _ _ => id) (fun _ _ => id) : Keeps NoB (w.alloc (.cells #[.int .u8 kd, .string tx, .int .i64 nm, .int .i64 pl, .slice ka kn kc] 29)) w6)
           have HKC1 := hide (HKC.out.trans' hk (fun _ _ => id) (fun _ _ => id) : Keeps NoB w w6)
           clear HKD HKC
           have HKD := HKD1; have HKC := HKC1
           clear HKD1 HKC1
           clear hk)
        | fail
      go_ret
      exact ⟨by simp, HKC.out⟩
end Go.Proofs.YtincajfanhanjaaDoor
