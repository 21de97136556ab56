/- LintNames: its walk. -/
import Derived.Test.YtincajfanhanjaaDoorRenamed
import Derived.Test.YtincajfanhanjaaDoorSeq
namespace Go.Proofs.YtincajfanhanjaaDoor
open Go.RowKit

theorem low_take {u : ByteArray} {k : Nat} (h : (u.toList.take k).all lowly = true) (hb : k < u.size) (hl : lowly (u[k]'hb) = true) : (u.toList.take (k + 1)).all lowly = true := by
  have e : u.toList[k]? = some (u[k]'hb) := by
    rw [Lib.toList_data]
    exact List.getElem?_eq_getElem (by simpa using hb)
  rw [List.take_add_one, e, List.all_append, h]
  simp [hl]
theorem lowly_nat {c : UInt8} (h : lowly c = true) : (97 ≤ c.toNat ∧ c.toNat ≤ 122) ∨ (48 ≤ c.toNat ∧ c.toNat ≤ 57) := by
  unfold lowly at h
  simp only [Bool.or_eq_true, Bool.and_eq_true, decide_eq_true_eq, UInt8.le_iff_toNat_le] at h
  exact h
theorem not_lowly_nat {c : UInt8} (h : ¬ lowly c = true) : c.toNat < 48 ∨ (57 < c.toNat ∧ c.toNat < 97) ∨ 122 < c.toNat := by
  unfold lowly at h
  simp only [Bool.or_eq_true, Bool.and_eq_true, decide_eq_true_eq, UInt8.le_iff_toNat_le] at h
  have h1 : (97 : UInt8).toNat = 97 := rfl
  have h2 : (122 : UInt8).toNat = 122 := rfl
  have h3 : (48 : UInt8).toNat = 48 := rfl
  have h4 : (57 : UInt8).toNat = 57 := rfl
  omega
theorem toList_ne {u : ByteArray} (h : ¬ u.size < 1) : u.toList ≠ [] := by
  intro e
  rw [Lib.toList_data] at e
  have e1 : u.data.toList.length = 0 := by rw [e]; rfl
  have e2 : u.data.toList.length = u.size := Array.length_toList
  omega
mutual
theorem okN_ren {u : ByteArray} : ∀ t : Nd, okN t → longN t + u.size ≤ 40 → okN (renN u t)
  | .mk k tx nm pl kids, h, hl => by
    unfold okN at h
    unfold longN at hl
    simp only [renN]
    unfold okN
    refine ⟨h.1, ?_, h.2.2.1, h.2.2.2.1, okNs_ren kids h.2.2.2.2 (by omega)⟩
    unfold renT
    split
    · rename_i hq
      rw [if_pos hq.1] at hl
      rw [ByteArray.size_append]
      omega
    · exact h.2.1
theorem okNs_ren {u : ByteArray} : ∀ ts : List Nd, okNs ts → longsN ts + u.size ≤ 40 → okNs (rensN u ts)
  | [], _, _ => by simp only [rensN]; unfold okNs; trivial
  | t :: ts, h, hl => by
    unfold okNs at h
    unfold longsN at hl
    simp only [rensN]
    unfold okNs
    exact ⟨okN_ren t h.1 (by omega), okNs_ren ts h.2 (by omega)⟩
end
theorem check_err {t : Nd} (h : (checkN t).1 ≠ 4) : t.kind = 22 ∧ rightN t = true := by
  by_cases h22 : t.kind = 22
  · refine ⟨h22, ?_⟩
    cases hr : rightN t with
    | true => rfl
    | false =>
      have e : checkN t = (4, 0) := by unfold checkN checkE; rw [if_pos (.inr hr)]
      rw [e] at h
      exact absurd rfl h
  · have e : checkN t = (4, 0) := by unfold checkN checkE; rw [if_pos (.inl h22)]
    rw [e] at h
    exact absurd rfl h
def TrueP (w : World) (e : Ending) (w' : World) : Prop := e = .returned (.bool true) ∧ Keeps NoB w w'
set_option maxRecDepth 100000 in
set_option maxHeartbeats 4000000 in
theorem names_any (u : ByteArray) (hun : u.size ≤ 140737488355328) (t : Nd) (w : World) (B : Nat → Prop) (F : Bool) (kd : Int) (tx : ByteArray) (nm pl : Int) (ka : Option Addr) (kn kc : Nat) (hL : LaidN w) (ho : okN t) (ht : NodeIn w B F [.int .u8 kd, .string tx, .int .i64 nm, .int .i64 pl, .slice ka kn kc] t) :
    Calls Tryd.prog 5 #[.agg #[.int .u8 kd, .string tx, .int .i64 nm, .int .i64 pl, .slice ka kn kc], .string u] w (TrueP w) := by
  have HK0 := hide ((Keeps.refl NoB w).alloc (.cells #[.int .u8 kd, .string tx, .int .i64 nm, .int .i64 pl, .slice ka kn kc] 29))
  have HBX := hide (Blk.new w 29 #[.int .u8 kd, .string tx, .int .i64 nm, .int .i64 pl, .slice ka kn kc])
  have HL := hide hL; have HT := hide ht; have HO := hide ho
  have hll := long_ok t ho
  obtain ⟨L, hlt⟩ : ∃ L, longN t = L := ⟨_, rfl⟩
  rw [hlt] at hll
  have HLT := hide hlt
  clear hL ht ho hlt
  have hfd : ∀ (w : World) (a b : Int), (Instr.field 33 (.agg #[.int .i64 a, .int .i64 b]) 0).run Tryd.prog w = .ok (.int .i64 a) w := fun _ _ _ => by kernel_rfl
  cases hs : smallN t with
  | false =>
    have HS := hide hs
    clear hs
    go_enter Tryd.func5, Tryd.ntmps5
    go_wp2_with
      first
      | (go_at_call 7
         refine (awake_any _ (HL.out.keep HK0.out)).mono ?_
         rintro e w1 ⟨rfl, hk⟩
         have HB1 := hide (HBX.out.keep hk id)
         have HK1 := hide (HK0.out.trans' hk (fun _ _ => id) (fun _ _ => id) : Keeps NoB w w1)
         have a0 : w1.cell? ⟨w.heap.size, 0, none⟩ = some (.int .u8 kd) := HB1.out.cell 0; have a1 : w1.cell? ⟨w.heap.size, 1, none⟩ = some (.string tx) := HB1.out.cell 1; have a2 : w1.cell? ⟨w.heap.size, 2, none⟩ = some (.int .i64 nm) := HB1.out.cell 2; have a3 : w1.cell? ⟨w.heap.size, 3, none⟩ = some (.int .i64 pl) := HB1.out.cell 3; have a4 : w1.cell? ⟨w.heap.size, 4, none⟩ = some (.slice ka kn kc) := HB1.out.cell 4
         clear hk)
      | (go_at_call 10
         refine (small_any t HO.out w1 B F kd tx nm pl ka kn kc (NodeIn.keep HK1.out (fun _ _ => id) _ _ HT.out)).mono ?_
         rintro e w2 ⟨rfl, hk⟩
         rw [HS.out]
         have HB2 := hide (HB1.out.keep hk id)
         have HK2 := hide (HK1.out.trans' hk (fun _ _ => id) (fun _ _ => id) : Keeps NoB w w2)
         have b0 : w2.cell? ⟨w.heap.size, 0, none⟩ = some (.int .u8 kd) := HB2.out.cell 0; have b1 : w2.cell? ⟨w.heap.size, 1, none⟩ = some (.string tx) := HB2.out.cell 1; have b2 : w2.cell? ⟨w.heap.size, 2, none⟩ = some (.int .i64 nm) := HB2.out.cell 2; have b3 : w2.cell? ⟨w.heap.size, 3, none⟩ = some (.int .i64 pl) := HB2.out.cell 3; have b4 : w2.cell? ⟨w.heap.size, 4, none⟩ = some (.slice ka kn kc) := HB2.out.cell 4
         clear hk)
      | (go_at_call 11
         refine (check_any t w2 B F kd tx nm pl ka kn kc (HL.out.keep HK2.out) HO.out HM.out (NodeIn.keep HK2.out (fun _ _ => id) _ _ HT.out)).mono ?_
         rintro e w3 ⟨rfl, hk⟩
         rw [HC.out]
         have HB3 := hide (HB2.out.keep hk id)
         have HK3 := hide (HK2.out.trans' hk (fun _ _ => id) (fun _ _ => id) : Keeps NoB w w3)
         have c0 : w3.cell? ⟨w.heap.size, 0, none⟩ = some (.int .u8 kd) := HB3.out.cell 0; have c1 : w3.cell? ⟨w.heap.size, 1, none⟩ = some (.string tx) := HB3.out.cell 1; have c2 : w3.cell? ⟨w.heap.size, 2, none⟩ = some (.int .i64 nm) := HB3.out.cell 2; have c3 : w3.cell? ⟨w.heap.size, 3, none⟩ = some (.int .i64 pl) := HB3.out.cell 3; have c4 : w3.cell? ⟨w.heap.size, 4, none⟩ = some (.slice ka kn kc) := HB3.out.cell 4
         clear hk)
      | (go_at_call 12
         refine (long_any t HO.out w3 B F kd tx nm pl ka kn kc (NodeIn.keep HK3.out (fun _ _ => id) _ _ HT.out)).mono ?_
         rintro e w4 ⟨rfl, hk⟩
         rw [HLT.out]
         have HB4 := hide (HB3.out.keep hk id)
         have HK4 := hide (HK3.out.trans' hk (fun _ _ => id) (fun _ _ => id) : Keeps NoB w w4)
         have d0 : w4.cell? ⟨w.heap.size, 0, none⟩ = some (.int .u8 kd) := HB4.out.cell 0; have d1 : w4.cell? ⟨w.heap.size, 1, none⟩ = some (.string tx) := HB4.out.cell 1; have d2 : w4.cell? ⟨w.heap.size, 2, none⟩ = some (.int .i64 nm) := HB4.out.cell 2; have d3 : w4.cell? ⟨w.heap.size, 3, none⟩ = some (.int .i64 pl) := HB4.out.cell 3; have d4 : w4.cell? ⟨w.heap.size, 4, none⟩ = some (.slice ka kn kc) := HB4.out.cell 4
         clear hk)
      | fail
    go_ret
    exact ⟨rfl, HK2.out⟩
  | true =>
    have HM := hide (show manyN t ≤ 4611686018427387904 from by have := small_many hs; omega)
    have HM2 := hide (show manyN t ≤ 1000000 from by have := small_many hs; omega)
    have HS := hide hs
    clear hs
    obtain ⟨c, hc⟩ : ∃ c, checkN t = c := ⟨_, rfl⟩
    obtain ⟨er, pc⟩ := c
    have HC := hide hc
    clear hc
    by_cases h4 : er = 4
    · subst h4
      go_enter Tryd.func5, Tryd.ntmps5
      go_wp2_with
        first
        | (go_at_call 7
           refine (awake_any _ (HL.out.keep HK0.out)).mono ?_
           rintro e w1 ⟨rfl, hk⟩
           have HB1 := hide (HBX.out.keep hk id)
           have HK1 := hide (HK0.out.trans' hk (fun _ _ => id) (fun _ _ => id) : Keeps NoB w w1)
           have a0 : w1.cell? ⟨w.heap.size, 0, none⟩ = some (.int .u8 kd) := HB1.out.cell 0; have a1 : w1.cell? ⟨w.heap.size, 1, none⟩ = some (.string tx) := HB1.out.cell 1; have a2 : w1.cell? ⟨w.heap.size, 2, none⟩ = some (.int .i64 nm) := HB1.out.cell 2; have a3 : w1.cell? ⟨w.heap.size, 3, none⟩ = some (.int .i64 pl) := HB1.out.cell 3; have a4 : w1.cell? ⟨w.heap.size, 4, none⟩ = some (.slice ka kn kc) := HB1.out.cell 4
           clear hk)
        | (go_at_call 10
           refine (small_any t HO.out w1 B F kd tx nm pl ka kn kc (NodeIn.keep HK1.out (fun _ _ => id) _ _ HT.out)).mono ?_
           rintro e w2 ⟨rfl, hk⟩
           rw [HS.out]
           have HB2 := hide (HB1.out.keep hk id)
           have HK2 := hide (HK1.out.trans' hk (fun _ _ => id) (fun _ _ => id) : Keeps NoB w w2)
           have b0 : w2.cell? ⟨w.heap.size, 0, none⟩ = some (.int .u8 kd) := HB2.out.cell 0; have b1 : w2.cell? ⟨w.heap.size, 1, none⟩ = some (.string tx) := HB2.out.cell 1; have b2 : w2.cell? ⟨w.heap.size, 2, none⟩ = some (.int .i64 nm) := HB2.out.cell 2; have b3 : w2.cell? ⟨w.heap.size, 3, none⟩ = some (.int .i64 pl) := HB2.out.cell 3; have b4 : w2.cell? ⟨w.heap.size, 4, none⟩ = some (.slice ka kn kc) := HB2.out.cell 4
           clear hk)
        | (go_at_call 11
           refine (check_any t w2 B F kd tx nm pl ka kn kc (HL.out.keep HK2.out) HO.out HM.out (NodeIn.keep HK2.out (fun _ _ => id) _ _ HT.out)).mono ?_
           rintro e w3 ⟨rfl, hk⟩
           rw [HC.out]
           have HB3 := hide (HB2.out.keep hk id)
           have HK3 := hide (HK2.out.trans' hk (fun _ _ => id) (fun _ _ => id) : Keeps NoB w w3)
           have c0 : w3.cell? ⟨w.heap.size, 0, none⟩ = some (.int .u8 kd) := HB3.out.cell 0; have c1 : w3.cell? ⟨w.heap.size, 1, none⟩ = some (.string tx) := HB3.out.cell 1; have c2 : w3.cell? ⟨w.heap.size, 2, none⟩ = some (.int .i64 nm) := HB3.out.cell 2; have c3 : w3.cell? ⟨w.heap.size, 3, none⟩ = some (.int .i64 pl) := HB3.out.cell 3; have c4 : w3.cell? ⟨w.heap.size, 4, none⟩ = some (.slice ka kn kc) := HB3.out.cell 4
           clear hk)
        | (go_at_call 12
           refine (long_any t HO.out w3 B F kd tx nm pl ka kn kc (NodeIn.keep HK3.out (fun _ _ => id) _ _ HT.out)).mono ?_
           rintro e w4 ⟨rfl, hk⟩
           rw [HLT.out]
           have HB4 := hide (HB3.out.keep hk id)
           have HK4 := hide (HK3.out.trans' hk (fun _ _ => id) (fun _ _ => id) : Keeps NoB w w4)
           have d0 : w4.cell? ⟨w.heap.size, 0, none⟩ = some (.int .u8 kd) := HB4.out.cell 0; have d1 : w4.cell? ⟨w.heap.size, 1, none⟩ = some (.string tx) := HB4.out.cell 1; have d2 : w4.cell? ⟨w.heap.size, 2, none⟩ = some (.int .i64 nm) := HB4.out.cell 2; have d3 : w4.cell? ⟨w.heap.size, 3, none⟩ = some (.int .i64 pl) := HB4.out.cell 3; have d4 : w4.cell? ⟨w.heap.size, 4, none⟩ = some (.slice ka kn kc) := HB4.out.cell 4
           clear hk)
        | fail
      go_ret
      exact ⟨rfl, HK3.out⟩
    · have h4b : (er == 4) = false := by simpa using h4
      by_cases h1 : u.size < 1
      · have h1i : (u.size : Int) < 1 := by omega
        go_enter Tryd.func5, Tryd.ntmps5
        go_wp2_with
          first
          | (go_at_call 7
             refine (awake_any _ (HL.out.keep HK0.out)).mono ?_
             rintro e w1 ⟨rfl, hk⟩
             have HB1 := hide (HBX.out.keep hk id)
             have HK1 := hide (HK0.out.trans' hk (fun _ _ => id) (fun _ _ => id) : Keeps NoB w w1)
             have a0 : w1.cell? ⟨w.heap.size, 0, none⟩ = some (.int .u8 kd) := HB1.out.cell 0; have a1 : w1.cell? ⟨w.heap.size, 1, none⟩ = some (.string tx) := HB1.out.cell 1; have a2 : w1.cell? ⟨w.heap.size, 2, none⟩ = some (.int .i64 nm) := HB1.out.cell 2; have a3 : w1.cell? ⟨w.heap.size, 3, none⟩ = some (.int .i64 pl) := HB1.out.cell 3; have a4 : w1.cell? ⟨w.heap.size, 4, none⟩ = some (.slice ka kn kc) := HB1.out.cell 4
             clear hk)
          | (go_at_call 10
             refine (small_any t HO.out w1 B F kd tx nm pl ka kn kc (NodeIn.keep HK1.out (fun _ _ => id) _ _ HT.out)).mono ?_
             rintro e w2 ⟨rfl, hk⟩
             rw [HS.out]
             have HB2 := hide (HB1.out.keep hk id)
             have HK2 := hide (HK1.out.trans' hk (fun _ _ => id) (fun _ _ => id) : Keeps NoB w w2)
             have b0 : w2.cell? ⟨w.heap.size, 0, none⟩ = some (.int .u8 kd) := HB2.out.cell 0; have b1 : w2.cell? ⟨w.heap.size, 1, none⟩ = some (.string tx) := HB2.out.cell 1; have b2 : w2.cell? ⟨w.heap.size, 2, none⟩ = some (.int .i64 nm) := HB2.out.cell 2; have b3 : w2.cell? ⟨w.heap.size, 3, none⟩ = some (.int .i64 pl) := HB2.out.cell 3; have b4 : w2.cell? ⟨w.heap.size, 4, none⟩ = some (.slice ka kn kc) := HB2.out.cell 4
             clear hk)
          | (go_at_call 11
             refine (check_any t w2 B F kd tx nm pl ka kn kc (HL.out.keep HK2.out) HO.out HM.out (NodeIn.keep HK2.out (fun _ _ => id) _ _ HT.out)).mono ?_
             rintro e w3 ⟨rfl, hk⟩
             rw [HC.out]
             have HB3 := hide (HB2.out.keep hk id)
             have HK3 := hide (HK2.out.trans' hk (fun _ _ => id) (fun _ _ => id) : Keeps NoB w w3)
             have c0 : w3.cell? ⟨w.heap.size, 0, none⟩ = some (.int .u8 kd) := HB3.out.cell 0; have c1 : w3.cell? ⟨w.heap.size, 1, none⟩ = some (.string tx) := HB3.out.cell 1; have c2 : w3.cell? ⟨w.heap.size, 2, none⟩ = some (.int .i64 nm) := HB3.out.cell 2; have c3 : w3.cell? ⟨w.heap.size, 3, none⟩ = some (.int .i64 pl) := HB3.out.cell 3; have c4 : w3.cell? ⟨w.heap.size, 4, none⟩ = some (.slice ka kn kc) := HB3.out.cell 4
             clear hk)
          | (go_at_call 12
             refine (long_any t HO.out w3 B F kd tx nm pl ka kn kc (NodeIn.keep HK3.out (fun _ _ => id) _ _ HT.out)).mono ?_
             rintro e w4 ⟨rfl, hk⟩
             rw [HLT.out]
             have HB4 := hide (HB3.out.keep hk id)
             have HK4 := hide (HK3.out.trans' hk (fun _ _ => id) (fun _ _ => id) : Keeps NoB w w4)
             have d0 : w4.cell? ⟨w.heap.size, 0, none⟩ = some (.int .u8 kd) := HB4.out.cell 0; have d1 : w4.cell? ⟨w.heap.size, 1, none⟩ = some (.string tx) := HB4.out.cell 1; have d2 : w4.cell? ⟨w.heap.size, 2, none⟩ = some (.int .i64 nm) := HB4.out.cell 2; have d3 : w4.cell? ⟨w.heap.size, 3, none⟩ = some (.int .i64 pl) := HB4.out.cell 3; have d4 : w4.cell? ⟨w.heap.size, 4, none⟩ = some (.slice ka kn kc) := HB4.out.cell 4
             clear hk)
          | fail
        go_ret
        exact ⟨rfl, HK3.out⟩
      · have h1i : ¬ (u.size : Int) < 1 := by omega
        by_cases h9 : 9 < u.size
        · have h9i : (9 : Int) < (u.size : Int) := by omega
          go_enter Tryd.func5, Tryd.ntmps5
          go_wp2_with
            first
            | (go_at_call 7
               refine (awake_any _ (HL.out.keep HK0.out)).mono ?_
               rintro e w1 ⟨rfl, hk⟩
               have HB1 := hide (HBX.out.keep hk id)
               have HK1 := hide (HK0.out.trans' hk (fun _ _ => id) (fun _ _ => id) : Keeps NoB w w1)
               have a0 : w1.cell? ⟨w.heap.size, 0, none⟩ = some (.int .u8 kd) := HB1.out.cell 0; have a1 : w1.cell? ⟨w.heap.size, 1, none⟩ = some (.string tx) := HB1.out.cell 1; have a2 : w1.cell? ⟨w.heap.size, 2, none⟩ = some (.int .i64 nm) := HB1.out.cell 2; have a3 : w1.cell? ⟨w.heap.size, 3, none⟩ = some (.int .i64 pl) := HB1.out.cell 3; have a4 : w1.cell? ⟨w.heap.size, 4, none⟩ = some (.slice ka kn kc) := HB1.out.cell 4
               clear hk)
            | (go_at_call 10
               refine (small_any t HO.out w1 B F kd tx nm pl ka kn kc (NodeIn.keep HK1.out (fun _ _ => id) _ _ HT.out)).mono ?_
               rintro e w2 ⟨rfl, hk⟩
               rw [HS.out]
               have HB2 := hide (HB1.out.keep hk id)
               have HK2 := hide (HK1.out.trans' hk (fun _ _ => id) (fun _ _ => id) : Keeps NoB w w2)
               have b0 : w2.cell? ⟨w.heap.size, 0, none⟩ = some (.int .u8 kd) := HB2.out.cell 0; have b1 : w2.cell? ⟨w.heap.size, 1, none⟩ = some (.string tx) := HB2.out.cell 1; have b2 : w2.cell? ⟨w.heap.size, 2, none⟩ = some (.int .i64 nm) := HB2.out.cell 2; have b3 : w2.cell? ⟨w.heap.size, 3, none⟩ = some (.int .i64 pl) := HB2.out.cell 3; have b4 : w2.cell? ⟨w.heap.size, 4, none⟩ = some (.slice ka kn kc) := HB2.out.cell 4
               clear hk)
            | (go_at_call 11
               refine (check_any t w2 B F kd tx nm pl ka kn kc (HL.out.keep HK2.out) HO.out HM.out (NodeIn.keep HK2.out (fun _ _ => id) _ _ HT.out)).mono ?_
               rintro e w3 ⟨rfl, hk⟩
               rw [HC.out]
               have HB3 := hide (HB2.out.keep hk id)
               have HK3 := hide (HK2.out.trans' hk (fun _ _ => id) (fun _ _ => id) : Keeps NoB w w3)
               have c0 : w3.cell? ⟨w.heap.size, 0, none⟩ = some (.int .u8 kd) := HB3.out.cell 0; have c1 : w3.cell? ⟨w.heap.size, 1, none⟩ = some (.string tx) := HB3.out.cell 1; have c2 : w3.cell? ⟨w.heap.size, 2, none⟩ = some (.int .i64 nm) := HB3.out.cell 2; have c3 : w3.cell? ⟨w.heap.size, 3, none⟩ = some (.int .i64 pl) := HB3.out.cell 3; have c4 : w3.cell? ⟨w.heap.size, 4, none⟩ = some (.slice ka kn kc) := HB3.out.cell 4
               clear hk)
            | (go_at_call 12
               refine (long_any t HO.out w3 B F kd tx nm pl ka kn kc (NodeIn.keep HK3.out (fun _ _ => id) _ _ HT.out)).mono ?_
               rintro e w4 ⟨rfl, hk⟩
               rw [HLT.out]
               have HB4 := hide (HB3.out.keep hk id)
               have HK4 := hide (HK3.out.trans' hk (fun _ _ => id) (fun _ _ => id) : Keeps NoB w w4)
               have d0 : w4.cell? ⟨w.heap.size, 0, none⟩ = some (.int .u8 kd) := HB4.out.cell 0; have d1 : w4.cell? ⟨w.heap.size, 1, none⟩ = some (.string tx) := HB4.out.cell 1; have d2 : w4.cell? ⟨w.heap.size, 2, none⟩ = some (.int .i64 nm) := HB4.out.cell 2; have d3 : w4.cell? ⟨w.heap.size, 3, none⟩ = some (.int .i64 pl) := HB4.out.cell 3; have d4 : w4.cell? ⟨w.heap.size, 4, none⟩ = some (.slice ka kn kc) := HB4.out.cell 4
               clear hk)
            | fail
          go_ret
          exact ⟨rfl, HK3.out⟩
        · have h9i : ¬ (9 : Int) < (u.size : Int) := by omega
          by_cases h40 : 40 < L + u.size
          · have h40i : (40 : Int) < (L : Int) + (u.size : Int) := by omega
            go_enter Tryd.func5, Tryd.ntmps5
            go_wp2_with
              first
              | (go_at_call 7
                 refine (awake_any _ (HL.out.keep HK0.out)).mono ?_
                 rintro e w1 ⟨rfl, hk⟩
                 have HB1 := hide (HBX.out.keep hk id)
                 have HK1 := hide (HK0.out.trans' hk (fun _ _ => id) (fun _ _ => id) : Keeps NoB w w1)
                 have a0 : w1.cell? ⟨w.heap.size, 0, none⟩ = some (.int .u8 kd) := HB1.out.cell 0; have a1 : w1.cell? ⟨w.heap.size, 1, none⟩ = some (.string tx) := HB1.out.cell 1; have a2 : w1.cell? ⟨w.heap.size, 2, none⟩ = some (.int .i64 nm) := HB1.out.cell 2; have a3 : w1.cell? ⟨w.heap.size, 3, none⟩ = some (.int .i64 pl) := HB1.out.cell 3; have a4 : w1.cell? ⟨w.heap.size, 4, none⟩ = some (.slice ka kn kc) := HB1.out.cell 4
                 clear hk)
              | (go_at_call 10
                 refine (small_any t HO.out w1 B F kd tx nm pl ka kn kc (NodeIn.keep HK1.out (fun _ _ => id) _ _ HT.out)).mono ?_
                 rintro e w2 ⟨rfl, hk⟩
                 rw [HS.out]
                 have HB2 := hide (HB1.out.keep hk id)
                 have HK2 := hide (HK1.out.trans' hk (fun _ _ => id) (fun _ _ => id) : Keeps NoB w w2)
                 have b0 : w2.cell? ⟨w.heap.size, 0, none⟩ = some (.int .u8 kd) := HB2.out.cell 0; have b1 : w2.cell? ⟨w.heap.size, 1, none⟩ = some (.string tx) := HB2.out.cell 1; have b2 : w2.cell? ⟨w.heap.size, 2, none⟩ = some (.int .i64 nm) := HB2.out.cell 2; have b3 : w2.cell? ⟨w.heap.size, 3, none⟩ = some (.int .i64 pl) := HB2.out.cell 3; have b4 : w2.cell? ⟨w.heap.size, 4, none⟩ = some (.slice ka kn kc) := HB2.out.cell 4
                 clear hk)
              | (go_at_call 11
                 refine (check_any t w2 B F kd tx nm pl ka kn kc (HL.out.keep HK2.out) HO.out HM.out (NodeIn.keep HK2.out (fun _ _ => id) _ _ HT.out)).mono ?_
                 rintro e w3 ⟨rfl, hk⟩
                 rw [HC.out]
                 have HB3 := hide (HB2.out.keep hk id)
                 have HK3 := hide (HK2.out.trans' hk (fun _ _ => id) (fun _ _ => id) : Keeps NoB w w3)
                 have c0 : w3.cell? ⟨w.heap.size, 0, none⟩ = some (.int .u8 kd) := HB3.out.cell 0; have c1 : w3.cell? ⟨w.heap.size, 1, none⟩ = some (.string tx) := HB3.out.cell 1; have c2 : w3.cell? ⟨w.heap.size, 2, none⟩ = some (.int .i64 nm) := HB3.out.cell 2; have c3 : w3.cell? ⟨w.heap.size, 3, none⟩ = some (.int .i64 pl) := HB3.out.cell 3; have c4 : w3.cell? ⟨w.heap.size, 4, none⟩ = some (.slice ka kn kc) := HB3.out.cell 4
                 clear hk)
              | (go_at_call 12
                 refine (long_any t HO.out w3 B F kd tx nm pl ka kn kc (NodeIn.keep HK3.out (fun _ _ => id) _ _ HT.out)).mono ?_
                 rintro e w4 ⟨rfl, hk⟩
                 rw [HLT.out]
                 have HB4 := hide (HB3.out.keep hk id)
                 have HK4 := hide (HK3.out.trans' hk (fun _ _ => id) (fun _ _ => id) : Keeps NoB w w4)
                 have d0 : w4.cell? ⟨w.heap.size, 0, none⟩ = some (.int .u8 kd) := HB4.out.cell 0; have d1 : w4.cell? ⟨w.heap.size, 1, none⟩ = some (.string tx) := HB4.out.cell 1; have d2 : w4.cell? ⟨w.heap.size, 2, none⟩ = some (.int .i64 nm) := HB4.out.cell 2; have d3 : w4.cell? ⟨w.heap.size, 3, none⟩ = some (.int .i64 pl) := HB4.out.cell 3; have d4 : w4.cell? ⟨w.heap.size, 4, none⟩ = some (.slice ka kn kc) := HB4.out.cell 4
                 clear hk)
              | fail
            go_ret
            exact ⟨rfl, HK4.out⟩
          · have h40i : ¬ (40 : Int) < (L : Int) + (u.size : Int) := by omega
            go_enter Tryd.func5, Tryd.ntmps5
            go_wp2_with
              first
              | (go_at_call 7
                 refine (awake_any _ (HL.out.keep HK0.out)).mono ?_
                 rintro e w1 ⟨rfl, hk⟩
                 have HB1 := hide (HBX.out.keep hk id)
                 have HK1 := hide (HK0.out.trans' hk (fun _ _ => id) (fun _ _ => id) : Keeps NoB w w1)
                 have a0 : w1.cell? ⟨w.heap.size, 0, none⟩ = some (.int .u8 kd) := HB1.out.cell 0; have a1 : w1.cell? ⟨w.heap.size, 1, none⟩ = some (.string tx) := HB1.out.cell 1; have a2 : w1.cell? ⟨w.heap.size, 2, none⟩ = some (.int .i64 nm) := HB1.out.cell 2; have a3 : w1.cell? ⟨w.heap.size, 3, none⟩ = some (.int .i64 pl) := HB1.out.cell 3; have a4 : w1.cell? ⟨w.heap.size, 4, none⟩ = some (.slice ka kn kc) := HB1.out.cell 4
                 clear hk)
              | (go_at_call 10
                 refine (small_any t HO.out w1 B F kd tx nm pl ka kn kc (NodeIn.keep HK1.out (fun _ _ => id) _ _ HT.out)).mono ?_
                 rintro e w2 ⟨rfl, hk⟩
                 rw [HS.out]
                 have HB2 := hide (HB1.out.keep hk id)
                 have HK2 := hide (HK1.out.trans' hk (fun _ _ => id) (fun _ _ => id) : Keeps NoB w w2)
                 have b0 : w2.cell? ⟨w.heap.size, 0, none⟩ = some (.int .u8 kd) := HB2.out.cell 0; have b1 : w2.cell? ⟨w.heap.size, 1, none⟩ = some (.string tx) := HB2.out.cell 1; have b2 : w2.cell? ⟨w.heap.size, 2, none⟩ = some (.int .i64 nm) := HB2.out.cell 2; have b3 : w2.cell? ⟨w.heap.size, 3, none⟩ = some (.int .i64 pl) := HB2.out.cell 3; have b4 : w2.cell? ⟨w.heap.size, 4, none⟩ = some (.slice ka kn kc) := HB2.out.cell 4
                 clear hk)
              | (go_at_call 11
                 refine (check_any t w2 B F kd tx nm pl ka kn kc (HL.out.keep HK2.out) HO.out HM.out (NodeIn.keep HK2.out (fun _ _ => id) _ _ HT.out)).mono ?_
                 rintro e w3 ⟨rfl, hk⟩
                 rw [HC.out]
                 have HB3 := hide (HB2.out.keep hk id)
                 have HK3 := hide (HK2.out.trans' hk (fun _ _ => id) (fun _ _ => id) : Keeps NoB w w3)
                 have c0 : w3.cell? ⟨w.heap.size, 0, none⟩ = some (.int .u8 kd) := HB3.out.cell 0; have c1 : w3.cell? ⟨w.heap.size, 1, none⟩ = some (.string tx) := HB3.out.cell 1; have c2 : w3.cell? ⟨w.heap.size, 2, none⟩ = some (.int .i64 nm) := HB3.out.cell 2; have c3 : w3.cell? ⟨w.heap.size, 3, none⟩ = some (.int .i64 pl) := HB3.out.cell 3; have c4 : w3.cell? ⟨w.heap.size, 4, none⟩ = some (.slice ka kn kc) := HB3.out.cell 4
                 clear hk)
              | (go_at_call 12
                 refine (long_any t HO.out w3 B F kd tx nm pl ka kn kc (NodeIn.keep HK3.out (fun _ _ => id) _ _ HT.out)).mono ?_
                 rintro e w4 ⟨rfl, hk⟩
                 rw [HLT.out]
                 have HB4 := hide (HB3.out.keep hk id)
                 have HK4 := hide (HK3.out.trans' hk (fun _ _ => id) (fun _ _ => id) : Keeps NoB w w4)
                 have d0 : w4.cell? ⟨w.heap.size, 0, none⟩ = some (.int .u8 kd) := HB4.out.cell 0; have d1 : w4.cell? ⟨w.heap.size, 1, none⟩ = some (.string tx) := HB4.out.cell 1; have d2 : w4.cell? ⟨w.heap.size, 2, none⟩ = some (.int .i64 nm) := HB4.out.cell 2; have d3 : w4.cell? ⟨w.heap.size, 3, none⟩ = some (.int .i64 pl) := HB4.out.cell 3; have d4 : w4.cell? ⟨w.heap.size, 4, none⟩ = some (.slice ka kn kc) := HB4.out.cell 4
                 clear hk)
              | fail
            have hn9 : u.size ≤ 9 := by omega
            go_loopg [5, 6] u.size (fun g s5 s6 wx => ∃ k : Nat, k ≤ u.size ∧ g = u.size - k ∧ s5 = .int .i64 k ∧ (u.toList.take k).all lowly = true ∧ Keeps NoB w4 wx)
            case atStart => exact ⟨0, Nat.zero_le _, rfl, rfl, by simp, Keeps.refl _ _⟩
            case round =>
              obtain ⟨k, hk, rfl, rfl, hlow, hkw⟩ := hrel
              have HKW := hide hkw; have HLOW := hide hlow
              clear hkw hlow
              by_cases hlt : k < u.size
              · have hk1 : (k : Int) < (u.size : Int) := by omega
                have hk0 : (0 : Int) ≤ (k : Int) := by omega
                have HKR := hide (HK4.out.trans' HKW.out (fun _ _ => id) (fun _ _ => id) : Keeps NoB w wr)
                have hb : k < u.size := hlt
                by_cases hlo : lowly (u[k]'hb) = true
                · have HLO := hide (low_take HLOW.out hb hlo)
                  rcases lowly_nat hlo with ⟨q1, q2⟩ | ⟨q1, q2⟩
                  · have q1' : ¬ ((u[k]'hb).toNat : Int) < 97 := by omega
                    have q2' : ¬ (122 : Int) < ((u[k]'hb).toNat : Int) := by omega
                    go_wp2_with fail
                    go_roundg (u.size - (k + 1))
                    case measure => omega
                    case rel => exact ⟨k + 1, by omega, rfl, by go_num, HLO.out, HKW.out⟩
                  · have q1' : ((u[k]'hb).toNat : Int) < 97 := by omega
                    have q2' : ¬ ((u[k]'hb).toNat : Int) < 48 := by omega
                    have q3' : ¬ (57 : Int) < ((u[k]'hb).toNat : Int) := by omega
                    go_wp2_with fail
                    go_roundg (u.size - (k + 1))
                    case measure => omega
                    case rel => exact ⟨k + 1, by omega, rfl, by go_num, HLO.out, HKW.out⟩
                · rcases not_lowly_nat hlo with q1 | ⟨q1, q2⟩ | q1
                  · have q1' : ((u[k]'hb).toNat : Int) < 48 := by omega
                    have q2' : ((u[k]'hb).toNat : Int) < 97 := by omega
                    go_wp2_with fail
                    go_ret
                    exact ⟨rfl, HKR.out⟩
                  · have q1' : (57 : Int) < ((u[k]'hb).toNat : Int) := by omega
                    have q2' : ((u[k]'hb).toNat : Int) < 97 := by omega
                    have q3' : ¬ ((u[k]'hb).toNat : Int) < 48 := by omega
                    go_wp2_with fail
                    go_ret
                    exact ⟨rfl, HKR.out⟩
                  · have q1' : (122 : Int) < ((u[k]'hb).toNat : Int) := by omega
                    have q2' : ¬ ((u[k]'hb).toNat : Int) < 97 := by omega
                    have q3' : ¬ ((u[k]'hb).toNat : Int) < 48 := by omega
                    have q4' : (57 : Int) < ((u[k]'hb).toNat : Int) := by omega
                    go_wp2_with fail
                    go_ret
                    exact ⟨rfl, HKR.out⟩
              · obtain hku : k = u.size := by omega
                subst hku
                have hkz : ¬ (u.size : Int) < (u.size : Int) := by omega
                have HLW := hide (show u.toList.all lowly = true from by have h := HLOW.out; rwa [List.take_of_length_le (by rw [Lib.toList_data]; simp only [Array.length_toList]; exact Nat.le_refl _)] at h)
                have HKR := hide (HK4.out.trans' HKW.out (fun _ _ => id) (fun _ _ => id) : Keeps NoB w wr)
                have HKD := hide HKR.out.drew
                have HLS := hide (show longN t + u.size ≤ 40 from by have := HLT.out; omega)
                have HCR := hide (show checkN (renN u t) = (er, pc) from by have h := check_err (t := t) (by rw [HC.out]; exact h4); rw [check_ren (u := u) (toList_ne h1) HLW.out t HLS.out h.1 h.2 HO.out]; exact HC.out)
                have HBR := hide (HB4.out.keep HKW.out id)
                go_wp2_with fail
                refine order_begin (fun W => Keeps NoB wr W) (fun _ => true) (by kernel_rfl) 8 rfl ?_
                have HS := (Keeps.refl NoB wr).drew
                refine order_held (i := 0) rfl (by kernel_rfl) (fun _ _ _ h => h) (.inl ⟨rfl, fun W hW => by
                  have q0 : W.cell? ⟨w.heap.size, 0, none⟩ = some (.int .u8 kd) := hW.cell id (HBR.out.cell 0)
                  have q1 : W.cell? ⟨w.heap.size, 1, none⟩ = some (.string tx) := hW.cell id (HBR.out.cell 1)
                  have q2 : W.cell? ⟨w.heap.size, 2, none⟩ = some (.int .i64 nm) := hW.cell id (HBR.out.cell 2)
                  have q3 : W.cell? ⟨w.heap.size, 3, none⟩ = some (.int .i64 pl) := hW.cell id (HBR.out.cell 3)
                  have q4 : W.cell? ⟨w.heap.size, 4, none⟩ = some (.slice ka kn kc) := hW.cell id (HBR.out.cell 4)
                  go_simp; rfl⟩) HS ?_
                try simp only [Act.put, List.setIfInBounds_toArray, List.set_cons_succ, List.set_cons_zero]
                refine order_pure (i := 1) rfl (by kernel_rfl) (fun _ _ _ h => h) (.inl ⟨rfl, fun _ => by go_simp; rfl⟩) ?_
                try simp only [Act.put, List.setIfInBounds_toArray, List.set_cons_succ, List.set_cons_zero]
                refine order_held (i := 4) rfl (by kernel_rfl) (fun _ _ _ h => h) (.inl ⟨rfl, fun W hW => by
                  have q0 : W.cell? ⟨w.heap.size, 0, none⟩ = some (.int .u8 kd) := hW.cell id (HBR.out.cell 0)
                  have q1 : W.cell? ⟨w.heap.size, 1, none⟩ = some (.string tx) := hW.cell id (HBR.out.cell 1)
                  have q2 : W.cell? ⟨w.heap.size, 2, none⟩ = some (.int .i64 nm) := hW.cell id (HBR.out.cell 2)
                  have q3 : W.cell? ⟨w.heap.size, 3, none⟩ = some (.int .i64 pl) := hW.cell id (HBR.out.cell 3)
                  have q4 : W.cell? ⟨w.heap.size, 4, none⟩ = some (.slice ka kn kc) := hW.cell id (HBR.out.cell 4)
                  go_simp; rfl⟩) HS ?_
                try simp only [Act.put, List.setIfInBounds_toArray, List.set_cons_succ, List.set_cons_zero]
                refine order_one (i := 2) rfl (by kernel_rfl) (fun K hK => ?_)
                go_simp
                refine (ren_any u t HO.out HM2.out HLS.out wr.drew B F kd tx nm pl ka kn kc (NodeIn.keep HKD.out (fun _ _ => id) _ _ HT.out)).mono ?_
                rintro e w5 ⟨tx5, A5, n5, c5, rfl, hn5, hk5⟩
                have HN5 := hide hn5; have HK5 := hide (HKD.out.trans' hk5 (fun _ _ => id) (fun _ _ => id) : Keeps NoB w w5)
                refine hK _ _ (fun _ h => (h.trans' hk5 (fun _ _ => id) (fun _ _ => id) : Keeps NoB wr w5)) ?_
                clear hK hn5 hk5
                try simp only [Act.put, List.setIfInBounds_toArray, List.set_cons_succ, List.set_cons_zero]
                refine order_one (i := 3) rfl (by kernel_rfl) (fun K hK => ?_)
                go_simp
                refine (check_any (renN u t) w5 _ false _ tx5 _ _ A5 n5 c5 (HL.out.keep HK5.out) (okN_ren t HO.out HLS.out) (by rw [many_ren]; exact HM.out) HN5.out).mono ?_
                rintro e w6 ⟨rfl, hk6⟩
                rw [HCR.out]
                have HK6 := hide (HK5.out.trans' hk6 (fun _ _ => id) (fun _ _ => id) : Keeps NoB w w6)
                refine hK _ _ (fun _ h => (h.trans' hk6 (fun _ _ => id) (fun _ _ => id) : Keeps NoB wr w6)) ?_
                clear hK hk6
                try simp only [Act.put, List.setIfInBounds_toArray, List.set_cons_succ, List.set_cons_zero]
                refine order_one (i := 5) rfl (by kernel_rfl) (fun K hK => ?_)
                go_simp
                refine (check_any t w6 B F kd tx nm pl ka kn kc (HL.out.keep HK6.out) HO.out HM.out (NodeIn.keep HK6.out (fun _ _ => id) _ _ HT.out)).mono ?_
                rintro e w7 ⟨rfl, hk7⟩
                rw [HC.out]
                have HK7 := hide (HK6.out.trans' hk7 (fun _ _ => id) (fun _ _ => id) : Keeps NoB w w7)
                refine hK _ _ (fun _ h => (h.trans' hk7 (fun _ _ => id) (fun _ _ => id) : Keeps NoB wr w7)) ?_
                clear hK hk7
                try simp only [Act.put, List.setIfInBounds_toArray, List.set_cons_succ, List.set_cons_zero]
                refine order_pure (i := 6) rfl (by kernel_rfl) (fun _ _ _ h => h) (.inl ⟨rfl, fun _ => by go_simp; rfl⟩) ?_
                try simp only [Act.put, List.setIfInBounds_toArray, List.set_cons_succ, List.set_cons_zero]
                refine order_pure (i := 7) rfl (by kernel_rfl) (fun _ _ _ h => h) (.inl ⟨rfl, fun _ => by go_simp; rfl⟩) ?_
                try simp only [Act.put, List.setIfInBounds_toArray, List.set_cons_succ, List.set_cons_zero]
                refine order_done (by kernel_rfl) ?_
                go_wp2_with fail
                go_ret
                exact ⟨rfl, HK7.out⟩
end Go.Proofs.YtincajfanhanjaaDoor
