/- node.single, guarded, caught. -/
import Derived.Test.YtincajfanhanjaaDoorNdClause
namespace Go.Proofs.YtincajfanhanjaaDoor
open Go.RowKit

theorem okM_single (k : Int) (tx : ByteArray) (num pl : Int) (kids : List Nd) : okM 3 (.mk k tx num pl kids) = (okM 2 (.mk k tx num pl kids) && decide ((kids.getD 0 (.mk k tx num pl kids)).kids.length = 1)) := by
  rw [okM_clause 2 rfl]; unfold okM
  rw [if_neg (by decide), if_neg (by decide), if_neg (by decide), if_neg (by decide), if_neg (by decide), if_neg (by decide), if_neg (by decide), if_neg (by decide), if_pos rfl, Bool.and_true]
theorem okM_guarded (k : Int) (tx : ByteArray) (num pl : Int) (kids : List Nd) : okM 4 (.mk k tx num pl kids) = (okM 2 (.mk k tx num pl kids) && (decide ((kids.getD 0 (.mk k tx num pl kids)).kids.length = 0) && decide (0 < (kids.getD 1 (.mk k tx num pl kids)).kids.length))) := by
  rw [okM_clause 2 rfl]; unfold okM
  rw [if_neg (by decide), if_neg (by decide), if_neg (by decide), if_neg (by decide), if_neg (by decide), if_neg (by decide), if_neg (by decide), if_pos rfl]
theorem okM_caught (k : Int) (tx : ByteArray) (num pl : Int) (kids : List Nd) (p : Nd) (hp : (kids.getD 0 (.mk k tx num pl kids)).kids.getD 0 (.mk k tx num pl kids) = p) : okM 5 (.mk k tx num pl kids) = (okM 3 (.mk k tx num pl kids) && (decide (p.kind = 5) && decide (p.kids.length = 2) && (decide ((p.kids.getD 0 (.mk k tx num pl kids)).kind = 2) || decide ((p.kids.getD 0 (.mk k tx num pl kids)).kind = 3)))) := by
  rw [okM_single, okM_clause 2 rfl]; unfold okM
  rw [if_neg (by decide), if_neg (by decide), if_neg (by decide), if_neg (by decide), if_neg (by decide), if_neg (by decide), if_neg (by decide), if_neg (by decide), if_neg (by decide), hp]
  simp only [Bool.and_assoc]
theorem clause_kids {k : Int} {tx : ByteArray} {num pl : Int} {kids : List Nd} (h : okM 2 (.mk k tx num pl kids) = true) : ∃ p g d, kids = [p, g, d] := by
  rw [okM_clause 2 rfl] at h
  simp only [Bool.and_eq_true, decide_eq_true_eq] at h
  match kids, h.1.2 with
  | [p, g, d], _ => exact ⟨p, g, d, rfl⟩

set_option maxRecDepth 100000 in
theorem single_of (t : Nd) (H : Says 42 (okM 2) t) : Says 57 (okM 3) t := by
  intro w B F kd tx nm pl ka kn kc hL ho ht
  have hk : Keeps NoB w (w.alloc (.cells #[.int .u8 kd, .string tx, .int .i64 nm, .int .i64 pl, .slice ka kn kc] 29)) := (Keeps.refl NoB w).alloc _
  have HI := hide (H _ B F kd tx nm pl ka kn kc (hL.keep hk) ho (NodeIn.keep hk (fun _ _ => id) _ _ ht))
  obtain ⟨kids, css, rfl, hroom, hr, hc, hkl⟩ := ht.kidsIn
  have HK := hide hk
  have HBX := hide (Blk.new w 29 #[.int .u8 kd, .string tx, .int .i64 nm, .int .i64 pl, .slice ka kn kc])
  have hs := okM_single kd tx nm pl kids
  cases hv : okM 2 (.mk kd tx nm pl kids) with
  | false =>
    rw [hv] at hs
    have HV := hide hv; have HS := hide hs
    clear hL ho ht H hk hr hc hs hv hroom hkl
    go_enter Tryd.func57, Tryd.ntmps57
    go_wp2_with
      first
      | (go_at_call 42
         refine HI.out.mono ?_
         rintro e w2 ⟨rfl, hk⟩
         rw [HV.out]
         have HK2 := hide (HK.out.trans' hk (fun _ _ => id) (fun _ _ => id) : Keeps NoB w w2)
         clear hk)
      | fail
    go_ret
    exact ⟨by rw [HS.out]; rfl, HK2.out⟩
  | true =>
    obtain ⟨p, g, d, rfl⟩ := clause_kids hv
    obtain rfl : kn = 3 := by simpa using hkl.symm
    obtain ⟨b, o, kd1, tx1, nm1, pl1, ka1, kn1, kc1, t1, hA, _, _, e1, _, hu, _, _, _, _, f4⟩ := node_at hr hc 0 (by omega)
    obtain rfl : p = t1 := by simpa using e1
    subst hA
    obtain ⟨ks, cs, ep, _, _, _, hl1⟩ := hu.kidsIn
    rw [hv, Bool.true_and, show ([p, g, d] : List Nd).getD 0 (.mk kd tx nm pl [p, g, d]) = p from rfl, show p.kids.length = kn1 by rw [ep]; exact hl1] at hs
    have HV := hide hv; have HS := hide hs
    have HF := hide f4
    clear hL ho ht H hk hr hc hs hv hroom hkl hu e1 ep hl1 f4
    cases hq : decide (kn1 = 1) with
    | true =>
      have hb : ((kn1 : Int) == 1) = true := by simp at hq ⊢; omega
      rw [hq] at HS
      clear hq
      go_enter Tryd.func57, Tryd.ntmps57
      go_wp2_with
        first
        | (go_at_call 42
           refine HI.out.mono ?_
           rintro e w2 ⟨rfl, hk⟩
           rw [HV.out]
           have HK2 := hide (HK.out.trans' hk (fun _ _ => id) (fun _ _ => id) : Keeps NoB w w2)
           have q4 : w2.cell? ⟨w.heap.size, 4, none⟩ = some (.slice (some ⟨b, o, none⟩) 3 kc) := hk.cell id (HBX.out.cell 4)
           have f4 : w2.cell? ⟨b, o + 4, none⟩ = some (.slice ka1 kn1 kc1) := by have h := HK2.out.cell id HF.out; simpa using h
           clear hk)
        | fail
      go_ret
      exact ⟨by rw [HS.out]; rfl, HK2.out⟩
    | false =>
      have hb : ((kn1 : Int) == 1) = false := by simp at hq ⊢; omega
      rw [hq] at HS
      clear hq
      go_enter Tryd.func57, Tryd.ntmps57
      go_wp2_with
        first
        | (go_at_call 42
           refine HI.out.mono ?_
           rintro e w2 ⟨rfl, hk⟩
           rw [HV.out]
           have HK2 := hide (HK.out.trans' hk (fun _ _ => id) (fun _ _ => id) : Keeps NoB w w2)
           have q4 : w2.cell? ⟨w.heap.size, 4, none⟩ = some (.slice (some ⟨b, o, none⟩) 3 kc) := hk.cell id (HBX.out.cell 4)
           have f4 : w2.cell? ⟨b, o + 4, none⟩ = some (.slice ka1 kn1 kc1) := by have h := HK2.out.cell id HF.out; simpa using h
           clear hk)
        | fail
      go_ret
      exact ⟨by rw [HS.out]; rfl, HK2.out⟩

set_option maxRecDepth 100000 in
theorem guarded_of (t : Nd) (H : Says 42 (okM 2) t) : Says 58 (okM 4) t := by
  intro w B F kd tx nm pl ka kn kc hL ho ht
  have hk : Keeps NoB w (w.alloc (.cells #[.int .u8 kd, .string tx, .int .i64 nm, .int .i64 pl, .slice ka kn kc] 29)) := (Keeps.refl NoB w).alloc _
  have HI := hide (H _ B F kd tx nm pl ka kn kc (hL.keep hk) ho (NodeIn.keep hk (fun _ _ => id) _ _ ht))
  obtain ⟨kids, css, rfl, hroom, hr, hc, hkl⟩ := ht.kidsIn
  have HK := hide hk
  have HBX := hide (Blk.new w 29 #[.int .u8 kd, .string tx, .int .i64 nm, .int .i64 pl, .slice ka kn kc])
  have hs := okM_guarded kd tx nm pl kids
  cases hv : okM 2 (.mk kd tx nm pl kids) with
  | false =>
    rw [hv] at hs
    have HV := hide hv; have HS := hide hs
    clear hL ho ht H hk hr hc hs hv hroom hkl
    go_enter Tryd.func58, Tryd.ntmps58
    go_wp2_with
      first
      | (go_at_call 42
         refine HI.out.mono ?_
         rintro e w2 ⟨rfl, hk⟩
         rw [HV.out]
         have HK2 := hide (HK.out.trans' hk (fun _ _ => id) (fun _ _ => id) : Keeps NoB w w2)
         clear hk)
      | fail
    go_ret
    exact ⟨by rw [HS.out]; rfl, HK2.out⟩
  | true =>
    obtain ⟨p, g, d, rfl⟩ := clause_kids hv
    obtain rfl : kn = 3 := by simpa using hkl.symm
    obtain ⟨b, o, kd1, tx1, nm1, pl1, ka1, kn1, kc1, t1, hA, _, _, e1, _, hu, _, _, _, _, f4⟩ := node_at hr hc 0 (by omega)
    obtain ⟨b', o', kd2, tx2, nm2, pl2, ka2, kn2, kc2, t2, hA', _, _, e2, _, hu2, _, _, _, _, g4⟩ := node_at hr hc 1 (by omega)
    obtain rfl : p = t1 := by simpa using e1
    obtain rfl : g = t2 := by simpa using e2
    subst hA
    injection hA' with hA'; injection hA' with hA' hA''; subst hA' hA''
    obtain ⟨ks, cs, ep, _, _, _, hl1⟩ := hu.kidsIn
    obtain ⟨ks2, cs2, eg, _, _, _, hl2⟩ := hu2.kidsIn
    rw [hv, Bool.true_and, show ([p, g, d] : List Nd).getD 0 (.mk kd tx nm pl [p, g, d]) = p from rfl, show ([p, g, d] : List Nd).getD 1 (.mk kd tx nm pl [p, g, d]) = g from rfl, show p.kids.length = kn1 by rw [ep]; exact hl1, show g.kids.length = kn2 by rw [eg]; exact hl2] at hs
    have HV := hide hv; have HS := hide hs
    have HF := hide f4; have HG := hide g4
    clear hL ho ht H hk hr hc hs hv hroom hkl hu e1 ep hl1 f4 hu2 e2 eg hl2 g4
    cases hq : decide (kn1 = 0) with
    | false =>
      have hb : ((kn1 : Int) == 0) = false := by simp at hq ⊢; omega
      rw [hq] at HS
      clear hq
      go_enter Tryd.func58, Tryd.ntmps58
      go_wp2_with
        first
        | (go_at_call 42
           refine HI.out.mono ?_
           rintro e w2 ⟨rfl, hk⟩
           rw [HV.out]
           have HK2 := hide (HK.out.trans' hk (fun _ _ => id) (fun _ _ => id) : Keeps NoB w w2)
           have q4 : w2.cell? ⟨w.heap.size, 4, none⟩ = some (.slice (some ⟨b, o, none⟩) 3 kc) := hk.cell id (HBX.out.cell 4)
           have f4 : w2.cell? ⟨b, o + 4, none⟩ = some (.slice ka1 kn1 kc1) := by have h := HK2.out.cell id HF.out; simpa using h
           have g4 : w2.cell? ⟨b, o + 9, none⟩ = some (.slice ka2 kn2 kc2) := by have h := HK2.out.cell id HG.out; simpa using h
           clear hk)
        | fail
      go_ret
      exact ⟨by rw [HS.out]; rfl, HK2.out⟩
    | true =>
      have hb : ((kn1 : Int) == 0) = true := by simp at hq ⊢; omega
      rw [hq] at HS
      clear hq
      cases hq : decide (0 < kn2) with
      | false =>
        rw [hq] at HS
        go_enter Tryd.func58, Tryd.ntmps58
        go_wp2_with
          first
          | (go_at_call 42
             refine HI.out.mono ?_
             rintro e w2 ⟨rfl, hk⟩
             rw [HV.out]
             have HK2 := hide (HK.out.trans' hk (fun _ _ => id) (fun _ _ => id) : Keeps NoB w w2)
             have q4 : w2.cell? ⟨w.heap.size, 4, none⟩ = some (.slice (some ⟨b, o, none⟩) 3 kc) := hk.cell id (HBX.out.cell 4)
             have f4 : w2.cell? ⟨b, o + 4, none⟩ = some (.slice ka1 kn1 kc1) := by have h := HK2.out.cell id HF.out; simpa using h
             have g4 : w2.cell? ⟨b, o + 9, none⟩ = some (.slice ka2 kn2 kc2) := by have h := HK2.out.cell id HG.out; simpa using h
             clear hk)
          | fail
        go_ret
        exact ⟨by rw [HS.out]; rfl, HK2.out⟩
      | true =>
        rw [hq] at HS
        go_enter Tryd.func58, Tryd.ntmps58
        go_wp2_with
          first
          | (go_at_call 42
             refine HI.out.mono ?_
             rintro e w2 ⟨rfl, hk⟩
             rw [HV.out]
             have HK2 := hide (HK.out.trans' hk (fun _ _ => id) (fun _ _ => id) : Keeps NoB w w2)
             have q4 : w2.cell? ⟨w.heap.size, 4, none⟩ = some (.slice (some ⟨b, o, none⟩) 3 kc) := hk.cell id (HBX.out.cell 4)
             have f4 : w2.cell? ⟨b, o + 4, none⟩ = some (.slice ka1 kn1 kc1) := by have h := HK2.out.cell id HF.out; simpa using h
             have g4 : w2.cell? ⟨b, o + 9, none⟩ = some (.slice ka2 kn2 kc2) := by have h := HK2.out.cell id HG.out; simpa using h
             clear hk)
          | fail
        go_ret
        exact ⟨by rw [HS.out]; rfl, HK2.out⟩
end Go.Proofs.YtincajfanhanjaaDoor
