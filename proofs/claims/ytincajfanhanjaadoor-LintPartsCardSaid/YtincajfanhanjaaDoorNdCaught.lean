/- node.caught, after, qualifies; all of it. -/
import Derived.Test.YtincajfanhanjaaDoorNdSingle
namespace Go.Proofs.YtincajfanhanjaaDoor
open Go.RowKit

theorem single_kids {k : Int} {tx : ByteArray} {num pl : Int} {kids : List Nd} (h : okM 3 (.mk k tx num pl kids) = true) : ∃ p g d q, kids = [p, g, d] ∧ p.kids = [q] := by
  have h0 := h
  rw [okM_single, Bool.and_eq_true, decide_eq_true_eq] at h
  obtain ⟨p, g, d, rfl⟩ := clause_kids h.1
  have h1 : p.kids.length = 1 := h.2
  match hp : p.kids, h1 with
  | [q], _ => exact ⟨p, g, d, q, rfl, hp⟩
set_option maxRecDepth 100000 in
set_option maxHeartbeats 1000000 in
theorem caught_of (t : Nd) (H : Says 57 (okM 3) t) : Says 60 (okM 5) t := by
  intro w B F kd tx nm pl ka kn kc hL ho ht
  have hk : Keeps NoB w (w.alloc (.cells #[.int .u8 kd, .string tx, .int .i64 nm, .int .i64 pl, .slice ka kn kc] 29)) := (Keeps.refl NoB w).alloc _
  have HI := hide (H _ B F kd tx nm pl ka kn kc (hL.keep hk) ho (NodeIn.keep hk (fun _ _ => id) _ _ ht))
  obtain ⟨kids, css, rfl, hroom, hr, hc, hkl⟩ := ht.kidsIn
  have HK := hide hk
  have HBX := hide (Blk.new w 29 #[.int .u8 kd, .string tx, .int .i64 nm, .int .i64 pl, .slice ka kn kc])
  have hs := okM_caught kd tx nm pl kids _ rfl
  cases hv : okM 3 (.mk kd tx nm pl kids) with
  | false =>
    rw [hv] at hs
    have HV := hide hv; have HS := hide hs
    clear hL ho ht H hk hr hc hs hv hroom hkl
    go_enter Tryd.func60, Tryd.ntmps60
    go_wp2_with
      first
      | (go_at_call 57
         refine HI.out.mono ?_
         rintro e w2 ⟨rfl, hk⟩
         rw [HV.out]
         have HK2 := hide (HK.out.trans' hk (fun _ _ => id) (fun _ _ => id) : Keeps NoB w w2)
         clear hk)
      | fail
    go_ret
    exact ⟨by rw [HS.out]; rfl, HK2.out⟩
  | true =>
    obtain ⟨p, g, d, q, rfl, hpq⟩ := single_kids hv
    obtain rfl : kn = 3 := by simpa using hkl.symm
    obtain ⟨b, o, kd1, tx1, nm1, pl1, ka1, kn1, kc1, t1, hA, _, _, e1, _, hu, _, _, _, _, f4⟩ := node_at hr hc 0 (by omega)
    obtain rfl : p = t1 := by simpa using e1
    subst hA
    obtain ⟨ks, cs, ep, _, hr1, hc1, hl1⟩ := hu.kidsIn
    have hks : ks = [q] := by rw [ep] at hpq; exact hpq
    subst hks
    obtain rfl : kn1 = 1 := by simpa using hl1.symm
    obtain ⟨b2, o2, kd2, tx2, nm2, pl2, ka2, kn2, kc2, t2, hA2, _, _, e2, _, hu2, g0, g1, g2, g3, g4⟩ := node_at hr1 hc1 0 (by omega)
    obtain rfl : q = t2 := by simpa using e2
    subst hA2
    obtain ⟨ks2, cs2, eq2, _, hr2, hc2, hl2⟩ := hu2.kidsIn
    rw [hv, Bool.true_and, show (([p, g, d] : List Nd).getD 0 (.mk kd tx nm pl [p, g, d])).kids.getD 0 (.mk kd tx nm pl [p, g, d]) = q by rw [show ([p, g, d] : List Nd).getD 0 (.mk kd tx nm pl [p, g, d]) = p from rfl, hpq]; rfl, show q.kind = kd2 by rw [eq2]; rfl, show q.kids = ks2 by rw [eq2]; rfl, hl2] at hs
    have HV := hide hv
    have HF := hide f4; have HG := hide (And.intro g0 (And.intro g1 (And.intro g2 (And.intro g3 g4))))
    by_cases h5 : kd2 = 5
    · have b5 : (kd2 == 5) = true := by simpa using h5
      by_cases hn : kn2 = 2
      · subst hn
        obtain ⟨b3, o3, kd3, tx3, nm3, pl3, ka3, kn3, kc3, t3, hA3, _, hb3, e3, _, hu3, r0, _, _, _, _⟩ := node_at hr2 hc2 0 (by omega)
        subst hA3
        have hk3 : (ks2.getD 0 (.mk kd tx nm pl [p, g, d])).kind = kd3 := by
          obtain ⟨_, _, e4, _⟩ := hu3.kidsIn
          rw [List.getD_eq_getElem?_getD, e3, e4]; rfl
        rw [decide_eq_true h5, decide_eq_true rfl, hk3] at hs
        have HR := hide r0
        clear hL ho ht H hk hr hc hv hroom hkl hu e1 ep hl1 f4 hr1 hc1 hu2 e2 eq2 hr2 hc2 hl2 g0 g1 g2 g3 g4 hu3 e3 hk3 r0 hpq h5
        by_cases h2 : kd3 = 2
        · rw [decide_eq_true h2] at hs
          have HS := hide hs
          have b2' : (kd3 == 2) = true := by simpa using h2
          clear hs h2
          go_enter Tryd.func60, Tryd.ntmps60
          go_wp2_with
            first
            | (go_at_call 57
               refine HI.out.mono ?_
               rintro e w2 ⟨rfl, hk⟩
               rw [HV.out]
               have hkw : Keeps NoB w w2 := HK.out.trans' hk (fun _ _ => id) (fun _ _ => id)
               have HK2 := hide (hkw.alloc (.cells #[.int .u8 kd2, .string tx2, .int .i64 nm2, .int .i64 pl2, .slice (some ⟨b3, o3, none⟩) 2 kc2] 29))
               have q4 : w2.cell? ⟨w.heap.size, 4, none⟩ = some (.slice (some ⟨b, o, none⟩) 3 kc) := hk.cell id (HBX.out.cell 4)
               have f4 : w2.cell? ⟨b, o + 4, none⟩ = some (.slice (some ⟨b2, o2, none⟩) 1 kc1) := by have h := hkw.cell id HF.out; simpa using h
               have g0 : w2.cell? ⟨b2, o2, none⟩ = some (.int .u8 kd2) := by have h := hkw.cell id HG.out.1; simpa using h
               have g1 : w2.cell? ⟨b2, o2 + 1, none⟩ = some (.string tx2) := by have h := hkw.cell id HG.out.2.1; simpa using h
               have g2 : w2.cell? ⟨b2, o2 + 2, none⟩ = some (.int .i64 nm2) := by have h := hkw.cell id HG.out.2.2.1; simpa using h
               have g3 : w2.cell? ⟨b2, o2 + 3, none⟩ = some (.int .i64 pl2) := by have h := hkw.cell id HG.out.2.2.2.1; simpa using h
               have g4 : w2.cell? ⟨b2, o2 + 4, none⟩ = some (.slice (some ⟨b3, o3, none⟩) 2 kc2) := by have h := hkw.cell id HG.out.2.2.2.2; simpa using h
               have r0 : (w2.alloc (.cells #[.int .u8 kd2, .string tx2, .int .i64 nm2, .int .i64 pl2, .slice (some ⟨b3, o3, none⟩) 2 kc2] 29)).cell? ⟨b3, o3, none⟩ = some (.int .u8 kd3) := by have h := HK2.out.cell id HR.out; simpa using h
               clear hk hkw)
            | fail
          go_ret
          exact ⟨by rw [HS.out]; rfl, HK2.out⟩
        · rw [decide_eq_false h2] at hs
          have b2' : (kd3 == 2) = false := by simpa using h2
          by_cases h3 : kd3 = 3
          · rw [decide_eq_true h3] at hs
            have HS := hide hs
            have b3' : (kd3 == 3) = true := by simpa using h3
            clear hs h2 h3
            go_enter Tryd.func60, Tryd.ntmps60
            go_wp2_with
              first
              | (go_at_call 57
                 refine HI.out.mono ?_
                 rintro e w2 ⟨rfl, hk⟩
                 rw [HV.out]
                 have hkw : Keeps NoB w w2 := HK.out.trans' hk (fun _ _ => id) (fun _ _ => id)
                 have HK2 := hide (hkw.alloc (.cells #[.int .u8 kd2, .string tx2, .int .i64 nm2, .int .i64 pl2, .slice (some ⟨b3, o3, none⟩) 2 kc2] 29))
                 have q4 : w2.cell? ⟨w.heap.size, 4, none⟩ = some (.slice (some ⟨b, o, none⟩) 3 kc) := hk.cell id (HBX.out.cell 4)
                 have f4 : w2.cell? ⟨b, o + 4, none⟩ = some (.slice (some ⟨b2, o2, none⟩) 1 kc1) := by have h := hkw.cell id HF.out; simpa using h
                 have g0 : w2.cell? ⟨b2, o2, none⟩ = some (.int .u8 kd2) := by have h := hkw.cell id HG.out.1; simpa using h
                 have g1 : w2.cell? ⟨b2, o2 + 1, none⟩ = some (.string tx2) := by have h := hkw.cell id HG.out.2.1; simpa using h
                 have g2 : w2.cell? ⟨b2, o2 + 2, none⟩ = some (.int .i64 nm2) := by have h := hkw.cell id HG.out.2.2.1; simpa using h
                 have g3 : w2.cell? ⟨b2, o2 + 3, none⟩ = some (.int .i64 pl2) := by have h := hkw.cell id HG.out.2.2.2.1; simpa using h
                 have g4 : w2.cell? ⟨b2, o2 + 4, none⟩ = some (.slice (some ⟨b3, o3, none⟩) 2 kc2) := by have h := hkw.cell id HG.out.2.2.2.2; simpa using h
                 have r0 : (w2.alloc (.cells #[.int .u8 kd2, .string tx2, .int .i64 nm2, .int .i64 pl2, .slice (some ⟨b3, o3, none⟩) 2 kc2] 29)).cell? ⟨b3, o3, none⟩ = some (.int .u8 kd3) := by have h := HK2.out.cell id HR.out; simpa using h
                 clear hk hkw)
              | fail
            go_ret
            exact ⟨by rw [HS.out]; rfl, HK2.out⟩
          · rw [decide_eq_false h3] at hs
            have HS := hide hs
            have b3' : (kd3 == 3) = false := by simpa using h3
            clear hs h2 h3
            go_enter Tryd.func60, Tryd.ntmps60
            go_wp2_with
              first
              | (go_at_call 57
                 refine HI.out.mono ?_
                 rintro e w2 ⟨rfl, hk⟩
                 rw [HV.out]
                 have hkw : Keeps NoB w w2 := HK.out.trans' hk (fun _ _ => id) (fun _ _ => id)
                 have HK2 := hide (hkw.alloc (.cells #[.int .u8 kd2, .string tx2, .int .i64 nm2, .int .i64 pl2, .slice (some ⟨b3, o3, none⟩) 2 kc2] 29))
                 have q4 : w2.cell? ⟨w.heap.size, 4, none⟩ = some (.slice (some ⟨b, o, none⟩) 3 kc) := hk.cell id (HBX.out.cell 4)
                 have f4 : w2.cell? ⟨b, o + 4, none⟩ = some (.slice (some ⟨b2, o2, none⟩) 1 kc1) := by have h := hkw.cell id HF.out; simpa using h
                 have g0 : w2.cell? ⟨b2, o2, none⟩ = some (.int .u8 kd2) := by have h := hkw.cell id HG.out.1; simpa using h
                 have g1 : w2.cell? ⟨b2, o2 + 1, none⟩ = some (.string tx2) := by have h := hkw.cell id HG.out.2.1; simpa using h
                 have g2 : w2.cell? ⟨b2, o2 + 2, none⟩ = some (.int .i64 nm2) := by have h := hkw.cell id HG.out.2.2.1; simpa using h
                 have g3 : w2.cell? ⟨b2, o2 + 3, none⟩ = some (.int .i64 pl2) := by have h := hkw.cell id HG.out.2.2.2.1; simpa using h
                 have g4 : w2.cell? ⟨b2, o2 + 4, none⟩ = some (.slice (some ⟨b3, o3, none⟩) 2 kc2) := by have h := hkw.cell id HG.out.2.2.2.2; simpa using h
                 have r0 : (w2.alloc (.cells #[.int .u8 kd2, .string tx2, .int .i64 nm2, .int .i64 pl2, .slice (some ⟨b3, o3, none⟩) 2 kc2] 29)).cell? ⟨b3, o3, none⟩ = some (.int .u8 kd3) := by have h := HK2.out.cell id HR.out; simpa using h
                 clear hk hkw)
              | fail
            go_ret
            exact ⟨by rw [HS.out]; rfl, HK2.out⟩
      · rw [decide_eq_false hn] at hs
        have HS : Hid (okM 5 (.mk kd tx nm pl [p, g, d]) = false) := hide (by rw [hs]; simp)
        have bn : ((kn2 : Int) == 2) = false := by simp; omega
        clear hL ho ht H hk hr hc hv hroom hkl hu e1 ep hl1 f4 hr1 hc1 hu2 e2 eq2 hr2 hc2 hl2 g0 g1 g2 g3 g4 hpq h5 hs hn
        go_enter Tryd.func60, Tryd.ntmps60
        go_wp2_with
          first
          | (go_at_call 57
             refine HI.out.mono ?_
             rintro e w2 ⟨rfl, hk⟩
             rw [HV.out]
             have hkw : Keeps NoB w w2 := HK.out.trans' hk (fun _ _ => id) (fun _ _ => id)
             have HK2 := hide (hkw.alloc (.cells #[.int .u8 kd2, .string tx2, .int .i64 nm2, .int .i64 pl2, .slice ka2 kn2 kc2] 29))
             have q4 : w2.cell? ⟨w.heap.size, 4, none⟩ = some (.slice (some ⟨b, o, none⟩) 3 kc) := hk.cell id (HBX.out.cell 4)
             have f4 : w2.cell? ⟨b, o + 4, none⟩ = some (.slice (some ⟨b2, o2, none⟩) 1 kc1) := by have h := hkw.cell id HF.out; simpa using h
             have g0 : w2.cell? ⟨b2, o2, none⟩ = some (.int .u8 kd2) := by have h := hkw.cell id HG.out.1; simpa using h
             have g1 : w2.cell? ⟨b2, o2 + 1, none⟩ = some (.string tx2) := by have h := hkw.cell id HG.out.2.1; simpa using h
             have g2 : w2.cell? ⟨b2, o2 + 2, none⟩ = some (.int .i64 nm2) := by have h := hkw.cell id HG.out.2.2.1; simpa using h
             have g3 : w2.cell? ⟨b2, o2 + 3, none⟩ = some (.int .i64 pl2) := by have h := hkw.cell id HG.out.2.2.2.1; simpa using h
             have g4 : w2.cell? ⟨b2, o2 + 4, none⟩ = some (.slice ka2 kn2 kc2) := by have h := hkw.cell id HG.out.2.2.2.2; simpa using h
             skip
             clear hk hkw)
          | fail
        go_ret
        exact ⟨by rw [HS.out]; rfl, HK2.out⟩
    · rw [decide_eq_false h5] at hs
      have HS : Hid (okM 5 (.mk kd tx nm pl [p, g, d]) = false) := hide (by rw [hs]; simp)
      have b5 : (kd2 == 5) = false := by simpa using h5
      clear hL ho ht H hk hr hc hv hroom hkl hu e1 ep hl1 f4 hr1 hc1 hu2 e2 eq2 hr2 hc2 hl2 g0 g1 g2 g3 g4 hpq h5 hs
      go_enter Tryd.func60, Tryd.ntmps60
      go_wp2_with
        first
        | (go_at_call 57
           refine HI.out.mono ?_
           rintro e w2 ⟨rfl, hk⟩
           rw [HV.out]
           have hkw : Keeps NoB w w2 := HK.out.trans' hk (fun _ _ => id) (fun _ _ => id)
           have HK2 := hide (hkw.alloc (.cells #[.int .u8 kd2, .string tx2, .int .i64 nm2, .int .i64 pl2, .slice ka2 kn2 kc2] 29))
           have q4 : w2.cell? ⟨w.heap.size, 4, none⟩ = some (.slice (some ⟨b, o, none⟩) 3 kc) := hk.cell id (HBX.out.cell 4)
           have f4 : w2.cell? ⟨b, o + 4, none⟩ = some (.slice (some ⟨b2, o2, none⟩) 1 kc1) := by have h := hkw.cell id HF.out; simpa using h
           have g0 : w2.cell? ⟨b2, o2, none⟩ = some (.int .u8 kd2) := by have h := hkw.cell id HG.out.1; simpa using h
           have g1 : w2.cell? ⟨b2, o2 + 1, none⟩ = some (.string tx2) := by have h := hkw.cell id HG.out.2.1; simpa using h
           have g2 : w2.cell? ⟨b2, o2 + 2, none⟩ = some (.int .i64 nm2) := by have h := hkw.cell id HG.out.2.2.1; simpa using h
           have g3 : w2.cell? ⟨b2, o2 + 3, none⟩ = some (.int .i64 pl2) := by have h := hkw.cell id HG.out.2.2.2.1; simpa using h
           have g4 : w2.cell? ⟨b2, o2 + 4, none⟩ = some (.slice ka2 kn2 kc2) := by have h := hkw.cell id HG.out.2.2.2.2; simpa using h
           skip
           clear hk hkw)
        | fail
      go_ret
      exact ⟨by rw [HS.out]; rfl, HK2.out⟩
end Go.Proofs.YtincajfanhanjaaDoor
