/- checker.expr: what has no kids of its own kind, operations, calls. -/
import Derived.Test.YtincajfanhanjaaDoorChComp
namespace Go.Proofs.YtincajfanhanjaaDoor
open Go.RowKit Go.Maps


theorem four_blks (w : World) (t0 t1 t2 t3 : TypeId) (c0 c1 c2 c3 : Array Value) :
    let W := (((w.alloc (.cells c0 t0)).alloc (.cells c1 t1)).alloc (.cells c2 t2)).alloc (.cells c3 t3)
    Blk W w.heap.size t0 c0 ∧ Blk W (w.heap.size + 1) t1 c1 ∧ Blk W (w.heap.size + 1 + 1) t2 c2 ∧ Blk W (w.heap.size + 1 + 1 + 1) t3 c3 ∧ W.heap.size = w.heap.size + 4 := by
  intro W
  have e1 : (w.alloc (.cells c0 t0)).heap.size = w.heap.size + 1 := by simp
  have e2 : ((w.alloc (.cells c0 t0)).alloc (.cells c1 t1)).heap.size = w.heap.size + 1 + 1 := by simp
  have e3 : (((w.alloc (.cells c0 t0)).alloc (.cells c1 t1)).alloc (.cells c2 t2)).heap.size = w.heap.size + 1 + 1 + 1 := by simp
  have b1 := Blk.new (w.alloc (.cells c0 t0)) t1 c1
  have b2 := Blk.new ((w.alloc (.cells c0 t0)).alloc (.cells c1 t1)) t2 c2
  have b3 := Blk.new (((w.alloc (.cells c0 t0)).alloc (.cells c1 t1)).alloc (.cells c2 t2)) t3 c3
  rw [e1] at b1; rw [e2] at b2; rw [e3] at b3
  exact ⟨(((Blk.new w t0 c0).alloc _).alloc _).alloc _, (b1.alloc _).alloc _, b2.alloc _, b3, by simp [W]⟩
theorem Tree.kid {L : List ByteArray} {k : Int} {tx : ByteArray} {nm pl : Int} {kids : List Nd} (h : Tree L 0 (.mk k tx nm pl kids)) (hk : k ≠ 10 ∧ k ≠ 12 ∧ k ≠ 13 ∧ k ≠ 14 ∧ k ≠ 16 ∧ k ≠ 17) : ∀ t ∈ kids, Tree L 0 t := fun t ht =>
  ⟨okN_kids h.ok t (by simp only [Nd.kids]; exact ht), okM_kids h.may hk t ht, namesIn_kids h.names t (by simp only [Nd.kids]; exact ht)⟩
set_option maxRecDepth 100000 in
set_option maxHeartbeats 8000000 in
theorem expr_plain (M : Nat) (IH : ∀ t : Nd, t.size ≤ M → ExprOf t) (w : World) (c : Cx) (cb mg ms : Nat) (S G : Scope) (kd : Int) (tx : ByteArray) (nm pl : Int) (ka : Option Addr) (kn kc : Nat) (kids : List Nd) (hM : Nd.size.sizes kids ≤ M) (ht : NodeIn w (Bt c cb) false [.int .u8 kd, .string tx, .int .i64 nm, .int .i64 pl, .slice ka kn kc] (.mk kd tx nm pl kids)) (hH : Here c cb mg ms w S G) (hT : Tree c.L 0 (.mk kd tx nm pl kids))
    (hkd : kd = 1 ∨ kd = 2 ∨ kd = 4 ∨ kd = 5 ∨ kd = 6 ∨ kd = 7) :
    Calls Tryd.prog 62 #[.pointer (some ⟨cb, 0, none⟩), .agg #[.int .u8 kd, .string tx, .int .i64 nm, .int .i64 pl, .slice ka kn kc], .map (some ms)] w (Ends (exN c.F false (.mk kd tx nm pl kids) S G) (fun k => k = cb ∨ k = mg) w (ExPost c cb mg w S)) := by
  obtain ⟨_, css, e0, hroom, hr, hc, hkl⟩ := ht.kidsIn
  injection e0 with _ _ _ _ e0
  subst e0
  have hnm : kn ≤ 9223372036854775807 := by have := hroom.1.len (by omega); unfold maxLen at this; exact this
  have hlt0 : ms < w.heap.size ∧ cb < w.heap.size ∧ mg < w.heap.size ∧ ms ≠ cb ∧ ms ≠ mg ∧ c.hi ≤ ms ∧ c.hi ≤ mg ∧ c.hi ≤ w.heap.size := ⟨hH.scope.lt, hH.ck.blk.lt, hH.ck.gone.lt, hH.ne.1, hH.ne.2, hH.hi, hH.ck.mg, by have h1 := hH.scope.lt; have h2 := hH.hi; omega⟩
  have HLT := hide hlt0
  have HBT := hide (show ∀ k, Bt c cb k → ¬ (k = cb ∨ k = mg) from fun k h e => by have h1 := h.1; have h2 := h.2; have h3 := hH.ck.mg; omega)
  have hk0 : Keeps NoB w (((((((w.alloc (.cells #[.pointer (some ⟨cb, 0, none⟩)] 49))).alloc (.cells #[.int .u8 kd, .string tx, .int .i64 nm, .int .i64 pl, .slice ka kn kc] 29))).alloc (.cells #[.map (some ms)] 52))).alloc (.cells #[.slice ka kn kc] 27)) := ((((Keeps.refl NoB w).alloc _).alloc _).alloc _).alloc _
  have HK0 := hide hk0
  obtain ⟨b0, b1, b2, b3, hs4⟩ := four_blks w 49 29 52 27 #[.pointer (some ⟨cb, 0, none⟩)] #[.int .u8 kd, .string tx, .int .i64 nm, .int .i64 pl, .slice ka kn kc] #[.map (some ms)] #[.slice ka kn kc]
  have BB0 := hide b0; have BB1 := hide b1; have BB2 := hide b2; have BB3 := hide b3
  have HS4 := hide hs4
  clear b0 b1 b2 b3 hs4
  have HE := hide ((show exN c.F false (.mk kd tx nm pl kids) S G = exsN c.F false kids S G by
    unfold exN; rw [if_neg (by omega), if_neg (by omega), if_neg (by omega), if_neg (by omega), if_neg (by omega), if_neg (by omega), if_neg (by omega), if_neg (by omega), if_neg (by omega), if_neg (by omega)]).trans (exs_fold c.F false kids S G))
  have HRD := hide hr; have HC := hide hc; have HKL := hide hkl; have HKS := hide hM; have HIH := hide IH; have HT := hide (hT.kid (by omega))
  have HHB := hide (hH.keep0 hk0)
  have HKB : Hid (Keeps (fun k => k = cb ∨ k = mg) w (((((((w.alloc (.cells #[.pointer (some ⟨cb, 0, none⟩)] 49))).alloc (.cells #[.int .u8 kd, .string tx, .int .i64 nm, .int .i64 pl, .slice ka kn kc] 29))).alloc (.cells #[.map (some ms)] 52))).alloc (.cells #[.slice ka kn kc] 27))) := hide (hk0.mono (fun _ _ h => h.elim))
  have HWB := hide (show w.heap.size + 4 ≤ ((((((((w.alloc (.cells #[.pointer (some ⟨cb, 0, none⟩)] 49))).alloc (.cells #[.int .u8 kd, .string tx, .int .i64 nm, .int .i64 pl, .slice ka kn kc] 29))).alloc (.cells #[.map (some ms)] 52))).alloc (.cells #[.slice ka kn kc] 27))).heap.size from Nat.le_of_eq HS4.out.symm)
  have D0 : Hid (((((((((w.alloc (.cells #[.pointer (some ⟨cb, 0, none⟩)] 49))).alloc (.cells #[.int .u8 kd, .string tx, .int .i64 nm, .int .i64 pl, .slice ka kn kc] 29))).alloc (.cells #[.map (some ms)] 52))).alloc (.cells #[.slice ka kn kc] 27))).cell? ⟨w.heap.size, 0, none⟩ = some (.pointer (some ⟨cb, 0, none⟩))) := hide (BB0.out.cell 0)
  have D2 : Hid (((((((((w.alloc (.cells #[.pointer (some ⟨cb, 0, none⟩)] 49))).alloc (.cells #[.int .u8 kd, .string tx, .int .i64 nm, .int .i64 pl, .slice ka kn kc] 29))).alloc (.cells #[.map (some ms)] 52))).alloc (.cells #[.slice ka kn kc] 27))).cell? ⟨w.heap.size + 1 + 1, 0, none⟩ = some (.map (some ms))) := hide (BB2.out.cell 0)
  have b3 : ((((((((w.alloc (.cells #[.pointer (some ⟨cb, 0, none⟩)] 49))).alloc (.cells #[.int .u8 kd, .string tx, .int .i64 nm, .int .i64 pl, .slice ka kn kc] 29))).alloc (.cells #[.map (some ms)] 52))).alloc (.cells #[.slice ka kn kc] 27))).cell? ⟨w.heap.size + 1 + 1 + 1, 0, none⟩ = some (.slice ka kn kc) := BB3.out.cell 0
  clear ht hH hr hc hroom hT hM IH hk0 hkl hlt0
  rcases hkd with rfl | rfl | rfl | rfl | rfl | rfl <;> (
    go_enter Tryd.func62, Tryd.ntmps62
    go_wp2
    go_loopg [102] kn (fun g0 s102 wx => ∃ (k : Nat) (x : Scope × Scope) (mg' : Nat), k ≤ kn ∧ g0 = kn - k ∧ s102 = .int .i64 k ∧ foldE (fun t s => exN c.F false t s.1 s.2) (List.take k kids) (S, G) = .ok x ∧ x.1 = S ∧ Here c cb mg' ms wx S x.2 ∧ (mg' = mg ∨ w.heap.size + 4 ≤ mg') ∧ Keeps (fun k => k = cb ∨ k = mg) w wx ∧ w.heap.size + 4 ≤ wx.heap.size ∧ wx.cell? ⟨w.heap.size, 0, none⟩ = some (.pointer (some ⟨cb, 0, none⟩)) ∧ wx.cell? ⟨w.heap.size + 1 + 1, 0, none⟩ = some (.map (some ms)))
    case atStart => exact ⟨0, (S, G), mg, Nat.zero_le _, rfl, rfl, by simp [foldE], rfl, HHB.out, .inl rfl, HKB.out, HWB.out, D0.out, D2.out⟩
    case round =>
      obtain ⟨k, x, mg1, hk, rfl, rfl, hf, hx1, hh, hm, hkw, hws, e0, e2⟩ := hrel
      have HKW := hide hkw; have HF := hide hf; have HHR := hide hh; have HM := hide hm; have HX1 := hide hx1; have HWS := hide hws; have E0 := hide e0; have E2 := hide e2; clear hkw hf hm hh hx1 hws e0 e2
      by_cases hlt : k < kn
      · obtain ⟨b1, o1, kd1, tx1, nm1, pl1, ka1, kn1, kc1, t1, hA, _, hb1, h1, hsz, hu, f0, f1, f2, f3, f4⟩ := node_at (HRD.out.keep HKW.out HBT.out) (NodesIn.keep HKW.out HBT.out _ _ HC.out) k hlt
        subst hA
        have hk1 : (k : Int) < (kn : Int) := by omega
        have hk0 : (0 : Int) ≤ (k : Int) := by omega
        have hka : Keeps NoB wr (wr.alloc (.cells #[.int .u8 kd1, .string tx1, .int .i64 nm1, .int .i64 pl1, .slice ka1 kn1 kc1] 29)) := (Keeps.refl NoB wr).alloc _
        have HKA := hide hka
        have d0 : (wr.alloc (.cells #[.int .u8 kd1, .string tx1, .int .i64 nm1, .int .i64 pl1, .slice ka1 kn1 kc1] 29)).cell? ⟨w.heap.size, 0, none⟩ = some (.pointer (some ⟨cb, 0, none⟩)) := hka.cell id E0.out
        have d2 : (wr.alloc (.cells #[.int .u8 kd1, .string tx1, .int .i64 nm1, .int .i64 pl1, .slice ka1 kn1 kc1] 29)).cell? ⟨w.heap.size + 1 + 1, 0, none⟩ = some (.map (some ms)) := hka.cell id E2.out
        have H1 := hide h1
        have HI := hide (HIH.out t1 (Nat.le_trans hsz HKS.out) _ c cb mg1 ms S x.2 kd1 tx1 nm1 pl1 ka1 kn1 kc1 (NodeIn.keep hka (fun _ _ => id) _ _ hu) (HHR.out.keep0 hka) (HT.out t1 (List.mem_of_getElem? h1)))
        clear hu h1 hsz hka
        go_wp2_with
          first
          | (go_at_call 62
             refine HI.out.mono ?_
             rintro e' w2 ⟨hk2, hcase⟩
             have HK2 := hide ((HKW.out.trans' HKA.out (fun _ _ => id) (fun _ _ h => h.elim) : Keeps (fun k => k = cb ∨ k = mg) w _).trans' (fp'' := (fun k => k = cb ∨ k = mg)) hk2 (fun _ _ => id) (fun i hi h => by have h2 := HM.out; rcases h with h | h <;> first | exact .inl h | (rcases h2 with h2 | h2 <;> first | exact .inr (h.trans h2) | omega)) : Keeps (fun k => k = cb ∨ k = mg) w w2)
             rcases hcase with ⟨k9, p9, hr9, he⟩ | ⟨x9, hr9, he, hx, mg2, hc2, hm2⟩
             all_goals have hr8 : exN c.F false t1 x.1 x.2 = exN c.F false t1 S x.2 := by rw [HX1.out]
             all_goals first
               | (have HX := hide (foldE_stop (f := fun t s => exN c.F false t s.1 s.2) H1.out HF.out (hr8.trans hr9))
                  unfold Stops at he
                  subst he
                  clear hk2 hr9 HI hr8)
               | (have HX := hide (foldE_step (f := fun t s => exN c.F false t s.1 s.2) H1.out HF.out (hr8.trans hr9))
                  have HX9 := hide hx
                  have hsz3 : w.heap.size + 4 ≤ w2.heap.size := Nat.le_trans HWS.out (Nat.le_trans HKA.out.size hk2.size)
                  have HM2 := hide (mg_step HM.out hm2 (Nat.le_trans HWS.out HKA.out.size))
                  have hn1 : w.heap.size ≠ cb ∧ w.heap.size ≠ mg1 ∧ w.heap.size + 1 + 1 ≠ cb ∧ w.heap.size + 1 + 1 ≠ mg1 := by have h := HLT.out; have h1 := HM.out; omega
                  have E0' := hide (hk2.cell (fun (h : w.heap.size = cb ∨ w.heap.size = mg1) => h.elim hn1.1 hn1.2.1) d0)
                  have E2' := hide (hk2.cell (fun (h : w.heap.size + 1 + 1 = cb ∨ w.heap.size + 1 + 1 = mg1) => h.elim hn1.2.2.1 hn1.2.2.2) d2)
                  have HSZ3 := hide hsz3
                  have HH2 : Hid (Here c cb mg2 ms w2 S x9.2) := hide ⟨hc2, (HHR.out.keep0 HKA.out).scope.keep hk2 (fun h => h.elim HHR.out.ne.1 HHR.out.ne.2), ⟨HHR.out.ne.1, by
                    have h1 := HHR.out.ne.2; have h3 := HHR.out.scope.lt; have h4 := HKA.out.size
                    rcases hm2 with h | h <;> omega⟩, HHR.out.hi⟩
                  subst he
                  clear hk2 hr9 hm2 hc2 HI hx hr8 hn1 hsz3))
          | fail
        · exact ⟨rfl, HK2.out, .inl ⟨_, _, HE.out.trans HX.out, rfl⟩⟩
        · go_roundg (kn - (k + 1))
          case measure => omega
          case rel => exact ⟨k + 1, x9, mg2, by omega, rfl, by go_num, HX.out, HX9.out, HH2.out, HM2.out, HK2.out, HSZ3.out, E0'.out, E2'.out⟩
      · obtain rfl : k = kn := by omega
        have he : List.take k kids = kids := List.take_of_length_le (by have := HKL.out; omega)
        have HX := hide (he ▸ HF.out)
        clear he
        go_wp2
        go_end0
        exact ⟨HKW.out, .inr ⟨x, HE.out.trans HX.out, rfl, HX1.out, mg1, HHR.out.ck, HM.out.imp id (fun h => by omega)⟩⟩
    done)
end Go.Proofs.YtincajfanhanjaaDoor
