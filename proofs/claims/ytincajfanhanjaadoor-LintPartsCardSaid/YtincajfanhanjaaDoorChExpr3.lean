/- checker.expr: funs, cases, ifs, receives, tries, blocks, comprehensions. checker.expr of any item; names of a tree. -/
import Derived.Test.YtincajfanhanjaaDoorChExpr2
namespace Go.Proofs.YtincajfanhanjaaDoor
open Go.RowKit Go.Maps


set_option maxRecDepth 100000 in
set_option maxHeartbeats 8000000 in
theorem expr_13 (M : Nat) (IH : ∀ t : Nd, t.size ≤ M → ExprOf t) (w : World) (c : Cx) (cb mg ms : Nat) (S G : Scope) (tx : ByteArray) (nm pl : Int) (ka : Option Addr) (kn kc : Nat) (kids : List Nd) (hM : Nd.size.sizes kids ≤ M) (ht : NodeIn w (Bt c cb) false [.int .u8 13, .string tx, .int .i64 nm, .int .i64 pl, .slice ka kn kc] (.mk 13 tx nm pl kids)) (hH : Here c cb mg ms w S G) (hT : Tree c.L 0 (.mk 13 tx nm pl kids)) :
    Calls Tryd.prog 62 #[.pointer (some ⟨cb, 0, none⟩), .agg #[.int .u8 13, .string tx, .int .i64 nm, .int .i64 pl, .slice ka kn kc], .map (some ms)] w (Ends (exN c.F false (.mk 13 tx nm pl kids) S G) (fun k => k = cb ∨ k = mg) w (ExPost c cb mg w S)) := by
  obtain ⟨_, css, e0, hroom, hr, hc, hkl⟩ := ht.kidsIn
  injection e0 with _ _ _ _ e0
  subst e0
  have HLT := hide (show ms < w.heap.size ∧ cb < w.heap.size ∧ mg < w.heap.size ∧ ms ≠ cb ∧ ms ≠ mg ∧ c.hi ≤ ms ∧ c.hi ≤ mg ∧ c.hi ≤ w.heap.size from ⟨hH.scope.lt, hH.ck.blk.lt, hH.ck.gone.lt, hH.ne.1, hH.ne.2, hH.hi, hH.ck.mg, by have h1 := hH.scope.lt; have h2 := hH.hi; omega⟩)
  have HBT := hide (show ∀ k, Bt c cb k → ¬ (k = cb ∨ k = mg) from fun k h e => by have h1 := h.1; have h2 := h.2; have h3 := hH.ck.mg; omega)
  have HIT := hide (fun t (h : t.size ≤ M) => item_any M IH t h)
  have HBD := hide (body_any M HIT.out)
  have HRS := hide (rest_any M HBD.out)
  have HCL := hide (clauses_any M IH HBD.out HRS.out)
  have hk0 : Keeps NoB w ((((w.alloc (.cells #[.pointer (some ⟨cb, 0, none⟩)] 49)).alloc (.cells #[.int .u8 13, .string tx, .int .i64 nm, .int .i64 pl, .slice ka kn kc] 29)).alloc (.cells #[.map (some ms)] 52)).alloc (.cells #[.slice ka kn kc] 27)) := ((((Keeps.refl NoB w).alloc _).alloc _).alloc _).alloc _
  obtain ⟨b0, b1, b2, b3, hs4⟩ := four_blks w 49 29 52 27 #[.pointer (some ⟨cb, 0, none⟩)] #[.int .u8 13, .string tx, .int .i64 nm, .int .i64 pl, .slice ka kn kc] #[.map (some ms)] #[.slice ka kn kc]
  have BB0 := hide b0; have BB1 := hide b1; have BB2 := hide b2; have BB3 := hide b3; have HS4 := hide (Nat.le_of_eq hs4.symm)
  have HK := hide hk0; have HIH := hide IH; have HH := hide hH; have HM := hide hM
  have HCC := hide (HCL.out ((((w.alloc (.cells #[.pointer (some ⟨cb, 0, none⟩)] 49)).alloc (.cells #[.int .u8 13, .string tx, .int .i64 nm, .int .i64 pl, .slice ka kn kc] 29)).alloc (.cells #[.map (some ms)] 52)).alloc (.cells #[.slice ka kn kc] 27)) c cb mg ms S G kids css ka kn kc (hr.keep hk0 (fun _ _ => id)) (NodesIn.keep hk0 (fun _ _ => id) _ _ hc) hkl hroom.1 (hH.keep0 hk0) hT.if' hM)
  have HE := hide (show exN c.F false (.mk 13 tx nm pl kids) S G = (foldE (clE c.F S) kids G).map (fun g => (S, g)) by
    unfold exN; rw [if_neg (by decide), if_neg (by decide), if_neg (by decide), if_neg (by decide), if_neg (by decide), if_neg (by decide), if_pos (by decide), cls_fold]; rfl)
  clear ht hH hr hc hroom hT hk0 b0 b1 b2 b3 hs4 hM IH hkl
  have q0 := BB0.out.cell 0; have q2 := BB2.out.cell 0; have q3 := BB3.out.cell 0
  go_enter Tryd.func62, Tryd.ntmps62
  go_wp2_with
    first
    | (go_at_call 76
       refine HCC.out.mono ?_
       rintro e w2 ⟨hk2, hcase⟩
       have HK2 := hide (HK.out.trans' (fp'' := (fun k => k = cb ∨ k = mg)) hk2 (fun _ _ h => h.elim) (fun _ _ => id) : Keeps (fun k => k = cb ∨ k = mg) w w2)
       rcases hcase with ⟨k9, p9, hr9, he⟩ | ⟨x9, hr9, he, mg2, hc2, hm2⟩
       all_goals have HX := hide (HE.out.trans (by rw [hr9]))
       all_goals first
         | (unfold Stops at he
            subst he
            clear hk2 hr9 HCC)
         | (have HM2 := hide (hm2.imp id (fun h => Nat.le_trans HK.out.size h)); have HC2 := hide hc2
            subst he
            clear hk2 hr9 HCC))
    | fail
  · exact ⟨rfl, HK2.out, .inl ⟨_, _, HX.out, rfl⟩⟩
  · refine bodyPost_ret (results_none rfl _ _ _) rfl ?_
    exact ⟨HK2.out, .inr ⟨(S, _), HX.out, rfl, rfl, mg2, HC2.out, HM2.out⟩⟩
set_option maxRecDepth 100000 in
set_option maxHeartbeats 8000000 in
theorem expr_14 (M : Nat) (IH : ∀ t : Nd, t.size ≤ M → ExprOf t) (w : World) (c : Cx) (cb mg ms : Nat) (S G : Scope) (tx : ByteArray) (nm pl : Int) (ka : Option Addr) (kn kc : Nat) (kids : List Nd) (hM : Nd.size.sizes kids ≤ M) (ht : NodeIn w (Bt c cb) false [.int .u8 14, .string tx, .int .i64 nm, .int .i64 pl, .slice ka kn kc] (.mk 14 tx nm pl kids)) (hH : Here c cb mg ms w S G) (hT : Tree c.L 0 (.mk 14 tx nm pl kids)) :
    Calls Tryd.prog 62 #[.pointer (some ⟨cb, 0, none⟩), .agg #[.int .u8 14, .string tx, .int .i64 nm, .int .i64 pl, .slice ka kn kc], .map (some ms)] w (Ends (exN c.F false (.mk 14 tx nm pl kids) S G) (fun k => k = cb ∨ k = mg) w (ExPost c cb mg w S)) := by
  obtain ⟨_, css, e0, hroom, hr, hc, hkl⟩ := ht.kidsIn
  injection e0 with _ _ _ _ e0
  subst e0
  have HLT := hide (show ms < w.heap.size ∧ cb < w.heap.size ∧ mg < w.heap.size ∧ ms ≠ cb ∧ ms ≠ mg ∧ c.hi ≤ ms ∧ c.hi ≤ mg ∧ c.hi ≤ w.heap.size from ⟨hH.scope.lt, hH.ck.blk.lt, hH.ck.gone.lt, hH.ne.1, hH.ne.2, hH.hi, hH.ck.mg, by have h1 := hH.scope.lt; have h2 := hH.hi; omega⟩)
  have HBT := hide (show ∀ k, Bt c cb k → ¬ (k = cb ∨ k = mg) from fun k h e => by have h1 := h.1; have h2 := h.2; have h3 := hH.ck.mg; omega)
  have HIT := hide (fun t (h : t.size ≤ M) => item_any M IH t h)
  have HBD := hide (body_any M HIT.out)
  have HRS := hide (rest_any M HBD.out)
  have HCL := hide (clauses_any M IH HBD.out HRS.out)
  have hk0 : Keeps NoB w ((((w.alloc (.cells #[.pointer (some ⟨cb, 0, none⟩)] 49)).alloc (.cells #[.int .u8 14, .string tx, .int .i64 nm, .int .i64 pl, .slice ka kn kc] 29)).alloc (.cells #[.map (some ms)] 52)).alloc (.cells #[.slice ka kn kc] 27)) := ((((Keeps.refl NoB w).alloc _).alloc _).alloc _).alloc _
  obtain ⟨b0, b1, b2, b3, hs4⟩ := four_blks w 49 29 52 27 #[.pointer (some ⟨cb, 0, none⟩)] #[.int .u8 14, .string tx, .int .i64 nm, .int .i64 pl, .slice ka kn kc] #[.map (some ms)] #[.slice ka kn kc]
  have BB0 := hide b0; have BB1 := hide b1; have BB2 := hide b2; have BB3 := hide b3; have HS4 := hide (Nat.le_of_eq hs4.symm)
  have HK := hide hk0; have HIH := hide IH; have HH := hide hH; have HM := hide hM
  have HCC := hide (HCL.out ((((w.alloc (.cells #[.pointer (some ⟨cb, 0, none⟩)] 49)).alloc (.cells #[.int .u8 14, .string tx, .int .i64 nm, .int .i64 pl, .slice ka kn kc] 29)).alloc (.cells #[.map (some ms)] 52)).alloc (.cells #[.slice ka kn kc] 27)) c cb mg ms S G kids css ka kn kc (hr.keep hk0 (fun _ _ => id)) (NodesIn.keep hk0 (fun _ _ => id) _ _ hc) hkl hroom.1 (hH.keep0 hk0) hT.rec' hM)
  have HE := hide (show exN c.F false (.mk 14 tx nm pl kids) S G = (foldE (clE c.F S) kids G).map (fun g => (S, g)) by
    unfold exN; rw [if_neg (by decide), if_neg (by decide), if_neg (by decide), if_neg (by decide), if_neg (by decide), if_neg (by decide), if_pos (by decide), cls_fold]; rfl)
  clear ht hH hr hc hroom hT hk0 b0 b1 b2 b3 hs4 hM IH hkl
  have q0 := BB0.out.cell 0; have q2 := BB2.out.cell 0; have q3 := BB3.out.cell 0
  go_enter Tryd.func62, Tryd.ntmps62
  go_wp2_with
    first
    | (go_at_call 76
       refine HCC.out.mono ?_
       rintro e w2 ⟨hk2, hcase⟩
       have HK2 := hide (HK.out.trans' (fp'' := (fun k => k = cb ∨ k = mg)) hk2 (fun _ _ h => h.elim) (fun _ _ => id) : Keeps (fun k => k = cb ∨ k = mg) w w2)
       rcases hcase with ⟨k9, p9, hr9, he⟩ | ⟨x9, hr9, he, mg2, hc2, hm2⟩
       all_goals have HX := hide (HE.out.trans (by rw [hr9]))
       all_goals first
         | (unfold Stops at he
            subst he
            clear hk2 hr9 HCC)
         | (have HM2 := hide (hm2.imp id (fun h => Nat.le_trans HK.out.size h)); have HC2 := hide hc2
            subst he
            clear hk2 hr9 HCC))
    | fail
  · exact ⟨rfl, HK2.out, .inl ⟨_, _, HX.out, rfl⟩⟩
  · refine bodyPost_ret (results_none rfl _ _ _) rfl ?_
    exact ⟨HK2.out, .inr ⟨(S, _), HX.out, rfl, rfl, mg2, HC2.out, HM2.out⟩⟩
theorem inner_map {S : Scope} {r : Res} : (match r with
    | .error f => (.error f : Res)
    | .ok (own, G1) => .ok (S, goneS S own G1)) = (innerR S r).map (fun g => (S, g)) := by
  cases r with
  | error f => rfl
  | ok x => rfl
set_option maxRecDepth 100000 in
set_option maxHeartbeats 8000000 in
theorem expr_19 (M : Nat) (IH : ∀ t : Nd, t.size ≤ M → ExprOf t) (w : World) (c : Cx) (cb mg ms : Nat) (S G : Scope) (tx : ByteArray) (nm pl : Int) (ka : Option Addr) (kn kc : Nat) (kids : List Nd) (hM : Nd.size.sizes kids ≤ M) (ht : NodeIn w (Bt c cb) false [.int .u8 19, .string tx, .int .i64 nm, .int .i64 pl, .slice ka kn kc] (.mk 19 tx nm pl kids)) (hH : Here c cb mg ms w S G) (hT : Tree c.L 0 (.mk 19 tx nm pl kids)) :
    Calls Tryd.prog 62 #[.pointer (some ⟨cb, 0, none⟩), .agg #[.int .u8 19, .string tx, .int .i64 nm, .int .i64 pl, .slice ka kn kc], .map (some ms)] w (Ends (exN c.F false (.mk 19 tx nm pl kids) S G) (fun k => k = cb ∨ k = mg) w (ExPost c cb mg w S)) := by
  obtain ⟨_, css, e0, hroom, hr, hc, hkl⟩ := ht.kidsIn
  injection e0 with _ _ _ _ e0
  subst e0
  have HLT := hide (show ms < w.heap.size ∧ cb < w.heap.size ∧ mg < w.heap.size ∧ ms ≠ cb ∧ ms ≠ mg ∧ c.hi ≤ ms ∧ c.hi ≤ mg ∧ c.hi ≤ w.heap.size from ⟨hH.scope.lt, hH.ck.blk.lt, hH.ck.gone.lt, hH.ne.1, hH.ne.2, hH.hi, hH.ck.mg, by have h1 := hH.scope.lt; have h2 := hH.hi; omega⟩)
  have HBT := hide (show ∀ k, Bt c cb k → ¬ (k = cb ∨ k = mg) from fun k h e => by have h1 := h.1; have h2 := h.2; have h3 := hH.ck.mg; omega)
  have HIT := hide (fun t (h : t.size ≤ M) => item_any M IH t h)
  have HBD := hide (body_any M HIT.out)
  have HRS := hide (rest_any M HBD.out)
  have HCL := hide (clauses_any M IH HBD.out HRS.out)
  have hk0 : Keeps NoB w ((((w.alloc (.cells #[.pointer (some ⟨cb, 0, none⟩)] 49)).alloc (.cells #[.int .u8 19, .string tx, .int .i64 nm, .int .i64 pl, .slice ka kn kc] 29)).alloc (.cells #[.map (some ms)] 52)).alloc (.cells #[.slice ka kn kc] 27)) := ((((Keeps.refl NoB w).alloc _).alloc _).alloc _).alloc _
  obtain ⟨b0, b1, b2, b3, hs4⟩ := four_blks w 49 29 52 27 #[.pointer (some ⟨cb, 0, none⟩)] #[.int .u8 19, .string tx, .int .i64 nm, .int .i64 pl, .slice ka kn kc] #[.map (some ms)] #[.slice ka kn kc]
  have BB0 := hide b0; have BB1 := hide b1; have BB2 := hide b2; have BB3 := hide b3; have HS4 := hide (Nat.le_of_eq hs4.symm)
  have HK := hide hk0; have HIH := hide IH; have HH := hide hH; have HM := hide hM
  have hbk : ∀ x ∈ kids, Tree c.L 0 x := hT.kid (by omega)
  have HI := hide (inner_79 c ((((w.alloc (.cells #[.pointer (some ⟨cb, 0, none⟩)] 49)).alloc (.cells #[.int .u8 19, .string tx, .int .i64 nm, .int .i64 pl, .slice ka kn kc] 29)).alloc (.cells #[.map (some ms)] 52)).alloc (.cells #[.slice ka kn kc] 27)) cb mg ms S G ⟨w.heap.size, 0, none⟩ ⟨w.heap.size + 1 + 1 + 1, 0, none⟩ (exsN c.F true kids S G) (hH.keep0 hk0).ck (hH.keep0 hk0).scope hH.ne (fun W mo hk hmo hs hcc => own79 W c cb mg mo w.heap.size (w.heap.size + 1 + 1 + 1) ka kn kc _ (hk.cell id (b0.cell 0)) (hk.cell id (b3.cell 0)) (fun W' hk' => HBD.out W' c cb mg mo S G kids css ka kn kc
    (hr.keep (hk0.trans' (hk.trans' hk' (fun _ _ => id) (fun _ _ => id) : Keeps NoB ((((w.alloc (.cells #[.pointer (some ⟨cb, 0, none⟩)] 49)).alloc (.cells #[.int .u8 19, .string tx, .int .i64 nm, .int .i64 pl, .slice ka kn kc] 29)).alloc (.cells #[.map (some ms)] 52)).alloc (.cells #[.slice ka kn kc] 27)) W') (fun _ _ => id) (fun _ _ => id) : Keeps NoB w W') (fun _ _ => id)) (NodesIn.keep (hk0.trans' (hk.trans' hk' (fun _ _ => id) (fun _ _ => id) : Keeps NoB ((((w.alloc (.cells #[.pointer (some ⟨cb, 0, none⟩)] 49)).alloc (.cells #[.int .u8 19, .string tx, .int .i64 nm, .int .i64 pl, .slice ka kn kc] 29)).alloc (.cells #[.map (some ms)] 52)).alloc (.cells #[.slice ka kn kc] 27)) W') (fun _ _ => id) (fun _ _ => id) : Keeps NoB w W') (fun _ _ => id) _ _ hc) hkl hroom.1 ((Here.own hcc hs hmo (hH.keep0 hk0).ck.gone.lt).keep0 hk') hbk hM)))
  have HE := hide (show exN c.F false (.mk 19 tx nm pl kids) S G = (innerR S (exsN c.F true kids S G)).map (fun g => (S, g)) by
    rw [← inner_map]
    conv => lhs; unfold exN; rw [if_neg (by decide), if_neg (by decide), if_neg (by decide), if_neg (by decide), if_neg (by decide), if_neg (by decide), if_neg (by decide), if_neg (by decide), if_pos (by decide)]
    rfl)
  clear ht hH hr hc hroom hT hk0 b0 b1 b2 b3 hs4 hM IH hkl hbk
  have q0 := BB0.out.cell 0; have q2 := BB2.out.cell 0; have q3 := BB3.out.cell 0
  go_enter Tryd.func62, Tryd.ntmps62
  go_wp2_with
    first
    | (go_at_call 77
       refine HI.out.mono ?_
       rintro e w2 ⟨hk2, hcase⟩
       have HK2 := hide (HK.out.trans' (fp'' := (fun k => k = cb ∨ k = mg)) hk2 (fun _ _ h => h.elim) (fun _ _ => id) : Keeps (fun k => k = cb ∨ k = mg) w w2)
       rcases hcase with ⟨k9, p9, hr9, he⟩ | ⟨x9, hr9, he, mg2, hc2, hm2⟩
       all_goals have HX := hide (HE.out.trans (by rw [hr9]))
       all_goals first
         | (unfold Stops at he
            subst he
            clear hk2 hr9 HI)
         | (have HM2 := hide (hm2.imp id (fun h => Nat.le_trans HK.out.size h)); have HC2 := hide hc2
            have HKQ := hide hk2
            subst he
            clear hk2 hr9 HI))
    | fail
  · exact ⟨rfl, HK2.out, .inl ⟨_, _, HX.out, rfl⟩⟩
  · refine bodyPost_ret (results_none rfl _ _ _) rfl ?_
    exact ⟨HK2.out, .inr ⟨(S, _), HX.out, rfl, rfl, mg2, HC2.out, HM2.out⟩⟩
set_option maxRecDepth 100000 in
set_option maxHeartbeats 8000000 in
theorem expr_12 (M : Nat) (IH : ∀ t : Nd, t.size ≤ M → ExprOf t) (w : World) (c : Cx) (cb mg ms : Nat) (S G : Scope) (tx : ByteArray) (nm pl : Int) (ka : Option Addr) (kn kc : Nat) (kids : List Nd) (hM : Nd.size.sizes kids ≤ M) (ht : NodeIn w (Bt c cb) false [.int .u8 12, .string tx, .int .i64 nm, .int .i64 pl, .slice ka kn kc] (.mk 12 tx nm pl kids)) (hH : Here c cb mg ms w S G) (hT : Tree c.L 0 (.mk 12 tx nm pl kids)) :
    Calls Tryd.prog 62 #[.pointer (some ⟨cb, 0, none⟩), .agg #[.int .u8 12, .string tx, .int .i64 nm, .int .i64 pl, .slice ka kn kc], .map (some ms)] w (Ends (exN c.F false (.mk 12 tx nm pl kids) S G) (fun k => k = cb ∨ k = mg) w (ExPost c cb mg w S)) := by
  obtain ⟨_, css, e0, hroom, hr, hc, hkl⟩ := ht.kidsIn
  injection e0 with _ _ _ _ e0
  subst e0
  have HLT := hide (show ms < w.heap.size ∧ cb < w.heap.size ∧ mg < w.heap.size ∧ ms ≠ cb ∧ ms ≠ mg ∧ c.hi ≤ ms ∧ c.hi ≤ mg ∧ c.hi ≤ w.heap.size from ⟨hH.scope.lt, hH.ck.blk.lt, hH.ck.gone.lt, hH.ne.1, hH.ne.2, hH.hi, hH.ck.mg, by have h1 := hH.scope.lt; have h2 := hH.hi; omega⟩)
  have HBT := hide (show ∀ k, Bt c cb k → ¬ (k = cb ∨ k = mg) from fun k h e => by have h1 := h.1; have h2 := h.2; have h3 := hH.ck.mg; omega)
  have HIT := hide (fun t (h : t.size ≤ M) => item_any M IH t h)
  have HBD := hide (body_any M HIT.out)
  have HRS := hide (rest_any M HBD.out)
  have HCL := hide (clauses_any M IH HBD.out HRS.out)
  obtain ⟨e, cs, rfl, hcl, he, hcs⟩ := hT.case'
  obtain ⟨n, rfl⟩ : ∃ n, kn = n + 1 := ⟨cs.length, by simpa using hkl.symm⟩
  have hln : cs.length = n := by simpa using hkl
  obtain ⟨b, o, kd0, tx0, nm0, pl0, ka0, kn0, kc0, t0, hA, hBb, _, e0, hsz0, hu0, f0, f1, f2, f3, f4⟩ := node_at hr hc 0 (by omega)
  obtain rfl : e = t0 := by simpa using e0
  subst hA
  have hk0 : Keeps NoB w ((((w.alloc (.cells #[.pointer (some ⟨cb, 0, none⟩)] 49)).alloc (.cells #[.int .u8 12, .string tx, .int .i64 nm, .int .i64 pl, .slice (some ⟨b, o, none⟩) (n + 1) kc] 29)).alloc (.cells #[.map (some ms)] 52)).alloc (.cells #[.slice (some ⟨b, o, none⟩) (n + 1) kc] 27)) := ((((Keeps.refl NoB w).alloc _).alloc _).alloc _).alloc _
  obtain ⟨b0, b1, b2, b3, hs4⟩ := four_blks w 49 29 52 27 #[.pointer (some ⟨cb, 0, none⟩)] #[.int .u8 12, .string tx, .int .i64 nm, .int .i64 pl, .slice (some ⟨b, o, none⟩) (n + 1) kc] #[.map (some ms)] #[.slice (some ⟨b, o, none⟩) (n + 1) kc]
  have BB0 := hide b0; have BB1 := hide b1; have BB2 := hide b2; have BB3 := hide b3; have HS4 := hide (Nat.le_of_eq hs4.symm)
  have HK := hide hk0; have HIH := hide IH; have HH := hide hH; have HM := hide hM
  have hkcn : ¬ kc = 1 := by have := hroom.2; omega
  have hkci : (n : Int) + 1 ≤ (kc : Int) := by have := hroom.2; omega
  have hn1i : (1 : Int) ≤ (n : Int) + 1 := by omega
  have hnm : n + 1 ≤ 9223372036854775807 := by have := hroom.1.len (by omega); unfold maxLen at this; exact this
  have hr1 := hr.from' hc.lens.2 (i := 1) (c := kc) (by omega) hroom.2
  rw [if_neg hkcn, Nat.add_sub_cancel] at hr1
  have HRD := hide hr1; have HC := hide (show NodesIn w (Bt c cb) false (css.drop 1) cs from NodesIn.drop 1 hc); have HLN := hide hln; have HRO := hide (hroom.1.of_le (show n ≤ n + 1 by omega))
  have hsz : e.size ≤ M ∧ Nd.size.sizes cs ≤ M := by simp only [Nd.size.sizes] at hM; omega
  have HSZ := hide hsz
  have HCLS := hide (fun t ht => (hcs t ht).clOk (by omega) : ∀ t ∈ cs, ClOk c.L t)
  have HEX := hide (fun W (h : Keeps NoB ((((w.alloc (.cells #[.pointer (some ⟨cb, 0, none⟩)] 49)).alloc (.cells #[.int .u8 12, .string tx, .int .i64 nm, .int .i64 pl, .slice (some ⟨b, o, none⟩) (n + 1) kc] 29)).alloc (.cells #[.map (some ms)] 52)).alloc (.cells #[.slice (some ⟨b, o, none⟩) (n + 1) kc] 27)) W) => IH e hsz.1 W c cb mg ms S G kd0 tx0 nm0 pl0 ka0 kn0 kc0 (NodeIn.keep (hk0.trans' h (fun _ _ => id) (fun _ _ => id) : Keeps NoB w W) (fun _ _ => id) _ _ hu0) ((hH.keep0 hk0).keep0 h) he)
  have HE := hide (show exN c.F false (.mk 12 tx nm pl (e :: cs)) S G = match exN c.F false e S G with
    | .error f => .error f
    | .ok x => (foldE (clE c.F S) cs x.2).map (fun g => (S, g)) by
    conv => lhs; unfold exN; rw [if_neg (by decide), if_neg (by decide), if_neg (by decide), if_neg (by decide), if_neg (by decide), if_pos rfl]
    dsimp only
    cases exN c.F false e S G with
    | error f => rfl
    | ok x => exact cls_fold c.F S cs x.2)
  have F0 := hide (hk0.cell (p := ⟨b, o, none⟩) id (by simpa using f0)); have F1 := hide (hk0.cell (p := ⟨b, o + 1, none⟩) id (by simpa using f1)); have F2 := hide (hk0.cell (p := ⟨b, o + 2, none⟩) id (by simpa using f2)); have F3 := hide (hk0.cell (p := ⟨b, o + 3, none⟩) id (by simpa using f3)); have F4 := hide (hk0.cell (p := ⟨b, o + 4, none⟩) id (by simpa using f4))
  clear ht hH hr hc hroom hT hk0 b0 b1 b2 b3 hs4 hM IH hkl he hcs hr1 hu0 e0 f0 f1 f2 f3 f4 hsz hsz0 hBb
  go_enter Tryd.func62, Tryd.ntmps62
  go_wp2_with fail
  refine order_begin (fun W => Keeps NoB ((((w.alloc (.cells #[.pointer (some ⟨cb, 0, none⟩)] 49)).alloc (.cells #[.int .u8 12, .string tx, .int .i64 nm, .int .i64 pl, .slice (some ⟨b, o, none⟩) (n + 1) kc] 29)).alloc (.cells #[.map (some ms)] 52)).alloc (.cells #[.slice (some ⟨b, o, none⟩) (n + 1) kc] 27)) W) (fun i => decide (i ≠ 5)) (by kernel_rfl) 6 rfl ?_
  have HS : Keeps NoB ((((w.alloc (.cells #[.pointer (some ⟨cb, 0, none⟩)] 49)).alloc (.cells #[.int .u8 12, .string tx, .int .i64 nm, .int .i64 pl, .slice (some ⟨b, o, none⟩) (n + 1) kc] 29)).alloc (.cells #[.map (some ms)] 52)).alloc (.cells #[.slice (some ⟨b, o, none⟩) (n + 1) kc] 27)) (((((w.alloc (.cells #[.pointer (some ⟨cb, 0, none⟩)] 49)).alloc (.cells #[.int .u8 12, .string tx, .int .i64 nm, .int .i64 pl, .slice (some ⟨b, o, none⟩) (n + 1) kc] 29)).alloc (.cells #[.map (some ms)] 52)).alloc (.cells #[.slice (some ⟨b, o, none⟩) (n + 1) kc] 27))).drew := (Keeps.refl NoB _).drew
  refine order_held (i := 0) rfl (by kernel_rfl) (fun _ _ _ h => h) (.inl ⟨rfl, fun W hW => by
    have q0 : W.cell? ⟨w.heap.size, 0, none⟩ = some (.pointer (some ⟨cb, 0, none⟩)) := hW.cell id (BB0.out.cell 0)
    go_simp; rfl⟩) HS ?_
  try simp only [Act.put, List.setIfInBounds_toArray, List.set_cons_succ, List.set_cons_zero]
  refine order_held (i := 1) rfl (by kernel_rfl) (fun _ _ _ h => h) (.inl ⟨rfl, fun W hW => by
    have q0 : W.cell? ⟨w.heap.size + 1 + 1 + 1, 0, none⟩ = some (.slice (some ⟨b, o, none⟩) (n + 1) kc) := hW.cell id (BB3.out.cell 0)
    go_simp; rfl⟩) HS ?_
  try simp only [Act.put, List.setIfInBounds_toArray, List.set_cons_succ, List.set_cons_zero]
  refine order_pure (i := 2) rfl (by kernel_rfl) (fun _ _ _ h => h) (.inl ⟨rfl, fun _ => by go_simp; rfl⟩) ?_
  try simp only [Act.put, List.setIfInBounds_toArray, List.set_cons_succ, List.set_cons_zero]
  refine order_held (i := 3) rfl (by kernel_rfl) (fun _ _ _ h => h) (.inl ⟨rfl, fun W hW => by
    have q0 : W.cell? ⟨b, o, none⟩ = some (.int .u8 kd0) := hW.cell id F0.out
    have q1 : W.cell? ⟨b, o + 1, none⟩ = some (.string tx0) := hW.cell id F1.out
    have q2 : W.cell? ⟨b, o + 2, none⟩ = some (.int .i64 nm0) := hW.cell id F2.out
    have q3 : W.cell? ⟨b, o + 3, none⟩ = some (.int .i64 pl0) := hW.cell id F3.out
    have q4 : W.cell? ⟨b, o + 4, none⟩ = some (.slice ka0 kn0 kc0) := hW.cell id F4.out
    go_simp; rfl⟩) HS ?_
  try simp only [Act.put, List.setIfInBounds_toArray, List.set_cons_succ, List.set_cons_zero]
  refine order_held (i := 4) rfl (by kernel_rfl) (fun _ _ _ h => h) (.inl ⟨rfl, fun W hW => by
    have q0 : W.cell? ⟨w.heap.size + 1 + 1, 0, none⟩ = some (.map (some ms)) := hW.cell id (BB2.out.cell 0)
    go_simp; rfl⟩) HS ?_
  try simp only [Act.put, List.setIfInBounds_toArray, List.set_cons_succ, List.set_cons_zero]
  refine order_one (i := 5) rfl (by kernel_rfl) (fun K hK => ?_)
  go_simp
  refine (HEX.out _ HS).mono ?_
  rintro e' w2 ⟨hk2, hcase⟩
  have hkw2 : Keeps (fun k => k = cb ∨ k = mg) ((((w.alloc (.cells #[.pointer (some ⟨cb, 0, none⟩)] 49)).alloc (.cells #[.int .u8 12, .string tx, .int .i64 nm, .int .i64 pl, .slice (some ⟨b, o, none⟩) (n + 1) kc] 29)).alloc (.cells #[.map (some ms)] 52)).alloc (.cells #[.slice (some ⟨b, o, none⟩) (n + 1) kc] 27)) w2 := HS.trans' (fp'' := (fun k => k = cb ∨ k = mg)) hk2 (fun _ _ h => h.elim) (fun _ _ => id)
  have HKX := hide hkw2
  have HK2 := hide (HK.out.trans' (fp'' := (fun k => k = cb ∨ k = mg)) hkw2 (fun _ _ h => h.elim) (fun _ _ => id) : Keeps (fun k => k = cb ∨ k = mg) w w2)
  rcases hcase with ⟨k9, p9, hr9, he⟩ | ⟨x9, hr9, he, hx, mg2, hc2, hm2⟩
  · unfold Stops at he
    subst he
    exact ⟨rfl, HK2.out, .inl ⟨_, _, HE.out.trans (by rw [hr9]), rfl⟩⟩
  · subst he
    refine hK _ _ (fun h => absurd h (by decide)) ?_
    clear hK
    try simp only [Act.put, List.setIfInBounds_toArray, List.set_cons_succ, List.set_cons_zero]
    refine order_done (by kernel_rfl) ?_
    have hs4 : w.heap.size + 4 ≤ w2.heap.size := Nat.le_trans HS4.out hkw2.size
    have hm4 : mg2 = mg ∨ w.heap.size + 4 ≤ mg2 := hm2.imp id (fun h => Nat.le_trans HS4.out h)
    have HM4 := hide hm4
    have hn := HLT.out
    have hh2 : Here c cb mg2 ms w2 S x9.2 := ⟨hc2, HH.out.scope.keep HK2.out (fun h => h.elim HH.out.ne.1 HH.out.ne.2), ⟨HH.out.ne.1, by omega⟩, HH.out.hi⟩
    have HH2 := hide hh2
    have HQ0 := hide (hkw2.cell (p := ⟨w.heap.size, 0, none⟩) (fun (h : w.heap.size = cb ∨ w.heap.size = mg) => by omega) (BB0.out.cell 0))
    have HQ2 := hide (hkw2.cell (p := ⟨w.heap.size + 1 + 1, 0, none⟩) (fun (h : w.heap.size + 1 + 1 = cb ∨ w.heap.size + 1 + 1 = mg) => by omega) (BB2.out.cell 0))
    have HQ3 := hide (hkw2.cell (p := ⟨w.heap.size + 1 + 1 + 1, 0, none⟩) (fun (h : w.heap.size + 1 + 1 + 1 = cb ∨ w.heap.size + 1 + 1 + 1 = mg) => by omega) (BB3.out.cell 0))
    have HCC := hide (fun W (h : Keeps NoB w2 W) cc => HCL.out W c cb mg2 ms S x9.2 cs (css.drop 1) (some ⟨b, o + 1 * 5, none⟩) n cc (HRD.out.keep (HK2.out.trans' h (fun _ _ => id) (fun _ _ h => h.elim) : Keeps (fun k => k = cb ∨ k = mg) w W) HBT.out) (NodesIn.keep (HK2.out.trans' h (fun _ _ => id) (fun _ _ h => h.elim) : Keeps (fun k => k = cb ∨ k = mg) w W) HBT.out _ _ HC.out) HLN.out HRO.out (HH2.out.keep0 h) HCLS.out HSZ.out.2)
    have HE2 := hide (HE.out.trans (show _ = (foldE (clE c.F S) cs x9.2).map (fun g => (S, g)) by rw [hr9]))
    clear hk2 hkw2 hs4 hm4 hh2 hc2 hm2 hn hr9
    go_wp2_with fail
    refine order_begin (fun W => Keeps NoB w2 W) (fun i => decide (i ≠ 4)) (by kernel_rfl) 5 rfl ?_
    have HS : Keeps NoB w2 w2.drew := (Keeps.refl NoB _).drew
    refine order_held (i := 0) rfl (by kernel_rfl) (fun _ _ _ h => h) (.inl ⟨rfl, fun W hW => by
      have q0 : W.cell? ⟨w.heap.size, 0, none⟩ = some (.pointer (some ⟨cb, 0, none⟩)) := hW.cell id HQ0.out
      go_simp; rfl⟩) HS ?_
    try simp only [Act.put, List.setIfInBounds_toArray, List.set_cons_succ, List.set_cons_zero]
    refine order_held (i := 1) rfl (by kernel_rfl) (fun _ _ _ h => h) (.inl ⟨rfl, fun W hW => by
      have q0 : W.cell? ⟨w.heap.size + 1 + 1 + 1, 0, none⟩ = some (.slice (some ⟨b, o, none⟩) (n + 1) kc) := hW.cell id HQ3.out
      go_simp; rfl⟩) HS ?_
    try simp only [Act.put, List.setIfInBounds_toArray, List.set_cons_succ, List.set_cons_zero]
    refine order_pure (i := 2) rfl (by kernel_rfl) (fun _ _ _ h => h) (.inl ⟨rfl, fun _ => by go_simp; rfl⟩) ?_
    try simp only [Act.put, List.setIfInBounds_toArray, List.set_cons_succ, List.set_cons_zero]
    refine order_held (i := 3) rfl (by kernel_rfl) (fun _ _ _ h => h) (.inl ⟨rfl, fun W hW => by
      have q0 : W.cell? ⟨w.heap.size + 1 + 1, 0, none⟩ = some (.map (some ms)) := hW.cell id HQ2.out
      go_simp; rfl⟩) HS ?_
    try simp only [Act.put, List.setIfInBounds_toArray, List.set_cons_succ, List.set_cons_zero]
    refine order_one (i := 4) rfl (by kernel_rfl) (fun K hK => ?_)
    go_simp
    refine (HCC.out _ HS _).mono ?_
    rintro e' w3 ⟨hk3, hcase⟩
    have HK3 := hide ((HK2.out.trans' HS (fun _ _ => id) (fun _ _ h => h.elim) : Keeps (fun k => k = cb ∨ k = mg) w w2.drew).trans' (fp'' := (fun k => k = cb ∨ k = mg)) hk3 (fun _ _ => id) (fun i hi h => by have h2 := HM4.out; rcases h with h | h <;> first | exact .inl h | (rcases h2 with h2 | h2 <;> first | exact .inr (h.trans h2) | omega)) : Keeps (fun k => k = cb ∨ k = mg) w w3)
    rcases hcase with ⟨k9, p9, hr9, he⟩ | ⟨G3, hr9, he, mg3, hc3, hm3⟩
    · unfold Stops at he
      subst he
      exact ⟨rfl, HK3.out, .inl ⟨_, _, HE2.out.trans (by rw [hr9]; rfl), rfl⟩⟩
    · subst he
      refine hK _ _ (fun h => absurd h (by decide)) ?_
      clear hK
      try simp only [Act.put, List.setIfInBounds_toArray, List.set_cons_succ, List.set_cons_zero]
      refine order_done (by kernel_rfl) ?_
      have HC3 := hide hc3; have HM3 := hide (mg_step (HM4.out.imp id (fun h => by omega)) hm3 HK2.out.size : mg3 = mg ∨ w.heap.size ≤ mg3)
      have HX3 := hide (HE2.out.trans (show _ = (.ok (S, G3) : Res) by rw [hr9]; rfl))
      clear hk3 hr9 hc3 hm3 HS
      go_wp2_with fail
      refine bodyPost_ret (results_none rfl _ _ _) rfl ?_
      exact ⟨HK3.out, .inr ⟨(S, G3), HX3.out, rfl, rfl, mg3, HC3.out, HM3.out⟩⟩
set_option maxRecDepth 100000 in
set_option maxHeartbeats 8000000 in
theorem expr_16 (M : Nat) (IH : ∀ t : Nd, t.size ≤ M → ExprOf t) (w : World) (c : Cx) (cb mg ms : Nat) (S G : Scope) (tx : ByteArray) (nm pl : Int) (ka : Option Addr) (kn kc : Nat) (kids : List Nd) (hM : Nd.size.sizes kids ≤ M) (ht : NodeIn w (Bt c cb) false [.int .u8 16, .string tx, .int .i64 nm, .int .i64 pl, .slice ka kn kc] (.mk 16 tx nm pl kids)) (hH : Here c cb mg ms w S G) (hT : Tree c.L 0 (.mk 16 tx nm pl kids)) :
    Calls Tryd.prog 62 #[.pointer (some ⟨cb, 0, none⟩), .agg #[.int .u8 16, .string tx, .int .i64 nm, .int .i64 pl, .slice ka kn kc], .map (some ms)] w (Ends (exN c.F false (.mk 16 tx nm pl kids) S G) (fun k => k = cb ∨ k = mg) w (ExPost c cb mg w S)) := by
  obtain ⟨_, css, e0, hroom, hr, hc, hkl⟩ := ht.kidsIn
  injection e0 with _ _ _ _ e0
  subst e0
  have HLT := hide (show ms < w.heap.size ∧ cb < w.heap.size ∧ mg < w.heap.size ∧ ms ≠ cb ∧ ms ≠ mg ∧ c.hi ≤ ms ∧ c.hi ≤ mg ∧ c.hi ≤ w.heap.size from ⟨hH.scope.lt, hH.ck.blk.lt, hH.ck.gone.lt, hH.ne.1, hH.ne.2, hH.hi, hH.ck.mg, by have h1 := hH.scope.lt; have h2 := hH.hi; omega⟩)
  have HBT := hide (show ∀ k, Bt c cb k → ¬ (k = cb ∨ k = mg) from fun k h e => by have h1 := h.1; have h2 := h.2; have h3 := hH.ck.mg; omega)
  have HIT := hide (fun t (h : t.size ≤ M) => item_any M IH t h)
  have HBD := hide (body_any M HIT.out)
  have HRS := hide (rest_any M HBD.out)
  have HCL := hide (clauses_any M IH HBD.out HRS.out)
  obtain ⟨e, cs, rfl, hcl, he, hcs⟩ := hT.try'
  obtain ⟨n, rfl⟩ : ∃ n, kn = n + 1 := ⟨cs.length, by simpa using hkl.symm⟩
  have hln : cs.length = n := by simpa using hkl
  obtain ⟨b, o, kd0, tx0, nm0, pl0, ka0, kn0, kc0, t0, hA, hBb, _, e0, hsz0, hu0, f0, f1, f2, f3, f4⟩ := node_at hr hc 0 (by omega)
  obtain rfl : e = t0 := by simpa using e0
  subst hA
  have hk0 : Keeps NoB w ((((w.alloc (.cells #[.pointer (some ⟨cb, 0, none⟩)] 49)).alloc (.cells #[.int .u8 16, .string tx, .int .i64 nm, .int .i64 pl, .slice (some ⟨b, o, none⟩) (n + 1) kc] 29)).alloc (.cells #[.map (some ms)] 52)).alloc (.cells #[.slice (some ⟨b, o, none⟩) (n + 1) kc] 27)) := ((((Keeps.refl NoB w).alloc _).alloc _).alloc _).alloc _
  obtain ⟨b0, b1, b2, b3, hs4⟩ := four_blks w 49 29 52 27 #[.pointer (some ⟨cb, 0, none⟩)] #[.int .u8 16, .string tx, .int .i64 nm, .int .i64 pl, .slice (some ⟨b, o, none⟩) (n + 1) kc] #[.map (some ms)] #[.slice (some ⟨b, o, none⟩) (n + 1) kc]
  have BB0 := hide b0; have BB1 := hide b1; have BB2 := hide b2; have BB3 := hide b3; have HS4 := hide (Nat.le_of_eq hs4.symm)
  have HK := hide hk0; have HIH := hide IH; have HH := hide hH; have HM := hide hM
  have hkcn : ¬ kc = 1 := by have := hroom.2; omega
  have hkci : (n : Int) + 1 ≤ (kc : Int) := by have := hroom.2; omega
  have hn1i : (1 : Int) ≤ (n : Int) + 1 := by omega
  have hnm : n + 1 ≤ 9223372036854775807 := by have := hroom.1.len (by omega); unfold maxLen at this; exact this
  have hr1 := hr.from' hc.lens.2 (i := 1) (c := kc) (by omega) hroom.2
  rw [if_neg hkcn, Nat.add_sub_cancel] at hr1
  have HRD := hide hr1; have HC := hide (show NodesIn w (Bt c cb) false (css.drop 1) cs from NodesIn.drop 1 hc); have HLN := hide hln; have HRO := hide (hroom.1.of_le (show n ≤ n + 1 by omega))
  have hsz : e.size ≤ M ∧ Nd.size.sizes cs ≤ M := by simp only [Nd.size.sizes] at hM; omega
  have HSZ := hide hsz
  have HCLS := hide (fun t ht => (hcs t ht).clOk (by omega) : ∀ t ∈ cs, ClOk c.L t)
  obtain ⟨dkids, dcss, ed, hdro, hdr, hdn, hdl⟩ := hu0.kidsIn
  have hek : e.kids = dkids := by rw [ed]; rfl
  have hbk : ∀ x ∈ e.kids, Tree c.L 0 x := fun x hx => ⟨okN_kids he.ok x hx, okM_body he.may x hx, namesIn_kids he.names x hx⟩
  have hdm : Nd.size.sizes e.kids ≤ M := by have h2 : Nd.size.sizes e.kids < e.size := by { cases e; simp only [Nd.kids, Nd.size]; omega }; omega
  rw [← hek] at hdl hdn
  have f4' := hk0.cell (p := ⟨b, o + 4, none⟩) id (by simpa using f4)
  have HI := hide (inner_78 c ((((w.alloc (.cells #[.pointer (some ⟨cb, 0, none⟩)] 49)).alloc (.cells #[.int .u8 16, .string tx, .int .i64 nm, .int .i64 pl, .slice (some ⟨b, o, none⟩) (n + 1) kc] 29)).alloc (.cells #[.map (some ms)] 52)).alloc (.cells #[.slice (some ⟨b, o, none⟩) (n + 1) kc] 27)) cb mg ms S G ⟨w.heap.size, 0, none⟩ ⟨w.heap.size + 1 + 1 + 1, 0, none⟩ (exsN c.F true e.kids S G) (hH.keep0 hk0).ck (hH.keep0 hk0).scope hH.ne (fun W mo hk hmo hs hcc => own78 W c cb mg mo w.heap.size (w.heap.size + 1 + 1 + 1) b o (n + 1) kc ka0 kn0 kc0 _ (hk.cell id (b0.cell 0)) (hk.cell id (b3.cell 0)) (by omega) (hk.cell id f4') (fun W' hk' => HBD.out W' c cb mg mo S G e.kids dcss ka0 kn0 kc0
    (hdr.keep (hk0.trans' (hk.trans' hk' (fun _ _ => id) (fun _ _ => id) : Keeps NoB ((((w.alloc (.cells #[.pointer (some ⟨cb, 0, none⟩)] 49)).alloc (.cells #[.int .u8 16, .string tx, .int .i64 nm, .int .i64 pl, .slice (some ⟨b, o, none⟩) (n + 1) kc] 29)).alloc (.cells #[.map (some ms)] 52)).alloc (.cells #[.slice (some ⟨b, o, none⟩) (n + 1) kc] 27)) W') (fun _ _ => id) (fun _ _ => id) : Keeps NoB w W') (fun _ _ => id)) (NodesIn.keep (hk0.trans' (hk.trans' hk' (fun _ _ => id) (fun _ _ => id) : Keeps NoB ((((w.alloc (.cells #[.pointer (some ⟨cb, 0, none⟩)] 49)).alloc (.cells #[.int .u8 16, .string tx, .int .i64 nm, .int .i64 pl, .slice (some ⟨b, o, none⟩) (n + 1) kc] 29)).alloc (.cells #[.map (some ms)] 52)).alloc (.cells #[.slice (some ⟨b, o, none⟩) (n + 1) kc] 27)) W') (fun _ _ => id) (fun _ _ => id) : Keeps NoB w W') (fun _ _ => id) _ _ hdn) hdl hdro.1 ((Here.own hcc hs hmo (hH.keep0 hk0).ck.gone.lt).keep0 hk') hbk hdm)))
  have HE := hide (show exN c.F false (.mk 16 tx nm pl (e :: cs)) S G = match innerR S (exsN c.F true e.kids S G) with
    | .error f => .error f
    | .ok g => (foldE (clE c.F S) cs g).map (fun g => (S, g)) by
    conv => lhs; unfold exN; rw [if_neg (by decide), if_neg (by decide), if_neg (by decide), if_neg (by decide), if_neg (by decide), if_neg (by decide), if_neg (by decide), if_pos rfl]
    dsimp only
    rw [bodyK_eq]
    cases exsN c.F true e.kids S G with
    | error f => rfl
    | ok x => exact cls_fold c.F S cs (goneS S x.1 x.2))
  clear ht hH hr hc hroom hT hk0 b0 b1 b2 b3 hs4 hM IH hkl he hcs hr1 hu0 e0 f0 f1 f2 f3 f4 hsz hsz0 hBb hbk hdm hdr hdn hdl hdro hek ed f4'
  have q0 := BB0.out.cell 0; have q2 := BB2.out.cell 0; have q3 := BB3.out.cell 0
  go_enter Tryd.func62, Tryd.ntmps62
  go_wp2_with
    first
    | (go_at_call 77
       refine HI.out.mono ?_
       rintro e w2 ⟨hk2, hcase⟩
       have HK2 := hide (HK.out.trans' (fp'' := (fun k => k = cb ∨ k = mg)) hk2 (fun _ _ h => h.elim) (fun _ _ => id) : Keeps (fun k => k = cb ∨ k = mg) w w2)
       rcases hcase with ⟨k9, p9, hr9, he⟩ | ⟨x9, hr9, he, mg2, hc2, hm2⟩
       all_goals first
         | (have HX := hide (HE.out.trans (show _ = (.error (k9, p9) : Res) by rw [hr9]))
            unfold Stops at he
            subst he
            clear hk2 hr9 HI)
         | (have HMQ := hide hm2; have HCQ := hide hc2; have HRQ := hide hr9
            have HKQ := hide hk2
            subst he
            clear hk2 hr9 hm2 hc2 HI))
    | fail
  · exact ⟨rfl, HK2.out, .inl ⟨_, _, HX.out, rfl⟩⟩
  · have hkw2 := HKQ.out; have hm2 := HMQ.out; have hc2 := HCQ.out; have hr9 := HRQ.out; have hk2 := HKQ.out
    have hs4 : w.heap.size + 4 ≤ w2.heap.size := Nat.le_trans HS4.out hkw2.size
    have hm4 : mg2 = mg ∨ w.heap.size + 4 ≤ mg2 := hm2.imp id (fun h => Nat.le_trans HS4.out h)
    have HM4 := hide hm4
    have hn := HLT.out
    have hh2 : Here c cb mg2 ms w2 S x9 := ⟨hc2, HH.out.scope.keep HK2.out (fun h => h.elim HH.out.ne.1 HH.out.ne.2), ⟨HH.out.ne.1, by omega⟩, HH.out.hi⟩
    have HH2 := hide hh2
    have HQ0 := hide (hkw2.cell (p := ⟨w.heap.size, 0, none⟩) (fun (h : w.heap.size = cb ∨ w.heap.size = mg) => by omega) (BB0.out.cell 0))
    have HQ2 := hide (hkw2.cell (p := ⟨w.heap.size + 1 + 1, 0, none⟩) (fun (h : w.heap.size + 1 + 1 = cb ∨ w.heap.size + 1 + 1 = mg) => by omega) (BB2.out.cell 0))
    have HQ3 := hide (hkw2.cell (p := ⟨w.heap.size + 1 + 1 + 1, 0, none⟩) (fun (h : w.heap.size + 1 + 1 + 1 = cb ∨ w.heap.size + 1 + 1 + 1 = mg) => by omega) (BB3.out.cell 0))
    have HCC := hide (fun W (h : Keeps NoB w2 W) cc => HCL.out W c cb mg2 ms S x9 cs (css.drop 1) (some ⟨b, o + 1 * 5, none⟩) n cc (HRD.out.keep (HK2.out.trans' h (fun _ _ => id) (fun _ _ h => h.elim) : Keeps (fun k => k = cb ∨ k = mg) w W) HBT.out) (NodesIn.keep (HK2.out.trans' h (fun _ _ => id) (fun _ _ h => h.elim) : Keeps (fun k => k = cb ∨ k = mg) w W) HBT.out _ _ HC.out) HLN.out HRO.out (HH2.out.keep0 h) HCLS.out HSZ.out.2)
    have HE2 := hide (HE.out.trans (show _ = (foldE (clE c.F S) cs x9).map (fun g => (S, g)) by rw [hr9]))
    clear hk2 hkw2 hs4 hm4 hh2 hc2 hm2 hn hr9
    go_wp2_with fail
    refine order_begin (fun W => Keeps NoB w2 W) (fun i => decide (i ≠ 4)) (by kernel_rfl) 5 rfl ?_
    have HS : Keeps NoB w2 w2.drew := (Keeps.refl NoB _).drew
    refine order_held (i := 0) rfl (by kernel_rfl) (fun _ _ _ h => h) (.inl ⟨rfl, fun W hW => by
      have q0 : W.cell? ⟨w.heap.size, 0, none⟩ = some (.pointer (some ⟨cb, 0, none⟩)) := hW.cell id HQ0.out
      go_simp; rfl⟩) HS ?_
    try simp only [Act.put, List.setIfInBounds_toArray, List.set_cons_succ, List.set_cons_zero]
    refine order_held (i := 1) rfl (by kernel_rfl) (fun _ _ _ h => h) (.inl ⟨rfl, fun W hW => by
      have q0 : W.cell? ⟨w.heap.size + 1 + 1 + 1, 0, none⟩ = some (.slice (some ⟨b, o, none⟩) (n + 1) kc) := hW.cell id HQ3.out
      go_simp; rfl⟩) HS ?_
    try simp only [Act.put, List.setIfInBounds_toArray, List.set_cons_succ, List.set_cons_zero]
    refine order_pure (i := 2) rfl (by kernel_rfl) (fun _ _ _ h => h) (.inl ⟨rfl, fun _ => by go_simp; rfl⟩) ?_
    try simp only [Act.put, List.setIfInBounds_toArray, List.set_cons_succ, List.set_cons_zero]
    refine order_held (i := 3) rfl (by kernel_rfl) (fun _ _ _ h => h) (.inl ⟨rfl, fun W hW => by
      have q0 : W.cell? ⟨w.heap.size + 1 + 1, 0, none⟩ = some (.map (some ms)) := hW.cell id HQ2.out
      go_simp; rfl⟩) HS ?_
    try simp only [Act.put, List.setIfInBounds_toArray, List.set_cons_succ, List.set_cons_zero]
    refine order_one (i := 4) rfl (by kernel_rfl) (fun K hK => ?_)
    go_simp
    refine (HCC.out _ HS _).mono ?_
    rintro e' w3 ⟨hk3, hcase⟩
    have HK3 := hide ((HK2.out.trans' HS (fun _ _ => id) (fun _ _ h => h.elim) : Keeps (fun k => k = cb ∨ k = mg) w w2.drew).trans' (fp'' := (fun k => k = cb ∨ k = mg)) hk3 (fun _ _ => id) (fun i hi h => by have h2 := HM4.out; rcases h with h | h <;> first | exact .inl h | (rcases h2 with h2 | h2 <;> first | exact .inr (h.trans h2) | omega)) : Keeps (fun k => k = cb ∨ k = mg) w w3)
    rcases hcase with ⟨k9, p9, hr9, he⟩ | ⟨G3, hr9, he, mg3, hc3, hm3⟩
    · unfold Stops at he
      subst he
      exact ⟨rfl, HK3.out, .inl ⟨_, _, HE2.out.trans (by rw [hr9]; rfl), rfl⟩⟩
    · subst he
      refine hK _ _ (fun h => absurd h (by decide)) ?_
      clear hK
      try simp only [Act.put, List.setIfInBounds_toArray, List.set_cons_succ, List.set_cons_zero]
      refine order_done (by kernel_rfl) ?_
      have HC3 := hide hc3; have HM3 := hide (mg_step (HM4.out.imp id (fun h => by omega)) hm3 HK2.out.size : mg3 = mg ∨ w.heap.size ≤ mg3)
      have HX3 := hide (HE2.out.trans (show _ = (.ok (S, G3) : Res) by rw [hr9]; rfl))
      clear hk3 hr9 hc3 hm3 HS
      go_wp2_with fail
      refine bodyPost_ret (results_none rfl _ _ _) rfl ?_
      exact ⟨HK3.out, .inr ⟨(S, G3), HX3.out, rfl, rfl, mg3, HC3.out, HM3.out⟩⟩
set_option maxRecDepth 100000 in
set_option maxHeartbeats 8000000 in
theorem expr_17 (M : Nat) (IH : ∀ t : Nd, t.size ≤ M → ExprOf t) (w : World) (c : Cx) (cb mg ms : Nat) (S G : Scope) (tx : ByteArray) (nm pl : Int) (ka : Option Addr) (kn kc : Nat) (kids : List Nd) (hM : Nd.size.sizes kids ≤ M) (ht : NodeIn w (Bt c cb) false [.int .u8 17, .string tx, .int .i64 nm, .int .i64 pl, .slice ka kn kc] (.mk 17 tx nm pl kids)) (hH : Here c cb mg ms w S G) (hT : Tree c.L 0 (.mk 17 tx nm pl kids)) :
    Calls Tryd.prog 62 #[.pointer (some ⟨cb, 0, none⟩), .agg #[.int .u8 17, .string tx, .int .i64 nm, .int .i64 pl, .slice ka kn kc], .map (some ms)] w (Ends (exN c.F false (.mk 17 tx nm pl kids) S G) (fun k => k = cb ∨ k = mg) w (ExPost c cb mg w S)) := by
  obtain ⟨_, css, e0, hroom, hr, hc, hkl⟩ := ht.kidsIn
  injection e0 with _ _ _ _ e0
  subst e0
  have HLT := hide (show ms < w.heap.size ∧ cb < w.heap.size ∧ mg < w.heap.size ∧ ms ≠ cb ∧ ms ≠ mg ∧ c.hi ≤ ms ∧ c.hi ≤ mg ∧ c.hi ≤ w.heap.size from ⟨hH.scope.lt, hH.ck.blk.lt, hH.ck.gone.lt, hH.ne.1, hH.ne.2, hH.hi, hH.ck.mg, by have h1 := hH.scope.lt; have h2 := hH.hi; omega⟩)
  have HBT := hide (show ∀ k, Bt c cb k → ¬ (k = cb ∨ k = mg) from fun k h e => by have h1 := h.1; have h2 := h.2; have h3 := hH.ck.mg; omega)
  have HIT := hide (fun t (h : t.size ≤ M) => item_any M IH t h)
  have HBD := hide (body_any M HIT.out)
  have HRS := hide (rest_any M HBD.out)
  have HCL := hide (clauses_any M IH HBD.out HRS.out)
  obtain ⟨e, cs, rfl, hcl, he, hcs⟩ := hT.comp'
  obtain ⟨n, rfl⟩ : ∃ n, kn = n + 1 := ⟨cs.length, by simpa using hkl.symm⟩
  have hln : cs.length = n := by simpa using hkl
  obtain ⟨b, o, kd0, tx0, nm0, pl0, ka0, kn0, kc0, t0, hA, hBb, _, e0, hsz0, hu0, f0, f1, f2, f3, f4⟩ := node_at hr hc 0 (by omega)
  obtain rfl : e = t0 := by simpa using e0
  subst hA
  have hk0 : Keeps NoB w ((((w.alloc (.cells #[.pointer (some ⟨cb, 0, none⟩)] 49)).alloc (.cells #[.int .u8 17, .string tx, .int .i64 nm, .int .i64 pl, .slice (some ⟨b, o, none⟩) (n + 1) kc] 29)).alloc (.cells #[.map (some ms)] 52)).alloc (.cells #[.slice (some ⟨b, o, none⟩) (n + 1) kc] 27)) := ((((Keeps.refl NoB w).alloc _).alloc _).alloc _).alloc _
  obtain ⟨b0, b1, b2, b3, hs4⟩ := four_blks w 49 29 52 27 #[.pointer (some ⟨cb, 0, none⟩)] #[.int .u8 17, .string tx, .int .i64 nm, .int .i64 pl, .slice (some ⟨b, o, none⟩) (n + 1) kc] #[.map (some ms)] #[.slice (some ⟨b, o, none⟩) (n + 1) kc]
  have BB0 := hide b0; have BB1 := hide b1; have BB2 := hide b2; have BB3 := hide b3; have HS4 := hide (Nat.le_of_eq hs4.symm)
  have HK := hide hk0; have HIH := hide IH; have HH := hide hH; have HM := hide hM
  have hkcn : ¬ kc = 1 := by have := hroom.2; omega
  have hkci : (n : Int) + 1 ≤ (kc : Int) := by have := hroom.2; omega
  have hn1i : (1 : Int) ≤ (n : Int) + 1 := by omega
  have hnm : n + 1 ≤ 9223372036854775807 := by have := hroom.1.len (by omega); unfold maxLen at this; exact this
  have hpp : w.heap.size ≠ cb ∧ w.heap.size ≠ mg ∧ w.heap.size + 1 + 1 + 1 ≠ cb ∧ w.heap.size + 1 + 1 + 1 ≠ mg ∧ w.heap.size + 1 + 1 ≠ cb ∧ w.heap.size + 1 + 1 ≠ mg := by have h := HLT.out; omega
  have HI := hide (apart_80 c ((((w.alloc (.cells #[.pointer (some ⟨cb, 0, none⟩)] 49)).alloc (.cells #[.int .u8 17, .string tx, .int .i64 nm, .int .i64 pl, .slice (some ⟨b, o, none⟩) (n + 1) kc] 29)).alloc (.cells #[.map (some ms)] 52)).alloc (.cells #[.slice (some ⟨b, o, none⟩) (n + 1) kc] 27)) cb mg G ⟨w.heap.size + 1 + 1, 0, none⟩ ⟨w.heap.size + 1 + 1 + 1, 0, none⟩ ⟨w.heap.size, 0, none⟩ (compR c.F e cs S G) (hH.keep0 hk0).ck (fun W hk hcc => own80 M IH W c cb mg ms w.heap.size (w.heap.size + 1 + 1 + 1) (w.heap.size + 1 + 1) S G e cs css b o n kc (hk.cell id (b0.cell 0)) (hk.cell id (b3.cell 0)) (hk.cell id (b2.cell 0)) hpp
    (hr.keep (hk0.trans' hk (fun _ _ => id) (fun _ _ => id) : Keeps NoB w W) (fun _ _ => id)) (NodesIn.keep (hk0.trans' hk (fun _ _ => id) (fun _ _ => id) : Keeps NoB w W) (fun _ _ => id) _ _ hc) hln hroom.1 hroom.2 (by omega) ((hH.keep0 hk0).keep0 hk) he (fun t ht => (hcs t ht).quOk) hM))
  have HE := hide (show exN c.F false (.mk 17 tx nm pl (e :: cs)) S G = (compR c.F e cs S G).map (fun _ => (S, G)) by
    conv => lhs; unfold exN; rw [if_neg (by decide), if_neg (by decide), if_neg (by decide), if_neg (by decide), if_neg (by decide), if_neg (by decide), if_neg (by decide), if_neg (by decide), if_neg (by decide), if_pos rfl]
    dsimp only
    unfold compR
    rw [qua_fold]
    cases foldE (quE c.F) cs (S, G) with
    | error f => rfl
    | ok x =>
      dsimp only
      cases exN c.F false e x.1 x.2 with
      | error f => rfl
      | ok y => rfl)
  clear ht hH hr hc hroom hT hk0 b0 b1 b2 b3 hs4 hM IH hkl he hcs hu0 e0 f0 f1 f2 f3 f4 hsz0 hBb hpp
  have q0 := BB0.out.cell 0; have q2 := BB2.out.cell 0; have q3 := BB3.out.cell 0
  go_enter Tryd.func62, Tryd.ntmps62
  go_wp2_with
    first
    | (go_at_call 74
       refine HI.out.mono ?_
       rintro e w2 ⟨hk2, hcase⟩
       have HK2 := hide (HK.out.trans' (fp'' := (fun k => k = cb ∨ k = mg)) hk2 (fun _ _ h => h.elim) (fun _ _ => id) : Keeps (fun k => k = cb ∨ k = mg) w w2)
       rcases hcase with ⟨k9, p9, hr9, he⟩ | ⟨x9, hr9, he, mg2, hc2, hm2⟩
       all_goals have HX := hide (HE.out.trans (by rw [hr9]))
       all_goals first
         | (unfold Stops at he
            subst he
            clear hk2 hr9 HI)
         | (have HM2 := hide (hm2.imp id (fun h => Nat.le_trans HK.out.size h)); have HC2 := hide hc2
            subst he
            clear hk2 hr9 HI))
    | fail
  · exact ⟨rfl, HK2.out, .inl ⟨_, _, HX.out, rfl⟩⟩
  · refine bodyPost_ret (results_none rfl _ _ _) rfl ?_
    exact ⟨HK2.out, .inr ⟨(S, _), HX.out, rfl, rfl, mg2, HC2.out, HM2.out⟩⟩
set_option maxRecDepth 100000 in
set_option maxHeartbeats 8000000 in
theorem expr_10 (M : Nat) (IH : ∀ t : Nd, t.size ≤ M → ExprOf t) (w : World) (c : Cx) (cb mg ms : Nat) (S G : Scope) (tx : ByteArray) (nm pl : Int) (ka : Option Addr) (kn kc : Nat) (kids : List Nd) (hM : Nd.size.sizes kids ≤ M) (ht : NodeIn w (Bt c cb) false [.int .u8 10, .string tx, .int .i64 nm, .int .i64 pl, .slice ka kn kc] (.mk 10 tx nm pl kids)) (hH : Here c cb mg ms w S G) (hT : Tree c.L 0 (.mk 10 tx nm pl kids)) :
    Calls Tryd.prog 62 #[.pointer (some ⟨cb, 0, none⟩), .agg #[.int .u8 10, .string tx, .int .i64 nm, .int .i64 pl, .slice ka kn kc], .map (some ms)] w (Ends (exN c.F false (.mk 10 tx nm pl kids) S G) (fun k => k = cb ∨ k = mg) w (ExPost c cb mg w S)) := by
  obtain ⟨_, css, e0, hroom, hr, hc, hkl⟩ := ht.kidsIn
  injection e0 with _ _ _ _ e0
  subst e0
  have HLT := hide (show ms < w.heap.size ∧ cb < w.heap.size ∧ mg < w.heap.size ∧ ms ≠ cb ∧ ms ≠ mg ∧ c.hi ≤ ms ∧ c.hi ≤ mg ∧ c.hi ≤ w.heap.size from ⟨hH.scope.lt, hH.ck.blk.lt, hH.ck.gone.lt, hH.ne.1, hH.ne.2, hH.hi, hH.ck.mg, by have h1 := hH.scope.lt; have h2 := hH.hi; omega⟩)
  have HBT := hide (show ∀ k, Bt c cb k → ¬ (k = cb ∨ k = mg) from fun k h e => by have h1 := h.1; have h2 := h.2; have h3 := hH.ck.mg; omega)
  have HIT := hide (fun t (h : t.size ≤ M) => item_any M IH t h)
  have HBD := hide (body_any M HIT.out)
  have HRS := hide (rest_any M HBD.out)
  have HCL := hide (clauses_any M IH HBD.out HRS.out)
  obtain ⟨h1k, hcs⟩ := hT.fun'
  have hcl : ∀ t ∈ kids, ∃ p g d, Clause c.L t p g d := fun t ht => (hcs t ht).clause (by omega)
  obtain ⟨n, rfl⟩ : ∃ n, kn = n + 1 := ⟨kn - 1, by omega⟩
  obtain ⟨b, o, kd0, tx0, nm0, pl0, ka0, kn0, kc0, t0, hA, hBb, _, e0, hsz0, hu0, f0, f1, f2, f3, f4⟩ := node_at hr hc 0 (by omega)
  subst hA
  obtain ⟨p0, g0, d0, hcl0⟩ := hcl t0 (List.mem_of_getElem? e0)
  obtain ⟨b2', o2, rfl, hBb2, hbl2, rfl, ⟨pa, pn, pc, pcs, p4, pr, pni, pnl, pro⟩, _, _⟩ := three_at kd0 tx0 nm0 pl0 ka0 kn0 kc0 hu0 hcl0.kids
  have hk0 : Keeps NoB w ((((w.alloc (.cells #[.pointer (some ⟨cb, 0, none⟩)] 49)).alloc (.cells #[.int .u8 10, .string tx, .int .i64 nm, .int .i64 pl, .slice (some ⟨b, o, none⟩) (n + 1) kc] 29)).alloc (.cells #[.map (some ms)] 52)).alloc (.cells #[.slice (some ⟨b, o, none⟩) (n + 1) kc] 27)) := ((((Keeps.refl NoB w).alloc _).alloc _).alloc _).alloc _
  obtain ⟨b0, b1, b2, b3, hs4⟩ := four_blks w 49 29 52 27 #[.pointer (some ⟨cb, 0, none⟩)] #[.int .u8 10, .string tx, .int .i64 nm, .int .i64 pl, .slice (some ⟨b, o, none⟩) (n + 1) kc] #[.map (some ms)] #[.slice (some ⟨b, o, none⟩) (n + 1) kc]
  have BB0 := hide b0; have BB1 := hide b1; have BB2 := hide b2; have BB3 := hide b3; have HS4 := hide (Nat.le_of_eq hs4.symm)
  have HK := hide hk0; have HIH := hide IH; have HH := hide hH; have HM := hide hM
  have hn1i : (0 : Int) < (n : Int) + 1 := by omega
  have hnm : n + 1 ≤ 9223372036854775807 := by have := hroom.1.len (by omega); unfold maxLen at this; exact this
  have hfn : firstN (kids.headD (.mk 10 tx nm pl kids)) = pn := by
    match kids, e0 with
    | t :: ts, e0 =>
      obtain rfl : t = t0 := by simpa using e0
      simp only [List.headD_cons]
      unfold firstN
      rw [hcl0.kids]
      exact pnl
  have hpp : w.heap.size ≠ cb ∧ w.heap.size ≠ mg ∧ w.heap.size + 1 + 1 + 1 ≠ cb ∧ w.heap.size + 1 + 1 + 1 ≠ mg ∧ w.heap.size + 1 + 1 ≠ cb ∧ w.heap.size + 1 + 1 ≠ mg := by have h := HLT.out; omega
  have HAR := hide (fun W (h : Keeps NoB ((((w.alloc (.cells #[.pointer (some ⟨cb, 0, none⟩)] 49)).alloc (.cells #[.int .u8 10, .string tx, .int .i64 nm, .int .i64 pl, .slice (some ⟨b, o, none⟩) (n + 1) kc] 29)).alloc (.cells #[.map (some ms)] 52)).alloc (.cells #[.slice (some ⟨b, o, none⟩) (n + 1) kc] 27)) W) => arities_any W (Bt c cb) false kids css (some ⟨b, o, none⟩) (n + 1) kc (pn : Int) (hr.keep (hk0.trans' h (fun _ _ => id) (fun _ _ => id) : Keeps NoB w W) (fun _ _ => id)) (NodesIn.keep (hk0.trans' h (fun _ _ => id) (fun _ _ => id) : Keeps NoB w W) (fun _ _ => id) _ _ hc) hkl hroom.1 (fun t ht => by obtain ⟨p, g, d, h⟩ := hcl t ht; rw [h.kids]; simp))
  have HAP := hide (fun W' (hk' : Keeps NoB ((((w.alloc (.cells #[.pointer (some ⟨cb, 0, none⟩)] 49)).alloc (.cells #[.int .u8 10, .string tx, .int .i64 nm, .int .i64 pl, .slice (some ⟨b, o, none⟩) (n + 1) kc] 29)).alloc (.cells #[.map (some ms)] 52)).alloc (.cells #[.slice (some ⟨b, o, none⟩) (n + 1) kc] 27)) W') => apart_75 c W' cb mg G ⟨w.heap.size + 1 + 1 + 1, 0, none⟩ ⟨w.heap.size, 0, none⟩ ⟨w.heap.size + 1 + 1, 0, none⟩ (foldE (fnE c.F S) kids G) ((hH.keep0 hk0).keep0 hk').ck (fun W hk2 hcc => own75 M HRS.out W c cb mg ms w.heap.size (w.heap.size + 1 + 1 + 1) (w.heap.size + 1 + 1) S G kids css (some ⟨b, o, none⟩) (n + 1) kc
    ((hk'.trans' hk2 (fun _ _ => id) (fun _ _ => id) : Keeps NoB ((((w.alloc (.cells #[.pointer (some ⟨cb, 0, none⟩)] 49)).alloc (.cells #[.int .u8 10, .string tx, .int .i64 nm, .int .i64 pl, .slice (some ⟨b, o, none⟩) (n + 1) kc] 29)).alloc (.cells #[.map (some ms)] 52)).alloc (.cells #[.slice (some ⟨b, o, none⟩) (n + 1) kc] 27)) W).cell id (b0.cell 0)) ((hk'.trans' hk2 (fun _ _ => id) (fun _ _ => id) : Keeps NoB ((((w.alloc (.cells #[.pointer (some ⟨cb, 0, none⟩)] 49)).alloc (.cells #[.int .u8 10, .string tx, .int .i64 nm, .int .i64 pl, .slice (some ⟨b, o, none⟩) (n + 1) kc] 29)).alloc (.cells #[.map (some ms)] 52)).alloc (.cells #[.slice (some ⟨b, o, none⟩) (n + 1) kc] 27)) W).cell id (b3.cell 0)) ((hk'.trans' hk2 (fun _ _ => id) (fun _ _ => id) : Keeps NoB ((((w.alloc (.cells #[.pointer (some ⟨cb, 0, none⟩)] 49)).alloc (.cells #[.int .u8 10, .string tx, .int .i64 nm, .int .i64 pl, .slice (some ⟨b, o, none⟩) (n + 1) kc] 29)).alloc (.cells #[.map (some ms)] 52)).alloc (.cells #[.slice (some ⟨b, o, none⟩) (n + 1) kc] 27)) W).cell id (b2.cell 0)) hpp
    (hr.keep (hk0.trans' (hk'.trans' hk2 (fun _ _ => id) (fun _ _ => id) : Keeps NoB ((((w.alloc (.cells #[.pointer (some ⟨cb, 0, none⟩)] 49)).alloc (.cells #[.int .u8 10, .string tx, .int .i64 nm, .int .i64 pl, .slice (some ⟨b, o, none⟩) (n + 1) kc] 29)).alloc (.cells #[.map (some ms)] 52)).alloc (.cells #[.slice (some ⟨b, o, none⟩) (n + 1) kc] 27)) W) (fun _ _ => id) (fun _ _ => id) : Keeps NoB w W) (fun _ _ => id)) (NodesIn.keep (hk0.trans' (hk'.trans' hk2 (fun _ _ => id) (fun _ _ => id) : Keeps NoB ((((w.alloc (.cells #[.pointer (some ⟨cb, 0, none⟩)] 49)).alloc (.cells #[.int .u8 10, .string tx, .int .i64 nm, .int .i64 pl, .slice (some ⟨b, o, none⟩) (n + 1) kc] 29)).alloc (.cells #[.map (some ms)] 52)).alloc (.cells #[.slice (some ⟨b, o, none⟩) (n + 1) kc] 27)) W) (fun _ _ => id) (fun _ _ => id) : Keeps NoB w W) (fun _ _ => id) _ _ hc) hkl hroom.1 (((hH.keep0 hk0).keep0 hk').keep0 hk2) hcl hM))
  have HE := hide (show exN c.F false (.mk 10 tx nm pl kids) S G = match arityN kids pn with
    | .error f => .error f
    | .ok _ => (foldE (fnE c.F S) kids G).map (fun _ => (S, G)) by
    conv => lhs; unfold exN; rw [if_neg (by decide), if_neg (by decide), if_neg (by decide), if_neg (by decide), if_pos rfl, hfn]
    cases arityN kids pn with
    | error f => rfl
    | ok u =>
      dsimp only
      rw [funs_fold]
      show _ = (foldE (fnE c.F S) kids G).map (fun _ => (S, G))
      change (match ((foldE (fnE c.F S) kids G).map (fun g => (S, g)) : Res) with
        | .error f => (.error f : Res)
        | .ok _ => .ok (S, G)) = _
      cases foldE (fnE c.F S) kids G with
      | error f => rfl
      | ok y => rfl)
  have F4 := hide (hk0.cell (p := ⟨b, o + 4, none⟩) id (by simpa using f4)); have P4 := hide (hk0.cell (p := ⟨b2', o2 + 4, none⟩) id p4)
  clear ht hH hr hc hroom hT hk0 b0 b1 b2 b3 hs4 hM IH hkl hcs hcl hcl0 hu0 e0 f0 f1 f2 f3 f4 hsz0 hBb hBb2 hbl2 hpp p4 pr pni pnl pro hfn
  go_enter Tryd.func62, Tryd.ntmps62
  go_wp2_with fail
  refine order_begin (fun W => Keeps NoB ((((w.alloc (.cells #[.pointer (some ⟨cb, 0, none⟩)] 49)).alloc (.cells #[.int .u8 10, .string tx, .int .i64 nm, .int .i64 pl, .slice (some ⟨b, o, none⟩) (n + 1) kc] 29)).alloc (.cells #[.map (some ms)] 52)).alloc (.cells #[.slice (some ⟨b, o, none⟩) (n + 1) kc] 27)) W) (fun _ => true) (by kernel_rfl) 10 rfl ?_
  have HS : Keeps NoB ((((w.alloc (.cells #[.pointer (some ⟨cb, 0, none⟩)] 49)).alloc (.cells #[.int .u8 10, .string tx, .int .i64 nm, .int .i64 pl, .slice (some ⟨b, o, none⟩) (n + 1) kc] 29)).alloc (.cells #[.map (some ms)] 52)).alloc (.cells #[.slice (some ⟨b, o, none⟩) (n + 1) kc] 27)) (((((w.alloc (.cells #[.pointer (some ⟨cb, 0, none⟩)] 49)).alloc (.cells #[.int .u8 10, .string tx, .int .i64 nm, .int .i64 pl, .slice (some ⟨b, o, none⟩) (n + 1) kc] 29)).alloc (.cells #[.map (some ms)] 52)).alloc (.cells #[.slice (some ⟨b, o, none⟩) (n + 1) kc] 27))).drew := (Keeps.refl NoB _).drew
  refine order_held (i := 0) rfl (by kernel_rfl) (fun _ _ _ h => h) (.inl ⟨rfl, fun W hW => by
    have q0 : W.cell? ⟨w.heap.size + 1 + 1 + 1, 0, none⟩ = some (.slice (some ⟨b, o, none⟩) (n + 1) kc) := hW.cell id (BB3.out.cell 0)
    go_simp; rfl⟩) HS ?_
  try simp only [Act.put, List.setIfInBounds_toArray, List.set_cons_succ, List.set_cons_zero]
  refine order_held (i := 1) rfl (by kernel_rfl) (fun _ _ _ h => h) (.inl ⟨rfl, fun W hW => by
    have q0 : W.cell? ⟨w.heap.size + 1 + 1 + 1, 0, none⟩ = some (.slice (some ⟨b, o, none⟩) (n + 1) kc) := hW.cell id (BB3.out.cell 0)
    go_simp; rfl⟩) HS ?_
  try simp only [Act.put, List.setIfInBounds_toArray, List.set_cons_succ, List.set_cons_zero]
  refine order_pure (i := 2) rfl (by kernel_rfl) (fun _ _ _ h => h) (.inl ⟨rfl, fun _ => by go_simp; rfl⟩) ?_
  try simp only [Act.put, List.setIfInBounds_toArray, List.set_cons_succ, List.set_cons_zero]
  refine order_pure (i := 3) rfl (by kernel_rfl) (fun _ _ _ h => h) (.inl ⟨rfl, fun _ => by go_simp; rfl⟩) ?_
  try simp only [Act.put, List.setIfInBounds_toArray, List.set_cons_succ, List.set_cons_zero]
  refine order_held (i := 4) rfl (by kernel_rfl) (fun _ _ _ h => h) (.inl ⟨rfl, fun W hW => by
    have q0 : W.cell? ⟨b, o + 4, none⟩ = some (.slice (some ⟨b2', o2, none⟩) 3 kc0) := hW.cell id F4.out
    go_simp; rfl⟩) HS ?_
  try simp only [Act.put, List.setIfInBounds_toArray, List.set_cons_succ, List.set_cons_zero]
  refine order_pure (i := 5) rfl (by kernel_rfl) (fun _ _ _ h => h) (.inl ⟨rfl, fun _ => by go_simp; rfl⟩) ?_
  try simp only [Act.put, List.setIfInBounds_toArray, List.set_cons_succ, List.set_cons_zero]
  refine order_pure (i := 6) rfl (by kernel_rfl) (fun _ _ _ h => h) (.inl ⟨rfl, fun _ => by go_simp; rfl⟩) ?_
  try simp only [Act.put, List.setIfInBounds_toArray, List.set_cons_succ, List.set_cons_zero]
  refine order_held (i := 7) rfl (by kernel_rfl) (fun _ _ _ h => h) (.inl ⟨rfl, fun W hW => by
    have q0 : W.cell? ⟨b2', o2 + 4, none⟩ = some (.slice pa pn pc) := hW.cell id P4.out
    go_simp; rfl⟩) HS ?_
  try simp only [Act.put, List.setIfInBounds_toArray, List.set_cons_succ, List.set_cons_zero]
  refine order_pure (i := 8) rfl (by kernel_rfl) (fun _ _ _ h => h) (.inl ⟨rfl, fun _ => by go_simp; rfl⟩) ?_
  try simp only [Act.put, List.setIfInBounds_toArray, List.set_cons_succ, List.set_cons_zero]
  refine order_one (i := 9) rfl (by kernel_rfl) (fun K hK => ?_)
  go_simp
  refine (HAR.out _ HS).mono ?_
  rintro e' w2 ⟨hk2, ⟨k9, p9, hr9, he⟩ | ⟨x9, hr9, he⟩⟩
  · unfold Stops at he
    subst he
    exact ⟨rfl, HK.out.trans' (HS.trans' hk2 (fun _ _ => id) (fun _ _ => id) : Keeps NoB ((((w.alloc (.cells #[.pointer (some ⟨cb, 0, none⟩)] 49)).alloc (.cells #[.int .u8 10, .string tx, .int .i64 nm, .int .i64 pl, .slice (some ⟨b, o, none⟩) (n + 1) kc] 29)).alloc (.cells #[.map (some ms)] 52)).alloc (.cells #[.slice (some ⟨b, o, none⟩) (n + 1) kc] 27)) w2) (fun _ _ h => h.elim) (fun _ _ h => h.elim), .inl ⟨_, _, HE.out.trans (by rw [hr9]), rfl⟩⟩
  · subst he
    have HS2 : Keeps NoB ((((w.alloc (.cells #[.pointer (some ⟨cb, 0, none⟩)] 49)).alloc (.cells #[.int .u8 10, .string tx, .int .i64 nm, .int .i64 pl, .slice (some ⟨b, o, none⟩) (n + 1) kc] 29)).alloc (.cells #[.map (some ms)] 52)).alloc (.cells #[.slice (some ⟨b, o, none⟩) (n + 1) kc] 27)) w2 := HS.trans' hk2 (fun _ _ => id) (fun _ _ => id)
    refine hK _ _ (fun _ _ => HS2) ?_
    clear hK
    try simp only [Act.put, List.setIfInBounds_toArray, List.set_cons_succ, List.set_cons_zero]
    refine order_done (by kernel_rfl) ?_
    have HI := hide (HAP.out w2 HS2)
    have HKB := hide (HK.out.trans' HS2 (fun _ _ => id) (fun _ _ => id) : Keeps NoB w w2)
    have HE1 := HE
    clear HE
    have HE := hide (HE1.out.trans (show _ = (foldE (fnE c.F S) kids G).map (fun _ => (S, G)) by rw [hr9]))
    have q0 := HS2.cell id (BB0.out.cell 0)
    clear HE1 hr9 hk2 HS HS2
    go_wp2_with
      first
      | (go_at_call 74
         refine HI.out.mono ?_
         rintro e w2 ⟨hk2, hcase⟩
         have HK2 := hide (HKB.out.trans' (fp'' := (fun k => k = cb ∨ k = mg)) hk2 (fun _ _ h => h.elim) (fun _ _ => id) : Keeps (fun k => k = cb ∨ k = mg) w w2)
         rcases hcase with ⟨k9, p9, hr9, he⟩ | ⟨x9, hr9, he, mg2, hc2, hm2⟩
         all_goals have HX := hide (HE.out.trans (by rw [hr9]))
         all_goals first
           | (unfold Stops at he
              subst he
              clear hk2 hr9 HI)
           | (have HM2 := hide (hm2.imp id (fun h => Nat.le_trans HKB.out.size h)); have HC2 := hide hc2
              subst he
              clear hk2 hr9 HI))
      | fail
    · exact ⟨rfl, HK2.out, .inl ⟨_, _, HX.out, rfl⟩⟩
    · refine bodyPost_ret (results_none rfl _ _ _) rfl ?_
      exact ⟨HK2.out, .inr ⟨(S, _), HX.out, rfl, rfl, mg2, HC2.out, HM2.out⟩⟩
end Go.Proofs.YtincajfanhanjaaDoor
namespace Go.Proofs.YtincajfanhanjaaDoor
open Go.RowKit Go.Maps

theorem expr_any (t : Nd) : ExprOf t := by
  have H : ∀ M, ∀ t : Nd, t.size ≤ M → ExprOf t := by
    intro M
    induction M with
    | zero => intro t h; have := t.size_pos; omega
    | succ M IH =>
      intro t hM w c cb mg ms S G kd tx nm pl ka kn kc ht hH hT
      obtain ⟨kids, css, rfl, _⟩ := ht.kidsIn
      have hks : Nd.size.sizes kids ≤ M := by simp only [Nd.size] at hM; omega
      rcases hT.kinds with h | rfl | rfl | rfl | rfl | rfl | rfl | rfl | rfl | rfl | rfl | rfl
      · exact expr_plain M IH w c cb mg ms S G kd tx nm pl ka kn kc kids hks ht hH hT h
      · exact expr_3 w c cb mg ms S G tx nm pl ka kn kc kids ht hH hT
      · exact expr_8 w c cb mg ms S G tx nm pl ka kn kc kids
      · exact expr_9 M IH w c cb mg ms S G tx nm pl ka kn kc kids hks ht hH hT
      · exact expr_10 M IH w c cb mg ms S G tx nm pl ka kn kc kids hks ht hH hT
      · exact expr_11 w c cb mg ms S G tx nm pl ka kn kc kids ht hH hT
      · exact expr_12 M IH w c cb mg ms S G tx nm pl ka kn kc kids hks ht hH hT
      · exact expr_13 M IH w c cb mg ms S G tx nm pl ka kn kc kids hks ht hH hT
      · exact expr_14 M IH w c cb mg ms S G tx nm pl ka kn kc kids hks ht hH hT
      · exact expr_16 M IH w c cb mg ms S G tx nm pl ka kn kc kids hks ht hH hT
      · exact expr_17 M IH w c cb mg ms S G tx nm pl ka kn kc kids hks ht hH hT
      · exact expr_19 M IH w c cb mg ms S G tx nm pl ka kn kc kids hks ht hH hT
  exact H _ t (Nat.le_refl _)
theorem rest_all (M : Nat) : RestOf M := rest_any M (body_any M (fun t h => item_any M (fun t _ => expr_any t) t h))
mutual
def varsN : Nd → List ByteArray
  | .mk k tx _ _ kids => if k = 3 then tx :: varsNs kids else varsNs kids
def varsNs : List Nd → List ByteArray
  | [] => []
  | t :: ts => varsN t ++ varsNs ts
end
mutual
theorem namesIn_vars (L : List ByteArray) : ∀ t : Nd, (∀ s ∈ varsN t, s ∈ L) → namesIn L t
  | .mk k tx _ _ kids, h => by
    unfold namesIn
    unfold varsN at h
    refine ⟨fun e => h tx (by rw [if_pos e]; exact List.mem_cons_self), namesIns_vars L kids (fun s hs => h s ?_)⟩
    split
    · exact List.mem_cons_of_mem _ hs
    · exact hs
theorem namesIns_vars (L : List ByteArray) : ∀ ts : List Nd, (∀ s ∈ varsNs ts, s ∈ L) → namesIns L ts
  | [], _ => by unfold namesIns; trivial
  | t :: ts, h => by
    unfold namesIns
    unfold varsNs at h
    exact ⟨namesIn_vars L t (fun s hs => h s (List.mem_append_left _ hs)), namesIns_vars L ts (fun s hs => h s (List.mem_append_right _ hs))⟩
end
mutual
theorem vars_many : ∀ t : Nd, (varsN t).length ≤ manyN t
  | .mk k tx _ _ kids => by
    have := varss_manys kids
    unfold varsN manyN
    split
    · simp only [List.length_cons]; omega
    · omega
theorem varss_manys : ∀ ts : List Nd, (varsNs ts).length ≤ manysN ts
  | [] => by unfold varsNs manysN; simp
  | t :: ts => by
    have := vars_many t; have := varss_manys ts
    unfold varsNs manysN
    simp only [List.length_append]; omega
end
theorem names_self (t : Nd) : namesIn (varsN t) t := namesIn_vars _ t (fun _ h => h)
/-! ### lint.Check as a plain function -/
def addF (F : Fns) (s : ByteArray) (p : Int) : Fns := fun t q => decide (t = s ∧ q = p) || F t q
def declE (fn : Nd) (F : Fns) : Except Flt Fns :=
  if F fn.text fn.num = true ∨ kindN fn.text.data.toList fn.num ≠ 0 then .error (210, fn.place) else match arityN fn.kids fn.num with
    | .error f => .error f
    | .ok _ => .ok (addF F fn.text fn.num)
def topE (F : Fns) (t : Nd) (_ : Unit) : Except Flt Unit := match t.kids with
  | [p, g, d] => (match patsN p.kids (fun _ => false) with
    | .error f => .error f
    | .ok own => (restR F g d own (fun _ => false)).map (fun _ => ()))
  | _ => .ok ()
def fnsE (F : Fns) (fn : Nd) (u : Unit) : Except Flt Unit := foldE (topE F) fn.kids u
def checkE (m : Nd) : Except Flt Unit :=
  if m.kind ≠ 22 ∨ rightN m = false then .error (4, 0) else match foldE declE m.kids (fun _ _ => false) with
    | .error f => .error f
    | .ok F => foldE (fnsE F) m.kids ()
def checkN (m : Nd) : Flt := match checkE m with
  | .error f => f
  | .ok _ => (0, 0)
end Go.Proofs.YtincajfanhanjaaDoor
