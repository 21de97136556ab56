/- checker.expr: variables, names, matches, calls. What the kids of trees are, by the kind. -/
import Derived.Test.YtincajfanhanjaaDoorChExpr1
namespace Go.Proofs.YtincajfanhanjaaDoor
open Go.RowKit Go.Maps


theorem expr_8 (w : World) (c : Cx) (cb mg ms : Nat) (S G : Scope) (tx : ByteArray) (nm pl : Int) (ka : Option Addr) (kn kc : Nat) (kids : List Nd) :
    Calls Tryd.prog 62 #[.pointer (some ⟨cb, 0, none⟩), .agg #[.int .u8 8, .string tx, .int .i64 nm, .int .i64 pl, .slice ka kn kc], .map (some ms)] w (Ends (exN c.F false (.mk 8 tx nm pl kids) S G) (fun k => k = cb ∨ k = mg) w (ExPost c cb mg w S)) := by
  have HE : Hid (exN c.F false (.mk 8 tx nm pl kids) S G = .error (216, pl)) := hide (by unfold exN; rw [if_pos rfl, if_neg (by decide)])
  have HK := hide (((((Keeps.refl NoB w).alloc (.cells #[.pointer (some ⟨cb, 0, none⟩)] 49)).alloc (.cells #[.int .u8 8, .string tx, .int .i64 nm, .int .i64 pl, .slice ka kn kc] 29)).alloc (.cells #[.map (some ms)] 52)).alloc (.cells #[.slice ka kn kc] 27))
  go_enter Tryd.func62, Tryd.ntmps62
  go_wp2_with
    first
    | (go_at_call 23
       refine (stop_any _ _ 8 tx nm pl ka kn kc).mono ?_
       rintro e w2 ⟨he, hk⟩
       unfold Stops at he
       subst he
       have HK2 := hide (HK.out.trans' hk (fun _ _ h => h.elim) (fun _ _ h => h.elim) : Keeps (fun k => k = cb ∨ k = mg) w w2)
       clear hk)
    | fail
  exact ⟨rfl, HK2.out, .inl ⟨_, _, HE.out, rfl⟩⟩
theorem ex_false_scope : ∀ (F : Fns) (ts : List Nd) (S G : Scope), ts = [] → exsN F false ts S G = .ok (S, G)
  | _, _, _, _, rfl => by simp only [exsN]
set_option maxRecDepth 100000 in
set_option maxHeartbeats 8000000 in
theorem expr_3 (w : World) (c : Cx) (cb mg ms : Nat) (S G : Scope) (tx : ByteArray) (nm pl : Int) (ka : Option Addr) (kn kc : Nat) (kids : List Nd) (ht : NodeIn w (Bt c cb) false [.int .u8 3, .string tx, .int .i64 nm, .int .i64 pl, .slice ka kn kc] (.mk 3 tx nm pl kids)) (hH : Here c cb mg ms w S G) (hT : Tree c.L 0 (.mk 3 tx nm pl kids)) :
    Calls Tryd.prog 62 #[.pointer (some ⟨cb, 0, none⟩), .agg #[.int .u8 3, .string tx, .int .i64 nm, .int .i64 pl, .slice ka kn kc], .map (some ms)] w (Ends (exN c.F false (.mk 3 tx nm pl kids) S G) (fun k => k = cb ∨ k = mg) w (ExPost c cb mg w S)) := by
  obtain ⟨_, css, e0, hroom, hr, hc, hkl⟩ := ht.kidsIn
  injection e0 with _ _ _ _ e0
  subst e0
  have hkn : kn = 0 := by have h := okM_least hT.may (show shapeN 3 = some (118, 0, 0, 0, 0) from rfl); omega
  subst hkn
  obtain rfl : kids = [] := List.length_eq_zero_iff.1 hkl
  have htx : tx.size ≤ 140737488355328 := okN_text hT.ok
  have hk0 := ((((Keeps.refl NoB w).alloc (.cells #[.pointer (some ⟨cb, 0, none⟩)] 49)).alloc (.cells #[.int .u8 3, .string tx, .int .i64 nm, .int .i64 pl, .slice ka 0 kc] 29)).alloc (.cells #[.map (some ms)] 52)).alloc (.cells #[.slice ka 0 kc] 27)
  have HK := hide hk0
  obtain ⟨_, _, _, b3, _⟩ := four_blks w 49 29 52 27 #[.pointer (some ⟨cb, 0, none⟩)] #[.int .u8 3, .string tx, .int .i64 nm, .int .i64 pl, .slice ka 0 kc] #[.map (some ms)] #[.slice ka 0 kc]
  have HB3 := hide b3
  have HV := hide (variable_any c _ cb mg ms G S 3 tx nm pl ka 0 kc (hH.ck.keep0 hk0) (hH.scope.keep hk0 id) (by unfold maxLen; omega))
  have HH := hide hH
  have HE : Hid (exN c.F false (.mk 3 tx nm pl []) S G = match varF tx pl S G with
    | .error f => .error f
    | .ok _ => .ok (S, G)) := hide (by
      conv => lhs; unfold exN; rw [if_neg (by decide), if_pos rfl]
      cases varF tx pl S G <;> simp [exsN])
  clear ht hH hr hc hroom hT hk0 b3
  go_enter Tryd.func62, Tryd.ntmps62
  go_wp2_with
    first
    | (go_at_call 45
       refine HV.out.mono ?_
       rintro e w2 ⟨hk2, hcase⟩
       have HK2 := hide (HK.out.trans' hk2 (fun _ _ => id) (fun _ _ => id) : Keeps NoB w w2)
       have q3 : w2.cell? ⟨w.heap.size + 1 + 1 + 1, 0, none⟩ = some (.slice ka 0 kc) := hk2.cell id (HB3.out.cell 0)
       rcases hcase with ⟨k9, p9, hr9, he⟩ | ⟨x9, hr9, he⟩
       all_goals have HX := hide (HE.out.trans (by rw [hr9]))
       all_goals first
         | (unfold Stops at he
            subst he
            clear hk2 hr9 HV)
         | (subst he
            clear hk2 hr9 HV))
    | fail
  · exact ⟨rfl, HK2.out.mono (fun _ _ h => h.elim), .inl ⟨_, _, HX.out, rfl⟩⟩
  · skip
    refine wp_loop_rounds 1 ?_
    rw [rounds_succ]
    go_wp2
    go_end0
    exact ⟨HK2.out.mono (fun _ _ h => h.elim), .inr ⟨(S, G), HX.out, rfl, rfl, mg, HH.out.ck.keep0 HK2.out, .inl rfl⟩⟩
set_option maxRecDepth 100000 in
set_option maxHeartbeats 8000000 in
theorem expr_11 (w : World) (c : Cx) (cb mg ms : Nat) (S G : Scope) (tx : ByteArray) (nm pl : Int) (ka : Option Addr) (kn kc : Nat) (kids : List Nd) (ht : NodeIn w (Bt c cb) false [.int .u8 11, .string tx, .int .i64 nm, .int .i64 pl, .slice ka kn kc] (.mk 11 tx nm pl kids)) (hH : Here c cb mg ms w S G) (hT : Tree c.L 0 (.mk 11 tx nm pl kids)) :
    Calls Tryd.prog 62 #[.pointer (some ⟨cb, 0, none⟩), .agg #[.int .u8 11, .string tx, .int .i64 nm, .int .i64 pl, .slice ka kn kc], .map (some ms)] w (Ends (exN c.F false (.mk 11 tx nm pl kids) S G) (fun k => k = cb ∨ k = mg) w (ExPost c cb mg w S)) := by
  obtain ⟨_, css, e0, hroom, hr, hc, hkl⟩ := ht.kidsIn
  injection e0 with _ _ _ _ e0
  subst e0
  have hkn : kn = 0 := by have h := okM_least hT.may (show shapeN 11 = some (110, 0, 255, 0, 0) from rfl); omega
  subst hkn
  obtain rfl : kids = [] := List.length_eq_zero_iff.1 hkl
  have hto := hT.ok
  unfold okN at hto
  obtain ⟨_, htx, hnm, _, _⟩ := hto
  have hk0 := ((((Keeps.refl NoB w).alloc (.cells #[.pointer (some ⟨cb, 0, none⟩)] 49)).alloc (.cells #[.int .u8 11, .string tx, .int .i64 nm, .int .i64 pl, .slice ka 0 kc] 29)).alloc (.cells #[.map (some ms)] 52)).alloc (.cells #[.slice ka 0 kc] 27)
  have HK := hide hk0
  obtain ⟨b0, b1, _, b3, _⟩ := four_blks w 49 29 52 27 #[.pointer (some ⟨cb, 0, none⟩)] #[.int .u8 11, .string tx, .int .i64 nm, .int .i64 pl, .slice ka 0 kc] #[.map (some ms)] #[.slice ka 0 kc]
  have HB0 := hide b0; have HB1 := hide b1; have HB3 := hide b3
  have HC := hide (hH.ck.keep0 hk0)
  have HTX := hide (show tx.size ≤ maxLen by unfold maxLen; omega)
  have HNM := hide (wf_i64 hnm.1 hnm.2)
  have HH := hide hH
  cases hF : c.F tx nm with
  | false =>
    have HF := hide hF
    have HE : Hid (exN c.F false (.mk 11 tx nm pl []) S G = .error (215, pl)) := hide (by unfold exN; rw [if_neg (by decide), if_neg (by decide), if_neg (by decide), if_pos rfl, hF]; rfl)
    clear ht hH hr hc hroom hT hk0 b0 b1 b3 hF
    go_enter Tryd.func62, Tryd.ntmps62
    go_wp2_with fail
    refine order_begin (fun W => Keeps NoB ((((w.alloc (.cells #[.pointer (some ⟨cb, 0, none⟩)] 49)).alloc (.cells #[.int .u8 11, .string tx, .int .i64 nm, .int .i64 pl, .slice ka 0 kc] 29)).alloc (.cells #[.map (some ms)] 52)).alloc (.cells #[.slice ka 0 kc] 27)) W) (fun _ => true) (by kernel_rfl) 11 rfl ?_
    have HS : Keeps NoB ((((w.alloc (.cells #[.pointer (some ⟨cb, 0, none⟩)] 49)).alloc (.cells #[.int .u8 11, .string tx, .int .i64 nm, .int .i64 pl, .slice ka 0 kc] 29)).alloc (.cells #[.map (some ms)] 52)).alloc (.cells #[.slice ka 0 kc] 27)) ((((w.alloc (.cells #[.pointer (some ⟨cb, 0, none⟩)] 49)).alloc (.cells #[.int .u8 11, .string tx, .int .i64 nm, .int .i64 pl, .slice ka 0 kc] 29)).alloc (.cells #[.map (some ms)] 52)).alloc (.cells #[.slice ka 0 kc] 27)).drew := (Keeps.refl NoB _).drew
    refine order_held (i := 0) rfl (by kernel_rfl) (fun _ _ _ h => h) (.inl ⟨rfl, fun W hW => by
      have q0 : W.cell? ⟨w.heap.size, 0, none⟩ = some (.pointer (some ⟨cb, 0, none⟩)) := hW.cell id (HB0.out.cell 0)
      go_simp; rfl⟩) HS ?_
    try simp only [Act.put, List.setIfInBounds_toArray, List.set_cons_succ, List.set_cons_zero]
    refine order_pure (i := 1) rfl (by kernel_rfl) (fun _ _ _ h => h) (.inl ⟨rfl, fun _ => by go_simp; rfl⟩) ?_
    try simp only [Act.put, List.setIfInBounds_toArray, List.set_cons_succ, List.set_cons_zero]
    refine order_pure (i := 2) rfl (by kernel_rfl) (fun _ _ _ h => h) (.inl ⟨rfl, fun _ => by go_simp; rfl⟩) ?_
    try simp only [Act.put, List.setIfInBounds_toArray, List.set_cons_succ, List.set_cons_zero]
    refine order_held (i := 3) rfl (by kernel_rfl) (fun _ _ _ h => h) (.inl ⟨rfl, fun W hW => by
      have q0 : W.cell? ⟨cb, 0, none⟩ = some (.map (some c.mf)) := (HC.out.keep0 hW).blk.cell 0
      go_simp; rfl⟩) HS ?_
    try simp only [Act.put, List.setIfInBounds_toArray, List.set_cons_succ, List.set_cons_zero]
    refine order_pure (i := 4) rfl (by kernel_rfl) (fun _ _ _ h => h) (.inl ⟨rfl, fun _ => by go_simp; rfl⟩) ?_
    try simp only [Act.put, List.setIfInBounds_toArray, List.set_cons_succ, List.set_cons_zero]
    refine order_held (i := 5) rfl (by kernel_rfl) (fun _ _ _ h => h) (.inl ⟨rfl, fun W hW => by
      have q0 : W.cell? ⟨w.heap.size + 1, 1, none⟩ = some (.string tx) := hW.cell id (HB1.out.cell 1)
      go_simp; rfl⟩) HS ?_
    try simp only [Act.put, List.setIfInBounds_toArray, List.set_cons_succ, List.set_cons_zero]
    refine order_pure (i := 7) rfl (by kernel_rfl) (fun _ _ _ h => h) (.inl ⟨rfl, fun _ => by go_simp; rfl⟩) ?_
    try simp only [Act.put, List.setIfInBounds_toArray, List.set_cons_succ, List.set_cons_zero]
    refine order_held (i := 8) rfl (by kernel_rfl) (fun _ _ _ h => h) (.inl ⟨rfl, fun W hW => by
      have q0 : W.cell? ⟨w.heap.size + 1, 2, none⟩ = some (.int .i64 nm) := hW.cell id (HB1.out.cell 2)
      go_simp; rfl⟩) HS ?_
    try simp only [Act.put, List.setIfInBounds_toArray, List.set_cons_succ, List.set_cons_zero]
    refine order_held (i := 6) rfl (by kernel_rfl) (fun _ _ _ h => h) (.inl ⟨rfl, fun W hW => by
      have q0 : (Instr.lookup 50 (.map (some c.mf)) (.string tx) false).run Tryd.prog W = .ok (.map (c.R tx)) W := by obtain ⟨n, hf⟩ := (HC.out.keep0 hW).funs; exact hf.look HTX.out
      go_simp; rfl⟩) HS ?_
    try simp only [Act.put, List.setIfInBounds_toArray, List.set_cons_succ, List.set_cons_zero]
    refine order_held (i := 9) rfl (by kernel_rfl) (fun _ _ _ h => h) (.inl ⟨rfl, fun W hW => by
      have q0 : (Instr.lookup 55 (.map (c.R tx)) (.int .i64 nm) false).run Tryd.prog W = .ok (.bool false) W := by obtain ⟨n, hf⟩ := (HC.out.keep0 hW).funs; have h := hf.look2 tx HNM.out; rw [HF.out] at h; exact h
      go_simp; rfl⟩) HS ?_
    try simp only [Act.put, List.setIfInBounds_toArray, List.set_cons_succ, List.set_cons_zero]
    refine order_pure (i := 10) rfl (by kernel_rfl) (fun _ _ _ h => h) (.inl ⟨rfl, fun _ => by go_simp; rfl⟩) ?_
    try simp only [Act.put, List.setIfInBounds_toArray, List.set_cons_succ, List.set_cons_zero]
    refine order_done (by kernel_rfl) ?_
    go_wp2_with
      first
      | (go_at_call 23
         refine (stop_any _ _ 11 tx nm pl ka 0 kc).mono ?_
         rintro e w2 ⟨he, hk⟩
         unfold Stops at he
         subst he
         have HK2 := hide ((HK.out.trans' HS (fun _ _ => id) (fun _ _ => id) : Keeps NoB w _).trans' hk (fun _ _ h => h.elim) (fun _ _ h => h.elim) : Keeps (fun k => k = cb ∨ k = mg) w w2)
         clear hk)
      | fail
    exact ⟨rfl, HK2.out, .inl ⟨_, _, HE.out, rfl⟩⟩
  | true =>
    have HF := hide hF
    have HE : Hid (exN c.F false (.mk 11 tx nm pl []) S G = .ok (S, G)) := hide (by unfold exN; rw [if_neg (by decide), if_neg (by decide), if_neg (by decide), if_pos rfl, hF, if_pos rfl]; simp only [exsN])
    clear ht hH hr hc hroom hT hk0 b0 b1 b3 hF
    go_enter Tryd.func62, Tryd.ntmps62
    go_wp2_with fail
    refine order_begin (fun W => Keeps NoB ((((w.alloc (.cells #[.pointer (some ⟨cb, 0, none⟩)] 49)).alloc (.cells #[.int .u8 11, .string tx, .int .i64 nm, .int .i64 pl, .slice ka 0 kc] 29)).alloc (.cells #[.map (some ms)] 52)).alloc (.cells #[.slice ka 0 kc] 27)) W) (fun _ => true) (by kernel_rfl) 11 rfl ?_
    have HS : Keeps NoB ((((w.alloc (.cells #[.pointer (some ⟨cb, 0, none⟩)] 49)).alloc (.cells #[.int .u8 11, .string tx, .int .i64 nm, .int .i64 pl, .slice ka 0 kc] 29)).alloc (.cells #[.map (some ms)] 52)).alloc (.cells #[.slice ka 0 kc] 27)) ((((w.alloc (.cells #[.pointer (some ⟨cb, 0, none⟩)] 49)).alloc (.cells #[.int .u8 11, .string tx, .int .i64 nm, .int .i64 pl, .slice ka 0 kc] 29)).alloc (.cells #[.map (some ms)] 52)).alloc (.cells #[.slice ka 0 kc] 27)).drew := (Keeps.refl NoB _).drew
    refine order_held (i := 0) rfl (by kernel_rfl) (fun _ _ _ h => h) (.inl ⟨rfl, fun W hW => by
      have q0 : W.cell? ⟨w.heap.size, 0, none⟩ = some (.pointer (some ⟨cb, 0, none⟩)) := hW.cell id (HB0.out.cell 0)
      go_simp; rfl⟩) HS ?_
    try simp only [Act.put, List.setIfInBounds_toArray, List.set_cons_succ, List.set_cons_zero]
    refine order_pure (i := 1) rfl (by kernel_rfl) (fun _ _ _ h => h) (.inl ⟨rfl, fun _ => by go_simp; rfl⟩) ?_
    try simp only [Act.put, List.setIfInBounds_toArray, List.set_cons_succ, List.set_cons_zero]
    refine order_pure (i := 2) rfl (by kernel_rfl) (fun _ _ _ h => h) (.inl ⟨rfl, fun _ => by go_simp; rfl⟩) ?_
    try simp only [Act.put, List.setIfInBounds_toArray, List.set_cons_succ, List.set_cons_zero]
    refine order_held (i := 3) rfl (by kernel_rfl) (fun _ _ _ h => h) (.inl ⟨rfl, fun W hW => by
      have q0 : W.cell? ⟨cb, 0, none⟩ = some (.map (some c.mf)) := (HC.out.keep0 hW).blk.cell 0
      go_simp; rfl⟩) HS ?_
    try simp only [Act.put, List.setIfInBounds_toArray, List.set_cons_succ, List.set_cons_zero]
    refine order_pure (i := 4) rfl (by kernel_rfl) (fun _ _ _ h => h) (.inl ⟨rfl, fun _ => by go_simp; rfl⟩) ?_
    try simp only [Act.put, List.setIfInBounds_toArray, List.set_cons_succ, List.set_cons_zero]
    refine order_held (i := 5) rfl (by kernel_rfl) (fun _ _ _ h => h) (.inl ⟨rfl, fun W hW => by
      have q0 : W.cell? ⟨w.heap.size + 1, 1, none⟩ = some (.string tx) := hW.cell id (HB1.out.cell 1)
      go_simp; rfl⟩) HS ?_
    try simp only [Act.put, List.setIfInBounds_toArray, List.set_cons_succ, List.set_cons_zero]
    refine order_pure (i := 7) rfl (by kernel_rfl) (fun _ _ _ h => h) (.inl ⟨rfl, fun _ => by go_simp; rfl⟩) ?_
    try simp only [Act.put, List.setIfInBounds_toArray, List.set_cons_succ, List.set_cons_zero]
    refine order_held (i := 8) rfl (by kernel_rfl) (fun _ _ _ h => h) (.inl ⟨rfl, fun W hW => by
      have q0 : W.cell? ⟨w.heap.size + 1, 2, none⟩ = some (.int .i64 nm) := hW.cell id (HB1.out.cell 2)
      go_simp; rfl⟩) HS ?_
    try simp only [Act.put, List.setIfInBounds_toArray, List.set_cons_succ, List.set_cons_zero]
    refine order_held (i := 6) rfl (by kernel_rfl) (fun _ _ _ h => h) (.inl ⟨rfl, fun W hW => by
      have q0 : (Instr.lookup 50 (.map (some c.mf)) (.string tx) false).run Tryd.prog W = .ok (.map (c.R tx)) W := by obtain ⟨n, hf⟩ := (HC.out.keep0 hW).funs; exact hf.look HTX.out
      go_simp; rfl⟩) HS ?_
    try simp only [Act.put, List.setIfInBounds_toArray, List.set_cons_succ, List.set_cons_zero]
    refine order_held (i := 9) rfl (by kernel_rfl) (fun _ _ _ h => h) (.inl ⟨rfl, fun W hW => by
      have q0 : (Instr.lookup 55 (.map (c.R tx)) (.int .i64 nm) false).run Tryd.prog W = .ok (.bool true) W := by obtain ⟨n, hf⟩ := (HC.out.keep0 hW).funs; have h := hf.look2 tx HNM.out; rw [HF.out] at h; exact h
      go_simp; rfl⟩) HS ?_
    try simp only [Act.put, List.setIfInBounds_toArray, List.set_cons_succ, List.set_cons_zero]
    refine order_pure (i := 10) rfl (by kernel_rfl) (fun _ _ _ h => h) (.inl ⟨rfl, fun _ => by go_simp; rfl⟩) ?_
    try simp only [Act.put, List.setIfInBounds_toArray, List.set_cons_succ, List.set_cons_zero]
    refine order_done (by kernel_rfl) ?_
    have q3 : (((((w.alloc (.cells #[.pointer (some ⟨cb, 0, none⟩)] 49)).alloc (.cells #[.int .u8 11, .string tx, .int .i64 nm, .int .i64 pl, .slice ka 0 kc] 29)).alloc (.cells #[.map (some ms)] 52)).alloc (.cells #[.slice ka 0 kc] 27))).drew.cell? ⟨w.heap.size + 1 + 1 + 1, 0, none⟩ = some (.slice ka 0 kc) := HS.cell id (HB3.out.cell 0)
    have HKZ := hide (HK.out.trans' HS (fun _ _ => id) (fun _ _ => id) : Keeps NoB w (((((w.alloc (.cells #[.pointer (some ⟨cb, 0, none⟩)] 49)).alloc (.cells #[.int .u8 11, .string tx, .int .i64 nm, .int .i64 pl, .slice ka 0 kc] 29)).alloc (.cells #[.map (some ms)] 52)).alloc (.cells #[.slice ka 0 kc] 27))).drew)
    go_wp2
    refine wp_loop_rounds 1 ?_
    rw [rounds_succ]
    go_wp2
    go_end0
    exact ⟨HKZ.out.mono (fun _ _ h => h.elim), .inr ⟨(S, G), HE.out, rfl, rfl, mg, HH.out.ck.keep0 HKZ.out, .inl rfl⟩⟩
theorem Reads.back {w w' : World} {B : Nat → Prop} {size n : Nat} {A : Option Addr} {xs : List Value} (h : Reads w' B false size A n xs) (hk : Keeps NoB w w') (hB : ∀ k, B k → k < w.heap.size) : Reads w B false size A n xs := by
  refine ⟨h.1, fun hn => ?_⟩
  obtain ⟨ad, e, hs, hb, hl, hc⟩ := h.2 hn
  refine ⟨ad, e, hs, hb, hB _ hb, fun j u hu => ⟨?_, fun h => by cases h⟩⟩
  have h1 := (hc j u hu).1
  rw [World.cell?_of_block (a := ⟨ad.block, ad.off + j, none⟩) (hk.block ad.block (hB _ hb) id)] at h1
  exact h1
mutual
theorem NodeIn.back {w w' : World} {B : Nat → Prop} (hk : Keeps NoB w w') (hB : ∀ k, B k → k < w.heap.size) : ∀ (t : Nd) (cs : List Value), NodeIn w' B false cs t → NodeIn w B false cs t
  | .mk k text num pl kids, cs, h => by
    unfold NodeIn at h ⊢
    obtain ⟨ka, kn, kc, css, e, hb, h2, h3⟩ := h
    exact ⟨ka, kn, kc, css, e, hb, h2.back hk hB, NodesIn.back hk hB kids css h3⟩
theorem NodesIn.back {w w' : World} {B : Nat → Prop} (hk : Keeps NoB w w') (hB : ∀ k, B k → k < w.heap.size) : ∀ (ts : List Nd) (css : List (List Value)), NodesIn w' B false css ts → NodesIn w B false css ts
  | [], [], _ => by unfold NodesIn; trivial
  | t :: ts, cs :: css, h => by
    unfold NodesIn at h ⊢
    exact ⟨NodeIn.back hk hB t cs h.1, NodesIn.back hk hB ts css h.2⟩
  | [], _ :: _, h => by unfold NodesIn at h; exact h.elim
  | _ :: _, [], h => by unfold NodesIn at h; exact h.elim
end
theorem ex_call (F : Fns) (tx : ByteArray) (nm pl : Int) (kids : List Nd) (S G : Scope) (h1 : 0 < kids.length) : exN F false (.mk 9 tx nm pl kids) S G = match callN F kids pl with
    | .error f => .error f
    | .ok ks => exsN F false ks S G := by
  match kids, h1 with
  | t :: ts, _ =>
    conv => lhs; unfold exN; rw [if_neg (by decide), if_neg (by decide), if_pos rfl]
    unfold callE
    cases hc : callN F (t :: ts) pl with
    | error f => rfl
    | ok ks =>
      unfold callN at hc
      split at hc
      · cases hc
      · dsimp only at hc
        by_cases h2 : t.kind = 2
        · rw [if_neg (fun h => h h2)] at hc
          split at hc
          · cases hc
          · injection hc with hc; subst hc
            simp only [h2, decide_true]
            simp only [exsTail]
        · rw [if_pos h2] at hc
          injection hc with hc; subst hc
          simp only [h2, decide_false]
theorem call_sub {F : Fns} {kids ks : List Nd} {pl : Int} (h : callN F kids pl = .ok ks) : (∀ x ∈ ks, x ∈ kids) ∧ Nd.size.sizes ks ≤ Nd.size.sizes kids := by
  unfold callN at h
  split at h
  · cases h
  · match kids, h with
    | [], h => injection h with h; subst h; exact ⟨fun _ h => h, Nat.le_refl _⟩
    | t :: ts, h =>
      dsimp only at h
      split at h
      · injection h with h; subst h; exact ⟨fun _ h => h, Nat.le_refl _⟩
      · split at h
        · cases h
        · injection h with h; subst h
          exact ⟨fun _ h => List.mem_cons_of_mem _ h, by simp only [Nd.size.sizes]; omega⟩
set_option maxRecDepth 100000 in
set_option maxHeartbeats 8000000 in
theorem expr_9 (M : Nat) (IH : ∀ t : Nd, t.size ≤ M → ExprOf t) (w : World) (c : Cx) (cb mg ms : Nat) (S G : Scope) (tx : ByteArray) (nm pl : Int) (ka : Option Addr) (kn kc : Nat) (kids : List Nd) (hM : Nd.size.sizes kids ≤ M) (ht : NodeIn w (Bt c cb) false [.int .u8 9, .string tx, .int .i64 nm, .int .i64 pl, .slice ka kn kc] (.mk 9 tx nm pl kids)) (hH : Here c cb mg ms w S G) (hT : Tree c.L 0 (.mk 9 tx nm pl kids)) :
    Calls Tryd.prog 62 #[.pointer (some ⟨cb, 0, none⟩), .agg #[.int .u8 9, .string tx, .int .i64 nm, .int .i64 pl, .slice ka kn kc], .map (some ms)] w (Ends (exN c.F false (.mk 9 tx nm pl kids) S G) (fun k => k = cb ∨ k = mg) w (ExPost c cb mg w S)) := by
  obtain ⟨_, css, e0, hroom, hr, hc, hkl⟩ := ht.kidsIn
  injection e0 with _ _ _ _ e0
  subst e0
  have hle := (okM_least hT.may (show shapeN 9 = some (0, 105, 0, 1, -1) from rfl)).1
  have HLT := hide (show ms < w.heap.size ∧ cb < w.heap.size ∧ mg < w.heap.size ∧ ms ≠ cb ∧ ms ≠ mg ∧ c.hi ≤ ms ∧ c.hi ≤ mg ∧ c.hi ≤ w.heap.size from ⟨hH.scope.lt, hH.ck.blk.lt, hH.ck.gone.lt, hH.ne.1, hH.ne.2, hH.hi, hH.ck.mg, by have h1 := hH.scope.lt; have h2 := hH.hi; omega⟩)
  have HBT := hide (show ∀ k, Bt c cb k → ¬ (k = cb ∨ k = mg) from fun k h e => by have h1 := h.1; have h2 := h.2; have h3 := hH.ck.mg; omega)
  have hk0 : Keeps NoB w ((((w.alloc (.cells #[.pointer (some ⟨cb, 0, none⟩)] 49)).alloc (.cells #[.int .u8 9, .string tx, .int .i64 nm, .int .i64 pl, .slice ka kn kc] 29)).alloc (.cells #[.map (some ms)] 52)).alloc (.cells #[.slice ka kn kc] 27)) := ((((Keeps.refl NoB w).alloc _).alloc _).alloc _).alloc _
  obtain ⟨b0, b1, b2, b3, hs4⟩ := four_blks w 49 29 52 27 #[.pointer (some ⟨cb, 0, none⟩)] #[.int .u8 9, .string tx, .int .i64 nm, .int .i64 pl, .slice ka kn kc] #[.map (some ms)] #[.slice ka kn kc]
  have BB0 := hide b0; have BB2 := hide b2; have BB3 := hide b3; have HS4 := hide (Nat.le_of_eq hs4.symm)
  have HK := hide hk0; have HIH := hide IH; have HH := hide hH; have HM := hide hM; have HTK := hide (hT.kid (by omega))
  have HCL := hide (call_any ((((w.alloc (.cells #[.pointer (some ⟨cb, 0, none⟩)] 49)).alloc (.cells #[.int .u8 9, .string tx, .int .i64 nm, .int .i64 pl, .slice ka kn kc] 29)).alloc (.cells #[.map (some ms)] 52)).alloc (.cells #[.slice ka kn kc] 27)) (Bt c cb) false c cb mg G 9 tx nm pl ka kn kc kids (NodeIn.keep hk0 (fun _ _ => id) _ _ ht) (hH.keep0 hk0).ck hT.ok (by omega))
  have HX0 := hide (ex_call c.F tx nm pl kids S G (by omega))
  clear ht hH hr hc hroom hT hk0 b0 b1 b2 b3 hs4 hle hM IH
  go_enter Tryd.func62, Tryd.ntmps62
  go_wp2_with
    first
    | (go_at_call 73
       refine HCL.out.mono ?_
       rintro e w2 ⟨hk2, hcase⟩
       have HK2 := hide (HK.out.trans' hk2 (fun _ _ => id) (fun _ _ => id) : Keeps NoB w w2)
       rcases hcase with ⟨k9, p9, hr9, he⟩ | ⟨ks, hr9, A', n', c', css', he, hrd, hnd, hln, hro⟩
       all_goals have HX1 := hide (HX0.out.trans (by rw [hr9]))
       all_goals first
         | (unfold Stops at he
            subst he
            clear hk2 hr9 HCL)
         | (have HSUB := hide (call_sub hr9)
            have hbw3 := BB3.out.keep hk2 id
            have z3 : w2.frozen? ⟨w.heap.size + 1 + 1 + 1, 0, none⟩ = false := hbw3.free 0
            have c3 : w2.cell? ⟨w.heap.size + 1 + 1 + 1, 0, none⟩ = some (.slice ka kn kc) := hbw3.cell 0
            have HQ0 := hide (BB0.out.keep hk2 id); have HQ2 := hide (BB2.out.keep hk2 id)
            have HRD := hide (hrd.back HK.out (fun k h => Nat.lt_of_lt_of_le h.1 HLT.out.2.2.2.2.2.2.2)); have HC := hide (NodesIn.back HK.out (fun k h => Nat.lt_of_lt_of_le h.1 HLT.out.2.2.2.2.2.2.2) _ _ hnd); have HLN := hide hln; have HRO := hide hro
            have HSZ2 := hide (Nat.le_trans HS4.out hk2.size)
            have hn9 : n' ≤ 9223372036854775807 := by have := hro.len (by omega); unfold maxLen at this; exact this
            subst he
            clear hk2 hr9 HCL hbw3 hrd hnd hln hro))
    | fail
  · exact ⟨rfl, HK2.out.mono (fun _ _ h => h.elim), .inl ⟨_, _, HX1.out, rfl⟩⟩
  · have HE := hide (HX1.out.trans (exs_fold c.F false ks S G))
    have HKL := HLN
    have HKS := hide (Nat.le_trans HSUB.out.2 HM.out)
    have HT := hide (fun t h => HTK.out t (HSUB.out.1 t h) : ∀ t ∈ ks, Tree c.L 0 t)
    have hk5 : Keeps (fun k => k = cb ∨ k = mg) w (w2.setCell ⟨w.heap.size + 1 + 1 + 1, 0, none⟩ (.slice A' n' c')) := (HK2.out.mono (fun _ _ h => h.elim) : Keeps (fun k => k = cb ∨ k = mg) w w2).setCell (p := ⟨w.heap.size + 1 + 1 + 1, 0, none⟩) (.inr (show w.heap.size ≤ w.heap.size + 1 + 1 + 1 by omega)) _
    have hks : Keeps (fun k => k = w.heap.size + 1 + 1 + 1) w2 (w2.setCell ⟨w.heap.size + 1 + 1 + 1, 0, none⟩ (.slice A' n' c')) := (Keeps.refl (fun k => k = w.heap.size + 1 + 1 + 1) w2).setCell (p := ⟨w.heap.size + 1 + 1 + 1, 0, none⟩) (.inl rfl) _
    have HKB := hide hk5
    have HHB := hide (show Here c cb mg ms (w2.setCell ⟨w.heap.size + 1 + 1 + 1, 0, none⟩ (.slice A' n' c')) S G from by
      have h2 := HH.out.keep0 HK2.out
      have h3 := HLT.out
      exact ⟨h2.ck.keep hks (fun e => by omega) (fun e => by omega) (fun k e => by omega), h2.scope.keep hks (fun e => by omega), h2.ne, h2.hi⟩)
    have HWB := hide (show w.heap.size + 4 ≤ ((w2.setCell ⟨w.heap.size + 1 + 1 + 1, 0, none⟩ (.slice A' n' c'))).heap.size from Nat.le_trans HSZ2.out hks.size)
    have D0 : Hid (((w2.setCell ⟨w.heap.size + 1 + 1 + 1, 0, none⟩ (.slice A' n' c'))).cell? ⟨w.heap.size, 0, none⟩ = some (.pointer (some ⟨cb, 0, none⟩))) := hide (hks.cell (fun (e : w.heap.size = w.heap.size + 1 + 1 + 1) => by omega) (HQ0.out.cell 0))
    have D2 : Hid (((w2.setCell ⟨w.heap.size + 1 + 1 + 1, 0, none⟩ (.slice A' n' c'))).cell? ⟨w.heap.size + 1 + 1, 0, none⟩ = some (.map (some ms))) := hide (hks.cell (fun (e : w.heap.size + 1 + 1 = w.heap.size + 1 + 1 + 1) => by omega) (HQ2.out.cell 0))
    clear hk5 hks
    go_wp2
    go_loopg [102] n' (fun g0 s102 wx => ∃ (k : Nat) (x : Scope × Scope) (mg' : Nat), k ≤ n' ∧ g0 = n' - k ∧ s102 = .int .i64 k ∧ foldE (fun t s => exN c.F false t s.1 s.2) (List.take k ks) (S, G) = .ok x ∧ x.1 = S ∧ Here c cb mg' ms wx S x.2 ∧ (mg' = mg ∨ w.heap.size + 4 ≤ mg') ∧ Keeps (fun k => k = cb ∨ k = mg) w wx ∧ w.heap.size + 4 ≤ wx.heap.size ∧ wx.cell? ⟨w.heap.size, 0, none⟩ = some (.pointer (some ⟨cb, 0, none⟩)) ∧ wx.cell? ⟨w.heap.size + 1 + 1, 0, none⟩ = some (.map (some ms)))
    case atStart => exact ⟨0, (S, G), mg, Nat.zero_le _, rfl, rfl, by simp [foldE], rfl, HHB.out, .inl rfl, HKB.out, HWB.out, D0.out, D2.out⟩
    case round =>
      obtain ⟨k, x, mg1, hk, rfl, rfl, hf, hx1, hh, hm, hkw, hws, e0, e2⟩ := hrel
      have HKW := hide hkw; have HF := hide hf; have HHR := hide hh; have HM := hide hm; have HX1 := hide hx1; have HWS := hide hws; have E0 := hide e0; have E2 := hide e2; clear hkw hf hm hh hx1 hws e0 e2
      by_cases hlt : k < n'
      · obtain ⟨b1, o1, kd1, tx1, nm1, pl1, ka1, kn1, kc1, t1, hA, _, hb1, h1, hsz, hu, f0, f1, f2, f3, f4⟩ := node_at (HRD.out.keep HKW.out HBT.out) (NodesIn.keep HKW.out HBT.out _ _ HC.out) k hlt
        subst hA
        have hk1 : (k : Int) < (n' : Int) := by omega
        have hk0 : (0 : Int) ≤ (k : Int) := by omega
        have hka : Keeps NoB wr (wr.alloc (.cells #[.int .u8 kd1, .string tx1, .int .i64 nm1, .int .i64 pl1, .slice ka1 kn1 kc1] 29)) := (Keeps.refl NoB wr).alloc _
        have HKA := hide hka
        have d0 : (wr.alloc (.cells #[.int .u8 kd1, .string tx1, .int .i64 nm1, .int .i64 pl1, .slice ka1 kn1 kc1] 29)).cell? ⟨w.heap.size, 0, none⟩ = some (.pointer (some ⟨cb, 0, none⟩)) := hka.cell id E0.out
        have d2 : (wr.alloc (.cells #[.int .u8 kd1, .string tx1, .int .i64 nm1, .int .i64 pl1, .slice ka1 kn1 kc1] 29)).cell? ⟨w.heap.size + 1 + 1, 0, none⟩ = some (.map (some ms)) := hka.cell id E2.out
        have H1 := hide h1
        have HI := hide (HIH.out t1 (Nat.le_trans hsz HKS.out) _ c cb mg1 ms S x.2 kd1 tx1 nm1 pl1 ka1 kn1 kc1 (NodeIn.keep hka (fun _ _ => id) _ _ hu) (HHR.out.keep0 hka) (HT.out t1 (List.mem_of_getElem? h1)))
        clear hu h1 hsz hka
        go_wp2_with
          first
          | (go_at_call 62
             refine HI.out.mono ?_
             rintro e' w2 ⟨hk2, hcase⟩
             have HK2 := hide ((HKW.out.trans' HKA.out (fun _ _ => id) (fun _ _ h => h.elim) : Keeps (fun k => k = cb ∨ k = mg) w _).trans' (fp'' := (fun k => k = cb ∨ k = mg)) hk2 (fun _ _ => id) (fun i hi h => by have h2 := HM.out; rcases h with h | h <;> first | exact .inl h | (rcases h2 with h2 | h2 <;> first | exact .inr (h.trans h2) | omega)) : Keeps (fun k => k = cb ∨ k = mg) w w2)
             rcases hcase with ⟨k9, p9, hr9, he⟩ | ⟨x9, hr9, he, hx, mg2, hc2, hm2⟩
             all_goals have hr8 : exN c.F false t1 x.1 x.2 = exN c.F false t1 S x.2 := by rw [HX1.out]
             all_goals first
               | (have HX := hide (foldE_stop (f := fun t s => exN c.F false t s.1 s.2) H1.out HF.out (hr8.trans hr9))
                  unfold Stops at he
                  subst he
                  clear hk2 hr9 HI hr8)
               | (have HX := hide (foldE_step (f := fun t s => exN c.F false t s.1 s.2) H1.out HF.out (hr8.trans hr9))
                  have HX9 := hide hx
                  have hsz3 : w.heap.size + 4 ≤ w2.heap.size := Nat.le_trans HWS.out (Nat.le_trans HKA.out.size hk2.size)
                  have HM2 := hide (mg_step HM.out hm2 (Nat.le_trans HWS.out HKA.out.size))
                  have hn1 : w.heap.size ≠ cb ∧ w.heap.size ≠ mg1 ∧ w.heap.size + 1 + 1 ≠ cb ∧ w.heap.size + 1 + 1 ≠ mg1 := by have h := HLT.out; have h1 := HM.out; omega
                  have E0' := hide (hk2.cell (fun (h : w.heap.size = cb ∨ w.heap.size = mg1) => h.elim hn1.1 hn1.2.1) d0)
                  have E2' := hide (hk2.cell (fun (h : w.heap.size + 1 + 1 = cb ∨ w.heap.size + 1 + 1 = mg1) => h.elim hn1.2.2.1 hn1.2.2.2) d2)
                  have HSZ3 := hide hsz3
                  have HH2 : Hid (Here c cb mg2 ms w2 S x9.2) := hide ⟨hc2, (HHR.out.keep0 HKA.out).scope.keep hk2 (fun h => h.elim HHR.out.ne.1 HHR.out.ne.2), ⟨HHR.out.ne.1, by
                    have h1 := HHR.out.ne.2; have h3 := HHR.out.scope.lt; have h4 := HKA.out.size
                    rcases hm2 with h | h <;> omega⟩, HHR.out.hi⟩
                  subst he
                  clear hk2 hr9 hm2 hc2 HI hx hr8 hn1 hsz3))
          | fail
        · exact ⟨rfl, HK2.out, .inl ⟨_, _, HE.out.trans HX.out, rfl⟩⟩
        · go_roundg (n' - (k + 1))
          case measure => omega
          case rel => exact ⟨k + 1, x9, mg2, by omega, rfl, by go_num, HX.out, HX9.out, HH2.out, HM2.out, HK2.out, HSZ3.out, E0'.out, E2'.out⟩
      · obtain rfl : k = n' := by omega
        have he : List.take k ks = ks := List.take_of_length_le (by have := HKL.out; omega)
        have HX := hide (he ▸ HF.out)
        clear he
        go_wp2
        go_end0
        exact ⟨HKW.out, .inr ⟨x, HE.out.trans HX.out, rfl, HX1.out, mg1, HHR.out.ck, HM.out.imp id (fun h => by omega)⟩⟩
end Go.Proofs.YtincajfanhanjaaDoor
namespace Go.Proofs.YtincajfanhanjaaDoor
open Go.RowKit Go.Maps

theorem Tree.modes {L : List ByteArray} {k : Int} {tx : ByteArray} {nm pl : Int} {kids : List Nd} (h : Tree L 0 (.mk k tx nm pl kids)) : okAs (kidsM k nm kids.length).1 (kidsM k nm kids.length).2 kids = true := by
  have h2 := h.may
  rw [okM_zero, Bool.and_eq_true] at h2
  exact h2.2
theorem Tree.memb {L : List ByteArray} {k : Int} {tx : ByteArray} {nm pl : Int} {kids : List Nd} (h : Tree L 0 (.mk k tx nm pl kids)) {m : Nat} {t : Nd} (ht : t ∈ kids) (hm : okM m t = true) : Tree L m t :=
  ⟨okN_kids h.ok t (by simp only [Nd.kids]; exact ht), hm, namesIn_kids h.names t (by simp only [Nd.kids]; exact ht)⟩
theorem Tree.fun' {L : List ByteArray} {tx : ByteArray} {nm pl : Int} {kids : List Nd} (h : Tree L 0 (.mk 10 tx nm pl kids)) : 0 < kids.length ∧ ∀ t ∈ kids, Tree L 2 t := by
  have h1 := (okM_least h.may (show shapeN 10 = some (0, 99, 0, 1, -1) from rfl)).1
  have h2 := h.modes
  rw [show kidsM 10 nm kids.length = ([], 2) from rfl, okAs_nil, List.all_eq_true] at h2
  exact ⟨by omega, fun t ht => h.memb ht (h2 t ht)⟩
theorem Tree.first {L : List ByteArray} {k : Int} {tx : ByteArray} {nm pl : Int} {kids : List Nd} (h : Tree L 0 (.mk k tx nm pl kids)) {m d : Nat} (hk : kidsM k nm kids.length = ([m], d)) (h1 : 2 ≤ kids.length) : ∃ e cs, kids = e :: cs ∧ 1 ≤ cs.length ∧ Tree L m e ∧ ∀ t ∈ cs, Tree L d t := by
  have h2 := h.modes
  rw [hk] at h2
  match kids, h1, h2, h with
  | e :: cs, h1, h2, h =>
    simp only at h2
    rw [okAs_one, Bool.and_eq_true, List.all_eq_true] at h2
    exact ⟨e, cs, rfl, by simp at h1; omega, h.memb List.mem_cons_self h2.1, fun t ht => h.memb (List.mem_cons_of_mem _ ht) (h2.2 t ht)⟩
theorem Tree.case' {L : List ByteArray} {tx : ByteArray} {nm pl : Int} {kids : List Nd} (h : Tree L 0 (.mk 12 tx nm pl kids)) : ∃ e cs, kids = e :: cs ∧ 1 ≤ cs.length ∧ Tree L 0 e ∧ ∀ t ∈ cs, Tree L 3 t :=
  h.first rfl (okM_least h.may (show shapeN 12 = some (0, 101, 0, 2, -1) from rfl)).1
theorem Tree.try' {L : List ByteArray} {tx : ByteArray} {nm pl : Int} {kids : List Nd} (h : Tree L 0 (.mk 16 tx nm pl kids)) : ∃ e cs, kids = e :: cs ∧ 1 ≤ cs.length ∧ Tree L 1 e ∧ ∀ t ∈ cs, Tree L 5 t :=
  h.first rfl (okM_least h.may (show shapeN 16 = some (0, 116, 0, 2, -1) from rfl)).1
theorem Tree.comp' {L : List ByteArray} {tx : ByteArray} {nm pl : Int} {kids : List Nd} (h : Tree L 0 (.mk 17 tx nm pl kids)) : ∃ e cs, kids = e :: cs ∧ 1 ≤ cs.length ∧ Tree L 0 e ∧ ∀ t ∈ cs, Tree L 7 t :=
  h.first rfl (okM_least h.may (show shapeN 17 = some (0, 113, 0, 2, -1) from rfl)).1
theorem plainN_kind {t : Nd} {k : Int} (h : plainN t k = true) : t.kind = k := by
  unfold plainN at h
  simp only [Bool.and_eq_true, decide_eq_true_eq] at h
  exact h.1.1.1
theorem okM_clause_kind {t : Nd} (h : okM 2 t = true) : t.kind = 20 := by
  cases t
  rw [okM_clause 2 rfl] at h
  simp only [Bool.and_eq_true] at h
  exact plainN_kind h.1.1
theorem okM_two {m : Nat} {t : Nd} (h : okM m t = true) (hm : m = 2 ∨ m = 3 ∨ m = 4 ∨ m = 5) : okM 2 t = true := by
  cases t
  rcases hm with rfl | rfl | rfl | rfl
  · exact h
  · rw [okM_single, Bool.and_eq_true] at h; exact h.1
  · rw [okM_guarded, Bool.and_eq_true] at h; exact h.1
  · rw [okM_caught _ _ _ _ _ _ rfl, okM_single] at h
    simp only [Bool.and_eq_true] at h
    exact h.1.1
theorem Tree.clOk {L : List ByteArray} {m : Nat} {t : Nd} (h : Tree L m t) (hm : m = 2 ∨ m = 3 ∨ m = 4 ∨ m = 5) : ClOk L t := by
  have h2 := okM_clause_kind (okM_two h.may hm)
  obtain ⟨p, g, d, hc⟩ := h.clause hm
  exact .clause (by rw [h2]; decide) p g d hc
theorem Tree.afOk {L : List ByteArray} {t : Nd} (h : Tree L 6 t) : ClOk L t := by
  have h2 := h.may
  cases t with
  | mk k tx nm pl kids =>
    rw [okM_after] at h2
    simp only [Bool.and_eq_true, decide_eq_true_eq] at h2
    match kids, h2, h with
    | [e, d], h2, h =>
      have h3 := h2.2
      rw [okAs_two, Bool.and_eq_true] at h3
      have ho := okN_kids h.ok; have hn := namesIn_kids h.names
      simp only [Nd.kids] at ho hn
      exact .after (plainN_kind h2.1.1) h.ok e d rfl ⟨ho e (by simp), h3.1, hn e (by simp)⟩ (fun x hx => ⟨okN_kids (ho d (by simp)) x hx, okM_body h3.2 x hx, namesIn_kids (hn d (by simp)) x hx⟩)
theorem Tree.quOk {L : List ByteArray} {t : Nd} (h : Tree L 7 t) : QuOk L t := by
  have h2 := h.may
  cases t with
  | mk k tx nm pl kids =>
    rw [okM_qual, Bool.or_eq_true] at h2
    rcases h2 with h2 | h2
    · refine .filter ?_ ⟨h.ok, h2, h.names⟩
      intro e
      simp only [Nd.kind] at e
      subst e
      rw [okM_zero] at h2
      simp [itemH, shapeN] at h2
    · simp only [Bool.and_eq_true, decide_eq_true_eq] at h2
      match kids, h2, h with
      | [p, e], h2, h =>
        have h3 := List.all_eq_true.1 h2.2
        have ho := okN_kids h.ok; have hn := namesIn_kids h.names
        simp only [Nd.kids] at ho hn
        exact .gen (plainN_kind h2.1.1) h.ok p e rfl ⟨ho p (by simp), h3 p (by simp), hn p (by simp)⟩ ⟨ho e (by simp), h3 e (by simp), hn e (by simp)⟩
theorem Tree.if' {L : List ByteArray} {tx : ByteArray} {nm pl : Int} {kids : List Nd} (h : Tree L 0 (.mk 13 tx nm pl kids)) : ∀ t ∈ kids, ClOk L t := by
  have h2 := h.modes
  rw [show kidsM 13 nm kids.length = ([], 4) from rfl, okAs_nil, List.all_eq_true] at h2
  exact fun t ht => (h.memb ht (h2 t ht)).clOk (by omega)
theorem Tree.rec' {L : List ByteArray} {tx : ByteArray} {nm pl : Int} {kids : List Nd} (h : Tree L 0 (.mk 14 tx nm pl kids)) : ∀ t ∈ kids, ClOk L t := by
  have h2 := h.modes
  rw [show kidsM 14 nm kids.length = (List.replicate (kids.length - nm.toNat) 3, 6) from rfl, okAs_rep, Bool.and_eq_true, List.all_eq_true, List.all_eq_true] at h2
  intro t ht
  rw [← List.take_append_drop (kids.length - nm.toNat) kids] at ht
  rcases List.mem_append.1 ht with h3 | h3
  · exact (h.memb (List.mem_of_mem_take h3) (h2.1 t h3)).clOk (by omega)
  · exact (h.memb (List.mem_of_mem_drop h3) (h2.2 t h3)).afOk
/-- Those kinds that an item may be. -/
theorem Tree.kinds {L : List ByteArray} {k : Int} {tx : ByteArray} {nm pl : Int} {kids : List Nd} (h : Tree L 0 (.mk k tx nm pl kids)) : (k = 1 ∨ k = 2 ∨ k = 4 ∨ k = 5 ∨ k = 6 ∨ k = 7) ∨ k = 3 ∨ k = 8 ∨ k = 9 ∨ k = 10 ∨ k = 11 ∨ k = 12 ∨ k = 13 ∨ k = 14 ∨ k = 16 ∨ k = 17 ∨ k = 19 := by
  have h2 := h.may
  rw [okM_zero, Bool.and_eq_true] at h2
  have h3 := h2.1
  have hs : shapeN k ≠ none := fun e => by simp [itemH, e] at h3
  by_cases h1 : (k = 1 ∨ k = 2 ∨ k = 4 ∨ k = 5 ∨ k = 6 ∨ k = 7) ∨ k = 3 ∨ k = 8 ∨ k = 9 ∨ k = 10 ∨ k = 11 ∨ k = 12 ∨ k = 13 ∨ k = 14 ∨ k = 16 ∨ k = 17 ∨ k = 19
  · exact h1
  · refine absurd ?_ hs
    unfold shapeN
    rw [if_neg (by omega), if_neg (by omega), if_neg (by omega), if_neg (by omega), if_neg (by omega), if_neg (by omega), if_neg (by omega), if_neg (by omega), if_neg (by omega), if_neg (by omega), if_neg (by omega), if_neg (by omega), if_neg (by omega), if_neg (by omega), if_neg (by omega), if_neg (by omega), if_neg (by omega)]
end Go.Proofs.YtincajfanhanjaaDoor
