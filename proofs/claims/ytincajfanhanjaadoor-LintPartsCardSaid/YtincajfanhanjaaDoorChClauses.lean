/- The checker's own functions that take a scope: bodies, a clause of a case. checker.clauses of any. -/
import Derived.Test.YtincajfanhanjaaDoorChBody
namespace Go.Proofs.YtincajfanhanjaaDoor
open Go.RowKit Go.Maps

/-- A body in a scope of its own, asked in any world that holds what was. -/
def BodyAt (W : World) (c : Cx) (cb mg mo : Nat) (A : Option Addr) (n k : Nat) (r : Res) : Prop := ∀ W', Keeps NoB W W' → Calls Tryd.prog 36 #[.pointer (some ⟨cb, 0, none⟩), .slice A n k, .map (some mo)] W' (Ends r (fun k => k = cb ∨ k = mg ∨ k = mo) W' (OwnPost c cb mg mo W'))
set_option maxRecDepth 100000 in
set_option maxHeartbeats 1000000 in
theorem own79 (W : World) (c : Cx) (cb mg mo p0 p1 : Nat) (A : Option Addr) (n k : Nat) (r : Res) (c0 : W.cell? ⟨p0, 0, none⟩ = some (.pointer (some ⟨cb, 0, none⟩))) (c1 : W.cell? ⟨p1, 0, none⟩ = some (.slice A n k)) (hB : BodyAt W c cb mg mo A n k r) :
    Calls Tryd.prog 79 #[.map (some mo), .pointer (some ⟨p0, 0, none⟩), .pointer (some ⟨p1, 0, none⟩)] W (Ends r (fun k => k = cb ∨ k = mg ∨ k = mo) W (OwnPost c cb mg mo W)) := by
  have HB := hide (hB W (Keeps.refl _ _))
  clear hB
  go_enter Tryd.func79, Tryd.ntmps79
  go_wp2_with
    first
    | (go_at_call 36
       refine HB.out.mono ?_
       rintro e w2 ⟨hk2, ⟨k9, p9, hr9, he⟩ | ⟨x9, hr9, he, hq⟩⟩
       all_goals have HK2 := hide hk2
       all_goals have HX := hide hr9
       all_goals first
         | (unfold Stops at he
            subst he
            clear hk2 hr9 HB)
         | (have HQ := hide hq
            subst he
            clear hk2 hr9 hq HB))
    | fail
  · exact ⟨rfl, HK2.out, .inl ⟨_, _, HX.out, rfl⟩⟩
  · go_end0
    exact ⟨HK2.out, .inr ⟨x9, HX.out, rfl, HQ.out⟩⟩
set_option maxRecDepth 100000 in
set_option maxHeartbeats 1000000 in
theorem own78 (W : World) (c : Cx) (cb mg mo p0 p1 b o n kc : Nat) (A : Option Addr) (dn dk : Nat) (r : Res) (c0 : W.cell? ⟨p0, 0, none⟩ = some (.pointer (some ⟨cb, 0, none⟩))) (c1 : W.cell? ⟨p1, 0, none⟩ = some (.slice (some ⟨b, o, none⟩) n kc)) (hn : 0 < n) (c2 : W.cell? ⟨b, o + 4, none⟩ = some (.slice A dn dk)) (hB : BodyAt W c cb mg mo A dn dk r) :
    Calls Tryd.prog 78 #[.map (some mo), .pointer (some ⟨p0, 0, none⟩), .pointer (some ⟨p1, 0, none⟩)] W (Ends r (fun k => k = cb ∨ k = mg ∨ k = mo) W (OwnPost c cb mg mo W)) := by
  have HB := hide hB
  have C0 := hide c0; have C1 := hide c1; have C2 := hide c2
  have hn1 : (0 : Int) < (n : Int) := by omega
  clear hB c0 c1 c2
  go_enter Tryd.func78, Tryd.ntmps78
  go_wp2_with fail
  refine order_begin (fun W' => Keeps NoB W W') (fun i => decide (i ≠ 6)) (by kernel_rfl) 7 rfl ?_
  have HS : Keeps NoB W W.drew := (Keeps.refl NoB _).drew
  refine order_held (i := 0) rfl (by kernel_rfl) (fun _ _ _ h => h) (.inl ⟨rfl, fun W hW => by
    have q0 : W.cell? ⟨p0, 0, none⟩ = some (.pointer (some ⟨cb, 0, none⟩)) := hW.cell id C0.out
    go_simp; rfl⟩) HS ?_
  try simp only [Act.put, List.setIfInBounds_toArray, List.set_cons_succ, List.set_cons_zero]
  refine order_held (i := 1) rfl (by kernel_rfl) (fun _ _ _ h => h) (.inl ⟨rfl, fun W hW => by
    have q0 : W.cell? ⟨p1, 0, none⟩ = some (.slice (some ⟨b, o, none⟩) n kc) := hW.cell id C1.out
    go_simp; rfl⟩) HS ?_
  try simp only [Act.put, List.setIfInBounds_toArray, List.set_cons_succ, List.set_cons_zero]
  refine order_pure (i := 2) rfl (by kernel_rfl) (fun _ _ _ h => h) (.inl ⟨rfl, fun _ => by go_simp; rfl⟩) ?_
  try simp only [Act.put, List.setIfInBounds_toArray, List.set_cons_succ, List.set_cons_zero]
  refine order_pure (i := 3) rfl (by kernel_rfl) (fun _ _ _ h => h) (.inl ⟨rfl, fun _ => by go_simp; rfl⟩) ?_
  try simp only [Act.put, List.setIfInBounds_toArray, List.set_cons_succ, List.set_cons_zero]
  refine order_held (i := 4) rfl (by kernel_rfl) (fun _ _ _ h => h) (.inl ⟨rfl, fun W hW => by
    have q0 : W.cell? ⟨b, o + 4, none⟩ = some (.slice A dn dk) := hW.cell id C2.out
    go_simp; rfl⟩) HS ?_
  try simp only [Act.put, List.setIfInBounds_toArray, List.set_cons_succ, List.set_cons_zero]
  refine order_pure (i := 5) rfl (by kernel_rfl) (fun _ _ _ h => h) (.inl ⟨rfl, fun _ => by go_simp; rfl⟩) ?_
  try simp only [Act.put, List.setIfInBounds_toArray, List.set_cons_succ, List.set_cons_zero]
  refine order_one (i := 6) rfl (by kernel_rfl) (fun K hK => ?_)
  go_simp
  refine (HB.out _ HS).mono ?_
  rintro e w2 ⟨hk2, ⟨k9, p9, hr9, he⟩ | ⟨x9, hr9, he, hq⟩⟩
  · unfold Stops at he
    subst he
    exact ⟨rfl, HS.trans' hk2 (fun _ _ h => h.elim) (fun _ _ => id), .inl ⟨_, _, hr9, rfl⟩⟩
  · subst he
    refine hK _ _ (fun h => absurd h (by decide)) ?_
    clear hK
    try simp only [Act.put, List.setIfInBounds_toArray, List.set_cons_succ, List.set_cons_zero]
    refine order_done (by kernel_rfl) ?_
    go_wp2_with fail
    go_end0
    exact ⟨HS.trans' hk2 (fun _ _ h => h.elim) (fun _ _ => id), .inr ⟨x9, hr9, rfl, hq⟩⟩
set_option maxRecDepth 100000 in
set_option maxHeartbeats 1000000 in
theorem own85 (W : World) (c : Cx) (cb mg mo p0 q b o n kc : Nat) (A : Option Addr) (dn dk : Nat) (r : Res) (c0 : W.cell? ⟨p0, 0, none⟩ = some (.pointer (some ⟨cb, 0, none⟩))) (c1 : W.cell? ⟨q, 4, none⟩ = some (.slice (some ⟨b, o, none⟩) n kc)) (hn : 1 < n) (c2 : W.cell? ⟨b, o + 9, none⟩ = some (.slice A dn dk)) (hB : BodyAt W c cb mg mo A dn dk r) :
    Calls Tryd.prog 85 #[.map (some mo), .pointer (some ⟨p0, 0, none⟩), .pointer (some ⟨q, 0, none⟩)] W (Ends r (fun k => k = cb ∨ k = mg ∨ k = mo) W (OwnPost c cb mg mo W)) := by
  have HB := hide hB
  have C0 := hide c0; have C1 := hide c1; have C2 := hide c2
  have hn1 : (1 : Int) < (n : Int) := by omega
  clear hB c0 c1 c2
  go_enter Tryd.func85, Tryd.ntmps85
  go_wp2_with fail
  refine order_begin (fun W' => Keeps NoB W W') (fun i => decide (i ≠ 7)) (by kernel_rfl) 8 rfl ?_
  have HS : Keeps NoB W W.drew := (Keeps.refl NoB _).drew
  refine order_held (i := 0) rfl (by kernel_rfl) (fun _ _ _ h => h) (.inl ⟨rfl, fun W hW => by
    have q0 : W.cell? ⟨p0, 0, none⟩ = some (.pointer (some ⟨cb, 0, none⟩)) := hW.cell id C0.out
    go_simp; rfl⟩) HS ?_
  try simp only [Act.put, List.setIfInBounds_toArray, List.set_cons_succ, List.set_cons_zero]
  refine order_pure (i := 1) rfl (by kernel_rfl) (fun _ _ _ h => h) (.inl ⟨rfl, fun _ => by go_simp; rfl⟩) ?_
  try simp only [Act.put, List.setIfInBounds_toArray, List.set_cons_succ, List.set_cons_zero]
  refine order_held (i := 2) rfl (by kernel_rfl) (fun _ _ _ h => h) (.inl ⟨rfl, fun W hW => by
    have q0 : W.cell? ⟨q, 4, none⟩ = some (.slice (some ⟨b, o, none⟩) n kc) := hW.cell id C1.out
    go_simp; rfl⟩) HS ?_
  try simp only [Act.put, List.setIfInBounds_toArray, List.set_cons_succ, List.set_cons_zero]
  refine order_pure (i := 3) rfl (by kernel_rfl) (fun _ _ _ h => h) (.inl ⟨rfl, fun _ => by go_simp; rfl⟩) ?_
  try simp only [Act.put, List.setIfInBounds_toArray, List.set_cons_succ, List.set_cons_zero]
  refine order_pure (i := 4) rfl (by kernel_rfl) (fun _ _ _ h => h) (.inl ⟨rfl, fun _ => by go_simp; rfl⟩) ?_
  try simp only [Act.put, List.setIfInBounds_toArray, List.set_cons_succ, List.set_cons_zero]
  refine order_held (i := 5) rfl (by kernel_rfl) (fun _ _ _ h => h) (.inl ⟨rfl, fun W hW => by
    have q0 : W.cell? ⟨b, o + 9, none⟩ = some (.slice A dn dk) := hW.cell id C2.out
    go_simp; rfl⟩) HS ?_
  try simp only [Act.put, List.setIfInBounds_toArray, List.set_cons_succ, List.set_cons_zero]
  refine order_pure (i := 6) rfl (by kernel_rfl) (fun _ _ _ h => h) (.inl ⟨rfl, fun _ => by go_simp; rfl⟩) ?_
  try simp only [Act.put, List.setIfInBounds_toArray, List.set_cons_succ, List.set_cons_zero]
  refine order_one (i := 7) rfl (by kernel_rfl) (fun K hK => ?_)
  go_simp
  refine (HB.out _ HS).mono ?_
  rintro e w2 ⟨hk2, ⟨k9, p9, hr9, he⟩ | ⟨x9, hr9, he, hq⟩⟩
  · unfold Stops at he
    subst he
    exact ⟨rfl, HS.trans' hk2 (fun _ _ h => h.elim) (fun _ _ => id), .inl ⟨_, _, hr9, rfl⟩⟩
  · subst he
    refine hK _ _ (fun h => absurd h (by decide)) ?_
    clear hK
    try simp only [Act.put, List.setIfInBounds_toArray, List.set_cons_succ, List.set_cons_zero]
    refine order_done (by kernel_rfl) ?_
    go_wp2_with fail
    go_end0
    exact ⟨HS.trans' hk2 (fun _ _ h => h.elim) (fun _ _ => id), .inr ⟨x9, hr9, rfl, hq⟩⟩
def clR (F : Fns) (p g d : Nd) (S G : Scope) : Res := match patsN p.kids S with
  | .error f => .error f
  | .ok own => restR F g d own G
set_option maxRecDepth 100000 in
set_option maxHeartbeats 4000000 in
theorem own86 (M : Nat) (HR : RestOf M) (W : World) (c : Cx) (cb mg mo p0 q : Nat) (S G : Scope) (t p g d : Nd) (kd : Int) (tx : ByteArray) (nm pl : Int) (ka : Option Addr) (kn kc : Nat) (c0 : W.cell? ⟨p0, 0, none⟩ = some (.pointer (some ⟨cb, 0, none⟩)))
    (hq : Blk W q 29 #[.int .u8 kd, .string tx, .int .i64 nm, .int .i64 pl, .slice ka kn kc]) (hnq : q ≠ cb ∧ q ≠ mg ∧ q ≠ mo ∧ p0 ≠ mo) (ht : NodeIn W (Bt c cb) false [.int .u8 kd, .string tx, .int .i64 nm, .int .i64 pl, .slice ka kn kc] t) (hH : Here c cb mg mo W S G) (hC : Clause c.L t p g d) (hM : Nd.size.sizes d.kids ≤ M) :
    Calls Tryd.prog 86 #[.map (some mo), .pointer (some ⟨q, 0, none⟩), .pointer (some ⟨p0, 0, none⟩)] W (Ends (clR c.F p g d S G) (fun k => k = cb ∨ k = mg ∨ k = mo) W (OwnPost c cb mg mo W)) := by
  obtain ⟨b, o, rfl, hBb, hbl, rfl, ⟨pa, pn, pc, pcs, p4, pr, pni, pnl, pro⟩, _, _⟩ := three_at kd tx nm pl ka kn kc ht hC.kids
  have hpn : pn ≤ 9223372036854775807 := by have := pro.len (by omega); unfold maxLen at this; exact this
  have HE := hide (pats_fold p.kids S)
  have HQB := hide hq; have HNQ := hide hnq; have HT := hide ht; have HH := hide hH; have HC := hide hC; have HPR := hide pr; have HPN := hide pni; have HPL := hide pnl; have HC0 := hide c0
  have HBT := hide (show ∀ k, Bt c cb k → ¬ k = mo from fun k h e => by have h1 := h.1; have h2 := hH.hi; omega)
  have HRR := hide (fun W' own (hk : Keeps (fun k => k = mo) W W') (hs : ScopeL W' c.L mo own) => HR W' c cb mg mo own G t p g d kd tx nm pl _ _ kc (NodeIn.keep hk (fun k h e => by have h1 := h.1; have h2 := hH.hi; omega) _ _ ht) ⟨hH.ck.keep hk (fun e => hH.ne.1 e.symm) (fun e => hH.ne.2 e.symm) (fun k e => by have h2 := hH.hi; omega), hs, hH.ne, hH.hi⟩ hC hM)
  have q4 : W.cell? ⟨q, 4, none⟩ = some (.slice (some ⟨b, o, none⟩) 3 kc) := hq.cell 4
  clear hq hnq ht hH hC hM pr pni pnl pro c0 HR
  go_enter Tryd.func86, Tryd.ntmps86
  go_wp2
  go_loopg [12] pn (fun g0 s12 wx => ∃ (k : Nat) (S' : Scope), k ≤ pn ∧ g0 = pn - k ∧ s12 = .int .i64 k ∧ foldE patN (List.take k p.kids) S = .ok S' ∧ ScopeL wx c.L mo S' ∧ Keeps (fun k => k = mo) W wx)
  case atStart => exact ⟨0, S, Nat.zero_le _, rfl, rfl, by simp [foldE], HH.out.scope, Keeps.refl _ _⟩
  case round =>
    obtain ⟨k, S', hk, rfl, rfl, hf, hs, hkw⟩ := hrel
    have HKW := hide hkw; have HF := hide hf; have HS := hide hs
    have c0 : wr.cell? ⟨p0, 0, none⟩ = some (.pointer (some ⟨cb, 0, none⟩)) := hkw.cell (fun e => HNQ.out.2.2.2 e) HC0.out
    clear hkw hf hs
    by_cases hlt : k < pn
    · obtain ⟨b1, o1, kd1, tx1, nm1, pl1, ka1, kn1, kc1, t1, hA, _, hb1, h1, _, hu, f0, f1, f2, f3, f4⟩ := node_at (HPR.out.keep HKW.out HBT.out) (NodesIn.keep HKW.out HBT.out _ _ HPN.out) k hlt
      subst hA
      have H1 := hide h1; have HU := hide hu
      have HM := hide (List.mem_of_getElem? h1)
      have c1 : (wr.alloc (.cells #[.int .u8 kd1, .string tx1, .int .i64 nm1, .int .i64 pl1, .slice ka1 kn1 kc1] 29)).cell? ⟨p0, 0, none⟩ = some (.pointer (some ⟨cb, 0, none⟩)) := ((Keeps.refl NoB wr).alloc _).cell id c0
      clear h1 hu c0
      have hk1 : (k : Int) < (pn : Int) := by omega
      have hk0 : (0 : Int) ≤ (k : Int) := by omega
      go_wp2_with
        first
        | (go_at_call 37
           refine (pat_any t1 _ (Bt c cb) false c.L cb mo S' kd1 tx1 nm1 pl1 ka1 kn1 kc1 (NodeIn.keep ((Keeps.refl NoB _).alloc _) (fun _ _ => id) _ _ HU.out) HBT.out (HC.out.pats _ HM.out).ok (HC.out.pats _ HM.out).names (HS.out.keep ((Keeps.refl NoB _).alloc _) id) HH.out.ck.few).mono ?_
           rintro e w2 ⟨hk2, ⟨k9, p9, hr9, he⟩ | ⟨S2, hr9, he, hs2⟩⟩
           all_goals have HK2 := hide ((HKW.out.alloc _).trans' hk2 (fun _ _ => id) (fun _ _ => id) : Keeps (fun k => k = mo) W w2)
           all_goals first
             | (have HX := hide (foldE_stop H1.out HF.out hr9)
                unfold Stops at he
                subst he
                clear hk2 hr9)
             | (have HX := hide (foldE_step H1.out HF.out hr9)
                have HS2 := hide hs2
                subst he
                clear hk2 hr9 hs2))
        | fail
      · exact ⟨rfl, HK2.out.mono (fun _ _ h => .inr (.inr h)), .inl ⟨_, _, by unfold clR; rw [HE.out, HX.out], rfl⟩⟩
      · go_roundg (pn - (k + 1))
        case measure => omega
        case rel => exact ⟨k + 1, S2, by omega, rfl, by go_num, HX.out, HS2.out, HK2.out⟩
    · obtain rfl : k = pn := by omega
      have he : List.take k p.kids = p.kids := List.take_of_length_le (by have := HPL.out; omega)
      have hx : patsN p.kids S = .ok S' := by rw [HE.out]; exact he ▸ HF.out
      have HX := hide (show clR c.F p g d S G = restR c.F g d S' G by unfold clR; rw [hx])
      have hqw : Blk wr q 29 #[.int .u8 kd, .string tx, .int .i64 nm, .int .i64 pl, .slice (some ⟨b, o, none⟩) 3 kc] := HQB.out.keep HKW.out (fun e => HNQ.out.2.2.1 e)
      have HQW := hide hqw
      have f0 : wr.cell? ⟨q, 0, none⟩ = some (.int .u8 kd) := HQW.out.cell 0
      have f1 : wr.cell? ⟨q, 1, none⟩ = some (.string tx) := HQW.out.cell 1
      have f2 : wr.cell? ⟨q, 2, none⟩ = some (.int .i64 nm) := HQW.out.cell 2
      have f3 : wr.cell? ⟨q, 3, none⟩ = some (.int .i64 pl) := HQW.out.cell 3
      have f4 : wr.cell? ⟨q, 4, none⟩ = some (.slice (some ⟨b, o, none⟩) 3 kc) := HQW.out.cell 4
      clear he hx hqw
      go_wp2_with
        first
        | (go_at_call 25
           refine (HRR.out _ _ HKW.out HS.out).mono ?_
           rintro e w2 ⟨hk2, ⟨k9, p9, hr9, he⟩ | ⟨x9, hr9, he, hs2, mg2, hc2, hm2⟩⟩
           all_goals have HK2 := hide (HKW.out.trans' (fp'' := fun k => k = cb ∨ k = mg ∨ k = mo) hk2 (fun _ _ h => .inr (.inr h)) (fun _ _ => id) : Keeps (fun k => k = cb ∨ k = mg ∨ k = mo) W w2)
           all_goals have HX2 := hide (HX.out.trans hr9)
           all_goals first
             | (unfold Stops at he
                subst he
                clear hk2 hr9)
             | (have HM2 := hide (hm2.imp id (fun h => Nat.le_trans HKW.out.size h)); have HC2 := hide hc2; have HS2 := hide hs2
                subst he
                clear hk2 hr9 hm2 hc2 hs2))
        | fail
      · exact ⟨rfl, HK2.out, .inl ⟨_, _, HX2.out, rfl⟩⟩
      · go_end0
        exact ⟨HK2.out, .inr ⟨x9, HX2.out, rfl, HS2.out, mg2, HC2.out, HM2.out⟩⟩
end Go.Proofs.YtincajfanhanjaaDoor
namespace Go.Proofs.YtincajfanhanjaaDoor
open Go.RowKit Go.Maps

/-- One of a case's and its like: an after, or a clause. -/
inductive ClOk (L : List ByteArray) (t : Nd) : Prop where
  | after (k : t.kind = 15) (ok : okN t) (e d : Nd) (kids : t.kids = [e, d]) (he : Tree L 0 e) (hd : ∀ x ∈ d.kids, Tree L 0 x)
  | clause (k : t.kind ≠ 15) (p g d : Nd) (h : Clause L t p g d)
def afR (F : Fns) (e d : Nd) (S G : Scope) : Except Flt Scope := match exN F false e S G with
  | .error f => .error f
  | .ok x => innerR S (exsN F true d.kids S x.2)
def clE (F : Fns) (S : Scope) (t : Nd) (G : Scope) : Except Flt Scope := (clN F t S G).map (·.2)
theorem clE_after {F : Fns} {t e d : Nd} (k : t.kind = 15) (kids : t.kids = [e, d]) (S G : Scope) : clE F S t G = afR F e d S G := by
  cases t with
  | mk kd tx nm pl ks =>
    simp only [Nd.kind, Nd.kids] at k kids
    subst k kids
    unfold clE clN afR
    rw [if_pos rfl]
    simp only [bodyK_eq]
    cases exN F false e S G with
    | error f => rfl
    | ok x =>
      obtain ⟨x1, x2⟩ := x
      simp only [innerR]
      cases exsN F true d.kids S x2 with
      | error f => rfl
      | ok y => rfl
theorem clE_clause {F : Fns} {t p g d : Nd} (k : t.kind ≠ 15) (kids : t.kids = [p, g, d]) (S G : Scope) : clE F S t G = innerR S (clR F p g d S G) := by
  cases t with
  | mk kd tx nm pl ks =>
    simp only [Nd.kind, Nd.kids] at k kids
    subst kids
    unfold clE clN clR restR
    rw [if_neg k]
    simp only [bodyK_eq]
    cases patsN p.kids S with
    | error f => rfl
    | ok own =>
      simp only
      cases allGuards g.kids own G with
      | error f => rfl
      | ok u =>
        simp only
        cases exsN F true d.kids own G with
        | error f => rfl
        | ok y => rfl
/-- An after's two in memory. -/
theorem two_at {w : World} {B : Nat → Prop} {F : Bool} {t e d : Nd} (kd : Int) (tx : ByteArray) (nm pl : Int) (ka : Option Addr) (kn kc : Nat) (ht : NodeIn w B F [.int .u8 kd, .string tx, .int .i64 nm, .int .i64 pl, .slice ka kn kc] t) (hk : t.kids = [e, d]) :
    ∃ b o, ka = some ⟨b, o, none⟩ ∧ B b ∧ b < w.heap.size ∧ kn = 2 ∧ (∃ kd1 tx1 nm1 pl1 ka1 kn1 kc1, NodeIn w B F [.int .u8 kd1, .string tx1, .int .i64 nm1, .int .i64 pl1, .slice ka1 kn1 kc1] e ∧ w.cell? ⟨b, o, none⟩ = some (.int .u8 kd1) ∧ w.cell? ⟨b, o + 1, none⟩ = some (.string tx1) ∧ w.cell? ⟨b, o + 2, none⟩ = some (.int .i64 nm1) ∧ w.cell? ⟨b, o + 3, none⟩ = some (.int .i64 pl1) ∧ w.cell? ⟨b, o + 4, none⟩ = some (.slice ka1 kn1 kc1)) ∧
      (∃ da dn dc css, w.cell? ⟨b, o + 9, none⟩ = some (.slice da dn dc) ∧ Reads w B F 5 da dn (List.flatten css) ∧ NodesIn w B F css d.kids ∧ d.kids.length = dn ∧ Roomy dn 64) := by
  obtain ⟨kids, css, rfl, _, hr, hc, hl⟩ := ht.kidsIn
  simp only [Nd.kids] at hk
  subst hk
  obtain rfl : kn = 2 := by simpa using hl.symm
  obtain ⟨b, o, kd0, tx0, nm0, pl0, ka0, kn0, kc0, t0, hA, hB, hb, e0, _, hu0, f0, f1, f2, f3, f4⟩ := node_at hr hc 0 (by omega)
  obtain rfl : e = t0 := by simpa using e0
  subst hA
  obtain ⟨b', o', kd1, tx1, nm1, pl1, ka1, kn1, kc1, t1, hA, _, _, e1, _, hu1, _, _, _, _, g4⟩ := node_at hr hc 1 (by omega)
  obtain rfl : d = t1 := by simpa using e1
  injection hA with hA; injection hA with hA hA'; subst hA; subst hA'
  obtain ⟨k1, c1, q1, ro1, r1, n1, l1⟩ := hu1.kidsIn
  refine ⟨b, o, rfl, hB, hb, rfl, ⟨kd0, tx0, nm0, pl0, ka0, kn0, kc0, hu0, by simpa using f0, by simpa using f1, by simpa using f2, by simpa using f3, by simpa using f4⟩, ⟨ka1, kn1, kc1, c1, by simpa using g4, r1, ?_, ?_, ro1.1⟩⟩
  · rw [q1]; exact n1
  · rw [q1]; exact l1
theorem sizes_kids {t x : Nd} (h : x ∈ t.kids) : x.size < t.size ∧ Nd.size.sizes x.kids < t.size := by
  have hm : ∀ {ts : List Nd}, x ∈ ts → x.size ≤ Nd.size.sizes ts := by
    intro ts
    induction ts with
    | nil => intro h; cases h
    | cons a ts ih =>
      intro h
      simp only [Nd.size.sizes]
      rcases List.mem_cons.1 h with rfl | h
      · omega
      · have := ih h; omega
  cases t with
  | mk k tx nm pl ks =>
    have h1 := hm (show x ∈ ks from h)
    have h2 : Nd.size.sizes x.kids < x.size := by cases x; simp only [Nd.kids, Nd.size]; omega
    simp only [Nd.size]
    omega
def ClausesOf (M : Nat) : Prop := ∀ (w : World) (c : Cx) (cb mg ms : Nat) (S G : Scope) (ts : List Nd) (css : List (List Value)) (A : Option Addr) (n cc : Nat), Reads w (Bt c cb) false 5 A n css.flatten → NodesIn w (Bt c cb) false css ts → ts.length = n → Roomy n 64 →
  Here c cb mg ms w S G → (∀ t ∈ ts, ClOk c.L t) → Nd.size.sizes ts ≤ M →
  Calls Tryd.prog 76 #[.pointer (some ⟨cb, 0, none⟩), .slice A n cc, .map (some ms)] w (Ends (foldE (clE c.F S) ts G) (fun k => k = cb ∨ k = mg) w fun G' e w' => GonePost c cb mg w G' e w')
set_option maxRecDepth 100000 in
set_option maxHeartbeats 8000000 in
theorem clauses_any (M : Nat) (HX : ∀ t : Nd, t.size ≤ M → ExprOf t) (HB : BodyOf M) (HR : RestOf M) : ClausesOf M := by
  intro w c cb mg ms S G ts css A n cc hr hc hln hro hH hT hM
  have hn9 : n ≤ 9223372036854775807 := by have := hro.len (by omega); unfold maxLen at this; exact this
  have hk0 : Keeps NoB w (w.alloc (.cells #[.pointer (some ⟨cb, 0, none⟩)] 49)) := (Keeps.refl NoB w).alloc _
  have HBP := hide (Blk.new w 49 #[.pointer (some ⟨cb, 0, none⟩)])
  have HRD := hide (hr.keep hk0 (fun _ _ => id)); have HC := hide (NodesIn.keep hk0 (fun _ _ => id) _ _ hc); have HLN := hide hln; have HH := hide (hH.keep0 hk0); have HT := hide hT; have HMM := hide hM; have HXX := hide HX; have HBB := hide HB; have HRR := hide HR
  have HLT := hide (show ms < w.heap.size ∧ cb < w.heap.size ∧ mg < w.heap.size ∧ ms ≠ cb ∧ ms ≠ mg ∧ c.hi ≤ ms ∧ c.hi ≤ mg ∧ c.hi ≤ w.heap.size from ⟨hH.scope.lt, hH.ck.blk.lt, hH.ck.gone.lt, hH.ne.1, hH.ne.2, hH.hi, hH.ck.mg, by have h1 := hH.scope.lt; have h2 := hH.hi; omega⟩)
  have HBT := hide (show ∀ k, Bt c cb k → ¬ (k = cb ∨ k = mg) from fun k h e => by have h1 := h.1; have h2 := h.2; have h3 := hH.ck.mg; omega)
  have HK0 := hide hk0
  clear hr hc hln hro hH hT hM HX HB HR hk0
  go_enter Tryd.func76, Tryd.ntmps76
  go_wp2
  go_loopg [10] n (fun g0 s10 wx => ∃ (k : Nat) (G' : Scope) (mg' : Nat), k ≤ n ∧ g0 = n - k ∧ s10 = .int .i64 k ∧ foldE (clE c.F S) (List.take k ts) G = .ok G' ∧ CkS c cb wx mg' G' ∧ (mg' = mg ∨ (w.alloc (.cells #[.pointer (some ⟨cb, 0, none⟩)] 49)).heap.size ≤ mg') ∧ Keeps (fun k => k = cb ∨ k = mg) (w.alloc (.cells #[.pointer (some ⟨cb, 0, none⟩)] 49)) wx)
  case atStart => exact ⟨0, G, mg, Nat.zero_le _, rfl, rfl, by simp [foldE], HH.out.ck, .inl rfl, Keeps.refl _ _⟩
  case round =>
    obtain ⟨k, G1, mg1, hk, rfl, rfl, hf, hck, hm, hkw⟩ := hrel
    have HKW := hide hkw; have HF := hide hf; have HCK := hide hck; have HM := hide hm; clear hkw hf hck hm
    by_cases hlt : k < n
    · obtain ⟨b1, o1, kd1, tx1, nm1, pl1, ka1, kn1, kc1, t1, hA, _, hb1, h1, hsz, hu, f0, f1, f2, f3, f4⟩ := node_at (HRD.out.keep HKW.out HBT.out) (NodesIn.keep HKW.out HBT.out _ _ HC.out) k hlt
      subst hA
      have hk1 : (k : Int) < (n : Int) := by omega
      have hk0 : (0 : Int) ≤ (k : Int) := by omega
      have hwp : (w.alloc (.cells #[.pointer (some ⟨cb, 0, none⟩)] 49)).heap.size = w.heap.size + 1 := by simp
      have hka : Keeps NoB wr (wr.alloc (.cells #[.int .u8 kd1, .string tx1, .int .i64 nm1, .int .i64 pl1, .slice ka1 kn1 kc1] 29)) := (Keeps.refl NoB wr).alloc _
      have HKA := hide hka
      have HBN := hide (Blk.new wr 29 #[.int .u8 kd1, .string tx1, .int .i64 nm1, .int .i64 pl1, .slice ka1 kn1 kc1])
      have hne : w.heap.size ≠ cb ∧ w.heap.size ≠ mg ∧ w.heap.size ≠ mg1 ∧ ms ≠ mg1 ∧ w.heap.size < wr.heap.size ∧ mg1 < wr.heap.size := by
        have h1 := HLT.out; have h2 := HM.out; have h3 := HCK.out.gone.lt; have h4 := HKW.out.size
        rw [hwp] at h2 h4
        refine ⟨?_, ?_, ?_, ?_, ?_, ?_⟩ <;> omega
      have HNE := hide hne
      have hpw : wr.cell? ⟨w.heap.size, 0, none⟩ = some (.pointer (some ⟨cb, 0, none⟩)) := HKW.out.cell (fun (h : w.heap.size = cb ∨ w.heap.size = mg) => h.elim hne.1 hne.2.1) (HBP.out.cell 0)
      have hh : Here c cb mg1 ms wr S G1 := ⟨HCK.out, HH.out.scope.keep HKW.out (fun h => by have h1 := HLT.out; omega), ⟨HLT.out.2.2.2.1, hne.2.2.2.1⟩, HLT.out.2.2.2.2.2.1⟩
      have HHR := hide hh; have HPW := hide hpw
      have hmem := List.mem_of_getElem? h1
      have hkind : t1.kind = kd1 := (nd_text hu).1
      have H1 := hide h1
      have HSZ := hide (show t1.size ≤ M from Nat.le_trans hsz HMM.out)
      have hq0 : (wr.alloc (.cells #[.int .u8 kd1, .string tx1, .int .i64 nm1, .int .i64 pl1, .slice ka1 kn1 kc1] 29)).cell? ⟨w.heap.size, 0, none⟩ = some (.pointer (some ⟨cb, 0, none⟩)) := hka.cell id hpw
      cases HT.out t1 hmem with
      | after hkd hok e d hkids he hd =>
        obtain rfl : kd1 = 15 := hkind.symm.trans hkd
        obtain ⟨b2, o2, rfl, hBb2, hb2, rfl, ⟨kd2, tx2, nm2, pl2, ka2, kn2, kc2, hu2, g0, g1, g2, g3, g4⟩, ⟨da, dn, dc, dcs, d9, dr, dni, dl, dro⟩⟩ := two_at _ _ _ _ _ _ _ hu hkids
        have hesz : e.size ≤ M ∧ Nd.size.sizes d.kids ≤ M := by
          have h1 := (sizes_kids (t := t1) (x := e) (by rw [hkids]; simp)).1
          have h3 := (sizes_kids (t := t1) (x := d) (by rw [hkids]; simp)).2
          have h2 := HSZ.out
          omega
        have HES := hide hesz
        have hbt1 : ∀ k, Bt c cb k → ¬ (k = cb ∨ k = mg1) := fun k h e => by have h1 := h.1; have h2 := h.2; have h3 := HCK.out.mg; omega
        have HBT1 := hide hbt1
        have HEX := hide (fun W (h : Keeps NoB wr W) => HXX.out e HES.out.1 W c cb mg1 ms S G1 kd2 tx2 nm2 pl2 ka2 kn2 kc2 (NodeIn.keep h (fun _ _ => id) _ _ hu2) (HHR.out.keep0 h) he)
        have HDR := hide dr; have HDN := hide dni; have HDL := hide (And.intro dl dro); have HDD := hide hd
        have HC9 := hide d9
        have G0 := hide (hka.cell id g0); have G1' := hide (hka.cell id g1); have G2' := hide (hka.cell id g2); have G3' := hide (hka.cell id g3); have G4' := hide (hka.cell id g4)
        have HQ0 := hide hq0
        have HE := hide (clE_after (F := c.F) hkd hkids S G1)
        have HB2 := hide hBb2
        clear hu h1 hmem hkind hh hne hka hwp hkd hsz hu2 g0 g1 g2 g3 g4 d9 dr dni dl dro he hd hesz hbt1 hq0 hok hkids hBb2
        go_wp2_with fail
        refine order_begin (fun W => Keeps NoB (wr.alloc (.cells #[.int .u8 15, .string tx1, .int .i64 nm1, .int .i64 pl1, .slice (some ⟨b2, o2, none⟩) 2 kc1] 29)) W) (fun i => decide (i ≠ 6)) (by kernel_rfl) 7 rfl ?_
        have HS : Keeps NoB (wr.alloc (.cells #[.int .u8 15, .string tx1, .int .i64 nm1, .int .i64 pl1, .slice (some ⟨b2, o2, none⟩) 2 kc1] 29)) ((wr.alloc (.cells #[.int .u8 15, .string tx1, .int .i64 nm1, .int .i64 pl1, .slice (some ⟨b2, o2, none⟩) 2 kc1] 29))).drew := (Keeps.refl NoB _).drew
        refine order_held (i := 0) rfl (by kernel_rfl) (fun _ _ _ h => h) (.inl ⟨rfl, fun W hW => by
          have q0 : W.cell? ⟨w.heap.size, 0, none⟩ = some (.pointer (some ⟨cb, 0, none⟩)) := hW.cell id HQ0.out
          go_simp; rfl⟩) HS ?_
        try simp only [Act.put, List.setIfInBounds_toArray, List.set_cons_succ, List.set_cons_zero]
        refine order_pure (i := 1) rfl (by kernel_rfl) (fun _ _ _ h => h) (.inl ⟨rfl, fun _ => by go_simp; rfl⟩) ?_
        try simp only [Act.put, List.setIfInBounds_toArray, List.set_cons_succ, List.set_cons_zero]
        refine order_held (i := 2) rfl (by kernel_rfl) (fun _ _ _ h => h) (.inl ⟨rfl, fun W hW => by
          have q0 : W.cell? ⟨wr.heap.size, 4, none⟩ = some (.slice (some ⟨b2, o2, none⟩) 2 kc1) := hW.cell id (HBN.out.cell 4)
          go_simp; rfl⟩) HS ?_
        try simp only [Act.put, List.setIfInBounds_toArray, List.set_cons_succ, List.set_cons_zero]
        refine order_pure (i := 3) rfl (by kernel_rfl) (fun _ _ _ h => h) (.inl ⟨rfl, fun _ => by go_simp; rfl⟩) ?_
        try simp only [Act.put, List.setIfInBounds_toArray, List.set_cons_succ, List.set_cons_zero]
        refine order_held (i := 4) rfl (by kernel_rfl) (fun _ _ _ h => h) (.inl ⟨rfl, fun W hW => by
          have q0 : W.cell? ⟨b2, o2, none⟩ = some (.int .u8 kd2) := hW.cell id G0.out
          have q1 : W.cell? ⟨b2, o2 + 1, none⟩ = some (.string tx2) := hW.cell id G1'.out
          have q2 : W.cell? ⟨b2, o2 + 2, none⟩ = some (.int .i64 nm2) := hW.cell id G2'.out
          have q3 : W.cell? ⟨b2, o2 + 3, none⟩ = some (.int .i64 pl2) := hW.cell id G3'.out
          have q4 : W.cell? ⟨b2, o2 + 4, none⟩ = some (.slice ka2 kn2 kc2) := hW.cell id G4'.out
          go_simp; rfl⟩) HS ?_
        try simp only [Act.put, List.setIfInBounds_toArray, List.set_cons_succ, List.set_cons_zero]
        refine order_pure (i := 5) rfl (by kernel_rfl) (fun _ _ _ h => h) (.inl ⟨rfl, fun _ => by go_simp; rfl⟩) ?_
        try simp only [Act.put, List.setIfInBounds_toArray, List.set_cons_succ, List.set_cons_zero]
        refine order_one (i := 6) rfl (by kernel_rfl) (fun K hK => ?_)
        go_simp
        refine (HEX.out _ (HKA.out.trans' HS (fun _ _ => id) (fun _ _ => id))).mono ?_
        rintro e' w2 ⟨hk2, ⟨k9, p9, hr9, he⟩ | ⟨x9, hr9, he, hx, mg2, hc2, hm2⟩⟩
        all_goals have HKX := hide (((HKW.out.trans' HKA.out (fun _ _ => id) (fun _ _ h => h.elim) : Keeps (fun k => k = cb ∨ k = mg) (w.alloc (.cells #[.pointer (some ⟨cb, 0, none⟩)] 49)) (wr.alloc (.cells #[.int .u8 15, .string tx1, .int .i64 nm1, .int .i64 pl1, .slice (some ⟨b2, o2, none⟩) 2 kc1] 29))).trans' HS (fun _ _ => id) (fun _ _ h => h.elim) : Keeps (fun k => k = cb ∨ k = mg) (w.alloc (.cells #[.pointer (some ⟨cb, 0, none⟩)] 49)) (wr.alloc (.cells #[.int .u8 15, .string tx1, .int .i64 nm1, .int .i64 pl1, .slice (some ⟨b2, o2, none⟩) 2 kc1] 29)).drew).trans' (fp'' := fun k => k = cb ∨ k = mg) hk2 (fun _ _ => id) (fun i hi h => by have h2 := HM.out; rcases h with h | h <;> first | exact .inl h | (rcases h2 with h2 | h2 <;> first | exact .inr (h.trans h2) | omega)) : Keeps (fun k => k = cb ∨ k = mg) (w.alloc (.cells #[.pointer (some ⟨cb, 0, none⟩)] 49)) w2)
        · have HX := hide (foldE_stop (f := clE c.F S) H1.out HF.out (HE.out.trans (by unfold afR; rw [hr9])))
          unfold Stops at he
          subst he
          exact ⟨rfl, HK0.out.trans' HKX.out (fun _ _ h => h.elim) (fun _ _ => id), .inl ⟨_, _, HX.out, rfl⟩⟩
        · subst he
          refine hK _ _ (fun h => absurd h (by decide)) ?_
          clear hK
          try simp only [Act.put, List.setIfInBounds_toArray, List.set_cons_succ, List.set_cons_zero]
          refine order_done (by kernel_rfl) ?_
          have hne := HNE.out
          have hk2' : Keeps (fun k => k = cb ∨ k = mg1) (wr.alloc (.cells #[.int .u8 15, .string tx1, .int .i64 nm1, .int .i64 pl1, .slice (some ⟨b2, o2, none⟩) 2 kc1] 29)) w2 := HS.trans' hk2 (fun _ _ h => h.elim) (fun _ _ => id)
          have hsz2 : wr.heap.size + 1 ≤ w2.heap.size := by have := hk2'.size; simpa using this
          have HK2 := hide hk2'; have HC2 := hide hc2; have HM2 := hide hm2
          have hms2 : Here c cb mg2 ms w2 S x9.2 := ⟨hc2, (HHR.out.keep0 HKA.out).scope.keep hk2' (fun h => h.elim HHR.out.ne.1 HHR.out.ne.2), ⟨HHR.out.ne.1, by
            have h1 := HHR.out.ne.2; have h3 := HHR.out.scope.lt
            rcases hm2 with h | h
            · omega
            · simp at h; omega⟩, HHR.out.hi⟩
          have hq2 : w2.cell? ⟨w.heap.size, 0, none⟩ = some (.pointer (some ⟨cb, 0, none⟩)) := hk2'.cell (fun (h : w.heap.size = cb ∨ w.heap.size = mg1) => h.elim hne.1 hne.2.2.1) HQ0.out
          have hn2 : Blk w2 wr.heap.size 29 #[.int .u8 15, .string tx1, .int .i64 nm1, .int .i64 pl1, .slice (some ⟨b2, o2, none⟩) 2 kc1] := HBN.out.keep hk2' (fun h => by have h3 := HCK.out.blk.lt; omega)
          have hd2 : w2.cell? ⟨b2, o2 + 9, none⟩ = some (.slice da dn dc) := hk2'.cell (fun h => HBT1.out _ HB2.out h) (HKA.out.cell id HC9.out)
          have HWW := hide (HKA.out.trans' hk2' (fun _ _ h => h.elim) (fun _ _ => id) : Keeps (fun k => k = cb ∨ k = mg1) wr w2)
          have HI := hide (inner_85 c w2 cb mg2 ms S x9.2 ⟨w.heap.size, 0, none⟩ ⟨wr.heap.size, 0, none⟩ (exsN c.F true d.kids S x9.2) hms2.ck hms2.scope hms2.ne (fun W mo hk hmo hs hc => own85 W c cb mg2 mo w.heap.size wr.heap.size b2 o2 2 kc1 da dn dc _ (hk.cell id hq2) ((hn2.keep hk id).cell 4) (by omega) (hk.cell id hd2) (fun W' hk' => HBB.out W' c cb mg2 mo S x9.2 d.kids dcs da dn dc
            (HDR.out.keep (HWW.out.trans' (hk.trans' hk' (fun _ _ => id) (fun _ _ => id) : Keeps NoB w2 W') (fun _ _ => id) (fun _ _ h => h.elim) : Keeps (fun k => k = cb ∨ k = mg1) wr W') HBT1.out)
            (NodesIn.keep (HWW.out.trans' (hk.trans' hk' (fun _ _ => id) (fun _ _ => id) : Keeps NoB w2 W') (fun _ _ => id) (fun _ _ h => h.elim) : Keeps (fun k => k = cb ∨ k = mg1) wr W') HBT1.out _ _ HDN.out) HDL.out.1 HDL.out.2
            ((Here.own hc hs hmo hms2.ck.gone.lt).keep0 hk') HDD.out HES.out.2)))
          have HXE := hide (show afR c.F e d S G1 = innerR S (exsN c.F true d.kids S x9.2) by unfold afR; rw [hr9])
          clear hk2 hk2' hc2 hm2 hms2 hn2 hd2 hsz2 hne hr9 hx HS
          go_wp2_with
            first
            | (go_at_call 77
               refine HI.out.mono ?_
               rintro e w3 ⟨hk3, ⟨k9, p9, hr9, he⟩ | ⟨G3, hr9, he, mg3, hc3, hm3⟩⟩
               all_goals have HK3 := hide (HKX.out.trans' (fp'' := fun k => k = cb ∨ k = mg) hk3 (fun _ _ => id) (fun i hi h => by have h2 := HM.out; have h3 := HM2.out; have h4 := HKW.out.size; have h5 := HKA.out.size; rcases h with h | h <;> first | exact .inl h | (rcases h3 with h3 | h3 <;> rcases h2 with h2 | h2 <;> first | exact .inr (h.trans (h3.trans h2)) | (simp at *; omega))) : Keeps (fun k => k = cb ∨ k = mg) (w.alloc (.cells #[.pointer (some ⟨cb, 0, none⟩)] 49)) w3)
               all_goals first
                 | (have HX := hide (foldE_stop (f := clE c.F S) H1.out HF.out (HE.out.trans (HXE.out.trans hr9)))
                    unfold Stops at he
                    subst he
                    clear hk3 hr9 HI)
                 | (have HX := hide (foldE_step (f := clE c.F S) H1.out HF.out (HE.out.trans (HXE.out.trans hr9)))
                    have HM3 := hide (mg_step (mg_step HM.out HM2.out (Nat.le_trans HKW.out.size HKA.out.size)) hm3 (Nat.le_trans HKW.out.size (Nat.le_trans HKA.out.size HK2.out.size))); have HC3 := hide hc3
                    subst he
                    clear hk3 hr9 hm3 hc3 HI))
            | fail
          · exact ⟨rfl, HK0.out.trans' HK3.out (fun _ _ h => h.elim) (fun _ _ => id), .inl ⟨_, _, HX.out, rfl⟩⟩
          · go_roundg (n - (k + 1))
            case measure => omega
            case rel => exact ⟨k + 1, G3, mg3, by omega, rfl, by go_num, HX.out, HC3.out, HM3.out, HK3.out⟩
      | clause hkd p g d hcl =>
        have hkb : (kd1 == 15) = false := by simpa using fun e => hkd (hkind.trans e)
        have HI := hide (inner_86 c (wr.alloc (.cells #[.int .u8 kd1, .string tx1, .int .i64 nm1, .int .i64 pl1, .slice ka1 kn1 kc1] 29)) cb mg1 ms S G1 ⟨wr.heap.size, 0, none⟩ ⟨w.heap.size, 0, none⟩ (clR c.F p g d S G1) (hh.keep0 hka).ck (hh.keep0 hka).scope hh.ne (fun W mo hk hmo hs hc => own86 M HRR.out W c cb mg1 mo w.heap.size wr.heap.size S G1 t1 p g d kd1 tx1 nm1 pl1 ka1 kn1 kc1 (hk.cell id hq0) (HBN.out.keep hk id) (by
          have h1 := HNE.out
          have h2 : (wr.alloc (.cells #[.int .u8 kd1, .string tx1, .int .i64 nm1, .int .i64 pl1, .slice ka1 kn1 kc1] 29)).heap.size = wr.heap.size + 1 := by simp
          have h3 := HCK.out.blk.lt
          rw [h2] at hmo
          refine ⟨?_, ?_, ?_, ?_⟩ <;> omega) (NodeIn.keep (hka.trans' hk (fun _ _ => id) (fun _ _ => id) : Keeps NoB wr W) (fun _ _ => id) _ _ hu) (Here.own hc hs hmo (by have h1 := HNE.out; simp; omega)) hcl (by
          have h1 := (sizes_kids (t := t1) (x := d) (by rw [hcl.kids]; simp)).2
          have h2 := HSZ.out
          omega)))
        have HE := hide (clE_clause (F := c.F) hkd hcl.kids S G1)
        clear hu h1 hmem hkind hh hne hka hwp hkd hcl hsz
        go_wp2_with
          first
          | (go_at_call 77
             refine HI.out.mono ?_
             rintro e w2 ⟨hk2, ⟨k9, p9, hr9, he⟩ | ⟨G2, hr9, he, mg2, hc2, hm2⟩⟩
             all_goals have HK2 := hide ((HKW.out.trans' HKA.out (fun _ _ => id) (fun _ _ h => h.elim) : Keeps (fun k => k = cb ∨ k = mg) (w.alloc (.cells #[.pointer (some ⟨cb, 0, none⟩)] 49)) (wr.alloc (.cells #[.int .u8 kd1, .string tx1, .int .i64 nm1, .int .i64 pl1, .slice ka1 kn1 kc1] 29))).trans' (fp'' := fun k => k = cb ∨ k = mg) hk2 (fun _ _ => id) (fun i hi h => by have h2 := HM.out; rcases h with h | h <;> first | exact .inl h | (rcases h2 with h2 | h2 <;> first | exact .inr (h.trans h2) | omega)) : Keeps (fun k => k = cb ∨ k = mg) (w.alloc (.cells #[.pointer (some ⟨cb, 0, none⟩)] 49)) w2)
             all_goals first
               | (have HX := hide (foldE_stop (f := clE c.F S) H1.out HF.out (HE.out.trans hr9))
                  unfold Stops at he
                  subst he
                  clear hk2 hr9 HI)
               | (have HX := hide (foldE_step (f := clE c.F S) H1.out HF.out (HE.out.trans hr9))
                  have HM2 := hide (mg_step HM.out hm2 (Nat.le_trans HKW.out.size HKA.out.size)); have HC2 := hide hc2
                  subst he
                  clear hk2 hr9 hm2 hc2 HI))
          | fail
        · exact ⟨rfl, HK0.out.trans' HK2.out (fun _ _ h => h.elim) (fun _ _ => id), .inl ⟨_, _, HX.out, rfl⟩⟩
        · go_roundg (n - (k + 1))
          case measure => omega
          case rel => exact ⟨k + 1, G2, mg2, by omega, rfl, by go_num, HX.out, HC2.out, HM2.out, HK2.out⟩
    · obtain rfl : k = n := by omega
      have he : List.take k ts = ts := List.take_of_length_le (by have := HLN.out; omega)
      have HX := hide (he ▸ HF.out)
      clear he
      go_wp2
      go_end0
      exact ⟨HK0.out.trans' HKW.out (fun _ _ h => h.elim) (fun _ _ => id), .inr ⟨G1, HX.out, rfl, mg1, HCK.out, HM.out.imp id (fun h => Nat.le_trans HK0.out.size h)⟩⟩
end Go.Proofs.YtincajfanhanjaaDoor
