/- checker.item, checker.body, checker.rest, of expressions that hold to what is asked. checker.rest of any clause. -/
import Derived.Test.YtincajfanhanjaaDoorChInner
namespace Go.Proofs.YtincajfanhanjaaDoor
open Go.RowKit Go.Maps

/-- A tree that may be, whose names are known. -/
structure Tree (L : List ByteArray) (m : Nat) (t : Nd) : Prop where
  ok : okN t
  may : okM m t = true
  names : namesIn L t
theorem namesIn_kids {L : List ByteArray} {t : Nd} (h : namesIn L t) : ∀ x ∈ t.kids, namesIn L x := by
  cases t; unfold namesIn at h; exact namesIns_mem h.2
theorem okN_kids {t : Nd} (h : okN t) : ∀ x ∈ t.kids, okN x := by
  cases t; unfold okN at h; exact okNs_mem h.2.2.2.2
structure Here (c : Cx) (cb mg ms : Nat) (w : World) (S G : Scope) : Prop where
  ck : CkS c cb w mg G
  scope : ScopeL w c.L ms S
  ne : ms ≠ cb ∧ ms ≠ mg
  hi : c.hi ≤ ms
theorem Here.keep0 {c : Cx} {cb mg ms : Nat} {w w' : World} {S G : Scope} (h : Here c cb mg ms w S G) (hk : Keeps NoB w w') : Here c cb mg ms w' S G := ⟨h.ck.keep0 hk, h.scope.keep hk id, h.ne, h.hi⟩
theorem Here.own {c : Cx} {cb mg mo : Nat} {w w' : World} {S G : Scope} (hc : CkS c cb w mg G) (hs : ScopeL w c.L mo S) (hm : w'.heap.size ≤ mo) (h1 : mg < w'.heap.size) : Here c cb mg mo w S G := by
  have h2 := hc.cb; have h3 := hc.mg
  exact ⟨hc, hs, ⟨by omega, by omega⟩, by omega⟩
def ExPost (c : Cx) (cb mg : Nat) (W : World) (S : Scope) (x : Scope × Scope) (e : Ending) (w' : World) : Prop :=
  e = .returned (.tuple #[]) ∧ x.1 = S ∧ ∃ mg', CkS c cb w' mg' x.2 ∧ (mg' = mg ∨ W.heap.size ≤ mg')
def ExprOf (t : Nd) : Prop := ∀ (w : World) (c : Cx) (cb mg ms : Nat) (S G : Scope) (kd : Int) (tx : ByteArray) (nm pl : Int) (ka : Option Addr) (kn kc : Nat), NodeIn w (Bt c cb) false [.int .u8 kd, .string tx, .int .i64 nm, .int .i64 pl, .slice ka kn kc] t → Here c cb mg ms w S G → Tree c.L 0 t →
  Calls Tryd.prog 62 #[.pointer (some ⟨cb, 0, none⟩), .agg #[.int .u8 kd, .string tx, .int .i64 nm, .int .i64 pl, .slice ka kn kc], .map (some ms)] w (Ends (exN c.F false t S G) (fun k => k = cb ∨ k = mg) w (ExPost c cb mg w S))
def ItemOf (t : Nd) : Prop := ∀ (w : World) (c : Cx) (cb mg ms : Nat) (S G : Scope) (kd : Int) (tx : ByteArray) (nm pl : Int) (ka : Option Addr) (kn kc : Nat), NodeIn w (Bt c cb) false [.int .u8 kd, .string tx, .int .i64 nm, .int .i64 pl, .slice ka kn kc] t → Here c cb mg ms w S G → Tree c.L 0 t →
  Calls Tryd.prog 46 #[.pointer (some ⟨cb, 0, none⟩), .agg #[.int .u8 kd, .string tx, .int .i64 nm, .int .i64 pl, .slice ka kn kc], .map (some ms)] w (Ends (exN c.F true t S G) (fun k => k = cb ∨ k = mg ∨ k = ms) w (OwnPost c cb mg ms w))
theorem ex_item {F : Fns} {t : Nd} (h : t.kind ≠ 8) (S G : Scope) : exN F true t S G = exN F false t S G := by
  cases t
  have h8 : ¬ _ = (8 : Int) := h
  simp only [Nd.kind] at h8
  unfold exN; rw [if_neg h8, if_neg h8]
theorem Tree.kid8 {L : List ByteArray} {tx : ByteArray} {nm pl : Int} {kids : List Nd} (h : Tree L 0 (.mk 8 tx nm pl kids)) : ∃ p e, kids = [p, e] ∧ Tree L 0 p ∧ Tree L 0 e := by
  have h2 := okM_least h.may (show shapeN 8 = some (0, 105, 0, 2, 2) from rfl)
  have hl : kids.length = 2 := by have := h2.1; rcases h2.2.1 with h | h <;> omega
  have hk := okM_kids h.may (by omega)
  match kids, hl with
  | [p, e], _ => exact ⟨p, e, rfl, ⟨okN_kids h.ok p (by simp [Nd.kids]), hk p (by simp), namesIn_kids h.names p (by simp [Nd.kids])⟩, ⟨okN_kids h.ok e (by simp [Nd.kids]), hk e (by simp), namesIn_kids h.names e (by simp [Nd.kids])⟩⟩
set_option maxRecDepth 100000 in
set_option maxHeartbeats 4000000 in
theorem item_of' (M : Nat) (HE : ∀ t : Nd, t.size ≤ M → ExprOf t) (n : Nat) (IH : ∀ t : Nd, t.size ≤ n → t.size ≤ M → ItemOf t) (t : Nd) (hn : t.size ≤ n + 1) (hM : t.size ≤ M) : ItemOf t := by
  intro w c cb mg ms S G kd tx nm pl ka kn kc ht hH hT
  by_cases h8 : kd = 8
  · subst h8
    obtain ⟨kids, css, rfl, hroom, hr, hc, hkl⟩ := ht.kidsIn
    obtain ⟨p, e, rfl, hp, he⟩ := hT.kid8
    obtain rfl : kn = 2 := by simpa using hkl.symm
    obtain ⟨b, o, kd0, tx0, nm0, pl0, ka0, kn0, kc0, t0, hA, hBt, _, e0, _, hu0, f0, f1, f2, f3, f4⟩ := node_at hr hc 0 (by omega)
    obtain rfl : p = t0 := by simpa using e0
    subst hA
    obtain ⟨b', o', kd1, tx1, nm1, pl1, ka1, kn1, kc1, t1, hA, _, _, e1, _, hu1, g0, g1, g2, g3, g4⟩ := node_at hr hc 1 (by omega)
    obtain rfl : e = t1 := by simpa using e1
    injection hA with hA; injection hA with hA hA'; subst hA; subst hA'
    have hsz : p.size ≤ n ∧ e.size ≤ n ∧ e.size ≤ M := by
      simp only [Nd.size, Nd.size.sizes] at hn hM
      omega
    have hk0 : Keeps NoB w (w.alloc (.cells #[.int .u8 8, .string tx, .int .i64 nm, .int .i64 pl, .slice (some ⟨b, o, none⟩) 2 kc] 29)) := (Keeps.refl NoB w).alloc _
    have HK := hide hk0
    have d0 : (w.alloc (.cells #[.int .u8 8, .string tx, .int .i64 nm, .int .i64 pl, .slice (some ⟨b, o, none⟩) 2 kc] 29)).cell? ⟨b, o + 5, none⟩ = some (.int .u8 kd1) := hk0.cell id (by simpa using g0)
    have d1 : (w.alloc (.cells #[.int .u8 8, .string tx, .int .i64 nm, .int .i64 pl, .slice (some ⟨b, o, none⟩) 2 kc] 29)).cell? ⟨b, o + 6, none⟩ = some (.string tx1) := hk0.cell id (by simpa using g1)
    have d2 : (w.alloc (.cells #[.int .u8 8, .string tx, .int .i64 nm, .int .i64 pl, .slice (some ⟨b, o, none⟩) 2 kc] 29)).cell? ⟨b, o + 7, none⟩ = some (.int .i64 nm1) := hk0.cell id (by simpa using g2)
    have d3 : (w.alloc (.cells #[.int .u8 8, .string tx, .int .i64 nm, .int .i64 pl, .slice (some ⟨b, o, none⟩) 2 kc] 29)).cell? ⟨b, o + 8, none⟩ = some (.int .i64 pl1) := hk0.cell id (by simpa using g3)
    have d4 : (w.alloc (.cells #[.int .u8 8, .string tx, .int .i64 nm, .int .i64 pl, .slice (some ⟨b, o, none⟩) 2 kc] 29)).cell? ⟨b, o + 9, none⟩ = some (.slice ka1 kn1 kc1) := hk0.cell id (by simpa using g4)
    have HBX := hide (Blk.new w 29 #[.int .u8 8, .string tx, .int .i64 nm, .int .i64 pl, .slice (some ⟨b, o, none⟩) 2 kc])
    have HI := hide (IH e hsz.2.1 hsz.2.2 _ c cb mg ms S G kd1 tx1 nm1 pl1 ka1 kn1 kc1 (NodeIn.keep hk0 (fun _ _ => id) _ _ hu1) (hH.keep0 hk0) he)
    have HF := hide (And.intro f0 (And.intro f1 (And.intro f2 (And.intro f3 f4))))
    have HU := hide hu0; have HP := hide hp; have HH := hide hH
    have HR : Hid (exN c.F true (.mk 8 tx nm pl [p, e]) S G = match exN c.F true e S G with
      | .error f => .error f
      | .ok (S1, G1) => (match patN p S1 with
        | .error f => .error f
        | .ok S2 => .ok (S2, G1))) := hide (by
      conv => lhs; unfold exN; rw [if_pos rfl, if_pos rfl]
      rfl)
    have HBT := hide hBt
    clear ht hH hT hr hc hroom hkl hp he e0 e1 hu0 hu1 f0 f1 f2 f3 f4 g0 g1 g2 g3 g4 IH HE hsz hn hM hk0 hBt
    go_enter Tryd.func46, Tryd.ntmps46
    go_wp2_with
      first
      | (go_at_call 46
         refine HI.out.mono ?_
         rintro e w2 ⟨hk2, ⟨k9, p9, hr9, he⟩ | ⟨x9, hr9, he, hs2, mg', hc2, hm2⟩⟩
         all_goals have HK2 := hide (HK.out.trans' (fp'' := fun k => k = cb ∨ k = mg ∨ k = ms) hk2 (fun _ _ h => h.elim) (fun _ _ => id) : Keeps (fun k => k = cb ∨ k = mg ∨ k = ms) w w2)
         all_goals first
           | (unfold Stops at he
              have HX := hide (HR.out.trans (by rw [hr9]))
              subst he
              clear hk2 hr9 HI)
           | (have HX := hide (HR.out.trans (by rw [hr9]))
              have hbl := HH.out.ck.cb
              have hnb : ¬ (b = cb ∨ b = mg ∨ b = ms) := fun h => by have h1 := HBT.out.1; have h2 := HBT.out.2; have h3 := HH.out.ck.mg; have h4 := HH.out.hi; omega
              have q4 : w2.cell? ⟨w.heap.size, 4, none⟩ = some (.slice (some ⟨b, o, none⟩) 2 kc) := hk2.cell (fun (h : w.heap.size = cb ∨ w.heap.size = mg ∨ w.heap.size = ms) => by have h1 := HH.out.ck.blk.lt; have h2 := HH.out.ck.gone.lt; have h3 := HH.out.scope.lt; omega) (HBX.out.cell 4)
              have f0 : w2.cell? ⟨b, o, none⟩ = some (.int .u8 kd0) := by have h := HK2.out.cell hnb HF.out.1; simpa using h
              have f1 : w2.cell? ⟨b, o + 1, none⟩ = some (.string tx0) := by have h := HK2.out.cell hnb HF.out.2.1; simpa using h
              have f2 : w2.cell? ⟨b, o + 2, none⟩ = some (.int .i64 nm0) := by have h := HK2.out.cell hnb HF.out.2.2.1; simpa using h
              have f3 : w2.cell? ⟨b, o + 3, none⟩ = some (.int .i64 pl0) := by have h := HK2.out.cell hnb HF.out.2.2.2.1; simpa using h
              have f4 : w2.cell? ⟨b, o + 4, none⟩ = some (.slice ka0 kn0 kc0) := by have h := HK2.out.cell hnb HF.out.2.2.2.2; simpa using h
              have HM2 := hide hm2; have HC2 := hide hc2; have HS2 := hide hs2
              have HU2 := hide (NodeIn.keep HK2.out (fun k h e => by have h1 := h.1; have h2 := h.2; have h3 := HH.out.ck.mg; have h4 := HH.out.hi; omega) _ _ HU.out)
              subst he
              clear hk2 hr9 HI hm2 hc2 hs2 hbl hnb))
      | (go_at_call 37
         refine (pat_any p _ _ _ c.L cb ms x9.1 kd0 tx0 nm0 pl0 ka0 kn0 kc0 HU2.out (fun k h e => by have h1 := h.1; have h4 := HH.out.hi; omega) HP.out.ok HP.out.names HS2.out HC2.out.few).mono ?_
         rintro e w3 ⟨hk3, ⟨k9, p9, hr9, he⟩ | ⟨S3, hr9, he, hs3⟩⟩
         all_goals have HK3 := hide (HK2.out.trans' (fp'' := fun k => k = cb ∨ k = mg ∨ k = ms) hk3 (fun _ _ => id) (fun _ _ h => .inr (.inr h)) : Keeps (fun k => k = cb ∨ k = mg ∨ k = ms) w w3)
         all_goals first
           | (unfold Stops at he
              have HX3 := hide (HX.out.trans (by rw [hr9]))
              subst he
              clear hk3 hr9)
           | (have HX3 := hide (HX.out.trans (by rw [hr9]))
              have HS3 := hide hs3
              have HC3 := hide (HC2.out.keep hk3 (fun e => by have := HH.out.ne.1; omega) (fun e => by have h1 := HM2.out; have h2 := HH.out.ne.2; have h3 := HH.out.scope.lt; have h4 := HK.out.size; rcases h1 with h1 | h1 <;> omega) (fun k e => by have := HH.out.hi; omega))
              subst he
              clear hk3 hr9 hs3))
      | fail
    · exact ⟨rfl, HK2.out, .inl ⟨_, _, HX.out, rfl⟩⟩
    · exact ⟨rfl, HK3.out, .inl ⟨_, _, HX3.out, rfl⟩⟩
    · go_end0
      exact ⟨HK3.out, .inr ⟨_, HX3.out, rfl, HS3.out, mg', HC3.out, HM2.out.imp id (fun h => Nat.le_trans HK.out.size h)⟩⟩
  · have h8b : (kd != 8) = true := by simpa using h8
    have hk0 : Keeps NoB w (w.alloc (.cells #[.int .u8 kd, .string tx, .int .i64 nm, .int .i64 pl, .slice ka kn kc] 29)) := (Keeps.refl NoB w).alloc _
    have HK := hide hk0
    have HI := hide (HE t hM _ c cb mg ms S G kd tx nm pl ka kn kc (NodeIn.keep hk0 (fun _ _ => id) _ _ ht) (hH.keep0 hk0) hT)
    have HQ := hide (ex_item (F := c.F) (t := t) (by rw [(nd_text ht).1]; exact h8) S G)
    have HH := hide hH
    clear ht hH hT IH HE hn hM hk0 h8
    go_enter Tryd.func46, Tryd.ntmps46
    go_wp2_with
      first
      | (go_at_call 62
         refine HI.out.mono ?_
         rintro e w2 ⟨hk2, ⟨k9, p9, hr9, he⟩ | ⟨x9, hr9, he, hx, mg', hc2, hm2⟩⟩
         all_goals have HK2 := hide (HK.out.trans' (fp'' := fun k => k = cb ∨ k = mg ∨ k = ms) hk2 (fun _ _ h => h.elim) (fun _ _ h => h.elim .inl (fun h => .inr (.inl h))) : Keeps (fun k => k = cb ∨ k = mg ∨ k = ms) w w2)
         all_goals have HX := hide (HQ.out.trans hr9)
         all_goals first
           | (unfold Stops at he
              subst he
              clear hk2 hr9 HI)
           | (have HM2 := hide hm2; have HC2 := hide hc2
              have HS2 := hide (hx ▸ (HH.out.scope.keep HK.out id).keep hk2 (fun h => h.elim HH.out.ne.1 HH.out.ne.2) : ScopeL w2 c.L ms x9.1)
              subst he
              clear hk2 hr9 HI hm2 hc2 hx))
      | fail
    · exact ⟨rfl, HK2.out, .inl ⟨_, _, HX.out, rfl⟩⟩
    · refine bodyPost_ret (results_none rfl _ _ _) rfl ?_
      exact ⟨HK2.out, .inr ⟨_, HX.out, rfl, HS2.out, mg', HC2.out, HM2.out.imp id (fun h => Nat.le_trans HK.out.size h)⟩⟩
theorem item_any (M : Nat) (HE : ∀ t : Nd, t.size ≤ M → ExprOf t) (t : Nd) (hM : t.size ≤ M) : ItemOf t := by
  have H : ∀ n, ∀ t : Nd, t.size ≤ n → t.size ≤ M → ItemOf t := by
    intro n
    induction n with
    | zero => intro t h; have := t.size_pos; omega
    | succ n IH => intro t h hM; exact item_of' M HE n IH t h hM
  exact H _ t (Nat.le_refl _) hM
theorem mg_step {mg mg' mg'' a b : Nat} (h : mg' = mg ∨ a ≤ mg') (h2 : mg'' = mg' ∨ b ≤ mg'') (h3 : a ≤ b) : mg'' = mg ∨ a ≤ mg'' := by
  rcases h with h | h <;> rcases h2 with h2 | h2 <;> omega
def BodyOf (M : Nat) : Prop := ∀ (w : World) (c : Cx) (cb mg ms : Nat) (S G : Scope) (ts : List Nd) (css : List (List Value)) (A : Option Addr) (n cc : Nat), Reads w (Bt c cb) false 5 A n css.flatten → NodesIn w (Bt c cb) false css ts → ts.length = n → Roomy n 64 →
  Here c cb mg ms w S G → (∀ t ∈ ts, Tree c.L 0 t) → Nd.size.sizes ts ≤ M →
  Calls Tryd.prog 36 #[.pointer (some ⟨cb, 0, none⟩), .slice A n cc, .map (some ms)] w (Ends (exsN c.F true ts S G) (fun k => k = cb ∨ k = mg ∨ k = ms) w (OwnPost c cb mg ms w))
set_option maxRecDepth 100000 in
set_option maxHeartbeats 4000000 in
theorem body_any (M : Nat) (HI : ∀ t : Nd, t.size ≤ M → ItemOf t) : BodyOf M := by
  intro w c cb mg ms S G ts css A n cc hr hc hln hro hH hT hM
  have hn9 : n ≤ 9223372036854775807 := by have := hro.len (by omega); unfold maxLen at this; exact this
  have HE := hide (exs_fold c.F true ts S G)
  have HR := hide hr; have HC := hide hc; have HLN := hide hln; have HH := hide hH; have HT := hide hT; have HMM := hide hM; have HII := hide HI
  have hlt : ms < w.heap.size ∧ cb < w.heap.size ∧ mg < w.heap.size ∧ ms ≠ cb ∧ ms ≠ mg ∧ c.hi ≤ ms ∧ c.hi ≤ mg := ⟨hH.scope.lt, hH.ck.blk.lt, hH.ck.gone.lt, hH.ne.1, hH.ne.2, hH.hi, hH.ck.mg⟩
  have HLT := hide hlt
  have HB := hide (show ∀ k, Bt c cb k → ¬ (k = cb ∨ k = mg ∨ k = ms) from fun k h e => by have h1 := h.1; have h2 := h.2; omega)
  clear hr hc hln hro hH hT hM HI hlt
  go_enter Tryd.func36, Tryd.ntmps36
  go_wp2
  go_loopg [10] n (fun g s10 wx => ∃ (k : Nat) (x : Scope × Scope) (mg' : Nat), k ≤ n ∧ g = n - k ∧ s10 = .int .i64 k ∧ foldE (fun t s => exN c.F true t s.1 s.2) (List.take k ts) (S, G) = .ok x ∧ ScopeL wx c.L ms x.1 ∧ CkS c cb wx mg' x.2 ∧ (mg' = mg ∨ w.heap.size ≤ mg') ∧ Keeps (fun k => k = cb ∨ k = mg ∨ k = ms) w wx)
  case atStart => exact ⟨0, (S, G), mg, Nat.zero_le _, rfl, rfl, by simp [foldE], HH.out.scope, HH.out.ck, .inl rfl, Keeps.refl _ _⟩
  case round =>
    obtain ⟨k, x, mg', hk, rfl, rfl, hf, hs, hc, hm, hkw⟩ := hrel
    have HKW := hide hkw; have HF := hide hf; have HS := hide hs; have HCK := hide hc; have HM := hide hm; clear hkw hf hs hc hm
    by_cases hlt : k < n
    · obtain ⟨b, o, kd1, tx1, nm1, pl1, ka1, kn1, kc1, t1, hA, _, hb1, h1, hsz, hu, f0, f1, f2, f3, f4⟩ := node_at (HR.out.keep HKW.out HB.out) (NodesIn.keep HKW.out HB.out _ _ HC.out) k hlt
      subst hA
      have hka : Keeps NoB wr (wr.alloc (.cells #[.int .u8 kd1, .string tx1, .int .i64 nm1, .int .i64 pl1, .slice ka1 kn1 kc1] 29)) := (Keeps.refl NoB wr).alloc _
      have hh : Here c cb mg' ms wr x.1 x.2 := ⟨HCK.out, HS.out, ⟨HLT.out.2.2.2.1, by have h2 := HM.out; have h3 := HLT.out; omega⟩, HLT.out.2.2.2.2.2.1⟩
      have HI := hide (HII.out t1 (Nat.le_trans hsz HMM.out) _ c cb mg' ms x.1 x.2 kd1 tx1 nm1 pl1 ka1 kn1 kc1 (NodeIn.keep hka (fun _ _ => id) _ _ hu) (hh.keep0 hka) (HT.out _ (List.mem_of_getElem? h1)))
      have H1 := hide h1; have HKA := hide hka
      clear h1 hu hka hsz hh
      have hk1 : (k : Int) < (n : Int) := by omega
      have hk0 : (0 : Int) ≤ (k : Int) := by omega
      go_wp2_with
        first
        | (go_at_call 46
           refine HI.out.mono ?_
           rintro e w2 ⟨hk2, ⟨k9, p9, hr9, he⟩ | ⟨x9, hr9, he, hs2, mg2, hc2, hm2⟩⟩
           all_goals have HK2 := hide ((HKW.out.trans' HKA.out (fun _ _ => id) (fun _ _ h => h.elim) : Keeps (fun k => k = cb ∨ k = mg ∨ k = ms) w _).trans' (fp'' := fun k => k = cb ∨ k = mg ∨ k = ms) hk2 (fun _ _ => id) (fun i hi h => by have h2 := HM.out; rcases h with h | h | h <;> first | exact .inl h | exact .inr (.inr h) | (rcases h2 with h2 | h2 <;> first | exact .inr (.inl (h.trans h2)) | omega)) : Keeps (fun k => k = cb ∨ k = mg ∨ k = ms) w w2)
           all_goals first
             | (unfold Stops at he
                have HX := hide (foldE_stop (f := fun t s => exN c.F true t s.1 s.2) H1.out HF.out hr9)
                subst he
                clear hk2 hr9 HI)
             | (have HX := hide (foldE_step (f := fun t s => exN c.F true t s.1 s.2) H1.out HF.out hr9)
                have HM2 := hide (mg_step HM.out hm2 (Nat.le_trans HKW.out.size HKA.out.size)); have HC2 := hide hc2; have HS2 := hide hs2
                subst he
                clear hk2 hr9 HI hm2 hc2 hs2))
        | fail
      · exact ⟨rfl, HK2.out, .inl ⟨_, _, HE.out.trans HX.out, rfl⟩⟩
      · go_roundg (n - (k + 1))
        case measure => omega
        case rel => exact ⟨k + 1, x9, mg2, by omega, rfl, by go_num, HX.out, HS2.out, HC2.out, HM2.out, HK2.out⟩
    · obtain rfl : k = n := by omega
      have he : List.take k ts = ts := List.take_of_length_le (by have := HLN.out; omega)
      have HX := hide (he ▸ HF.out)
      clear he
      go_wp2
      go_end0
      exact ⟨HKW.out, .inr ⟨x, HE.out.trans HX.out, rfl, HS.out, mg', HCK.out, HM.out⟩⟩
end Go.Proofs.YtincajfanhanjaaDoor
namespace Go.Proofs.YtincajfanhanjaaDoor
open Go.RowKit Go.Maps

/-- A clause: patterns, guards, a body. -/
structure Clause (L : List ByteArray) (t p g d : Nd) : Prop where
  ok : okN t
  kids : t.kids = [p, g, d]
  pats : ∀ x ∈ p.kids, Tree L 0 x
  guards : ∀ a ∈ g.kids, ∀ x ∈ a.kids, Tree L 0 x
  body : ∀ x ∈ d.kids, Tree L 0 x
theorem okM_body {t : Nd} (h : okM 1 t = true) : ∀ x ∈ t.kids, okM 0 x = true := by
  cases t
  rw [okM_one, Bool.and_eq_true, decide_eq_true_eq] at h
  obtain ⟨rfl, h⟩ := h
  exact okM_kids h (by omega)
theorem Tree.clause {L : List ByteArray} {m : Nat} {t : Nd} (h : Tree L m t) (hm : m = 2 ∨ m = 3 ∨ m = 4 ∨ m = 5) : ∃ p g d, Clause L t p g d := by
  have h2 : okM 2 t = true := by
    have := h.may
    cases t
    rcases hm with rfl | rfl | rfl | rfl
    · exact this
    · rw [okM_single, Bool.and_eq_true] at this; exact this.1
    · rw [okM_guarded, Bool.and_eq_true] at this; exact this.1
    · rw [okM_caught _ _ _ _ _ _ rfl, okM_single] at this
      simp only [Bool.and_eq_true] at this
      exact this.1.1
  cases t with
  | mk k tx nm pl kids =>
    rw [okM_clause 2 rfl] at h2
    simp only [Bool.and_eq_true, decide_eq_true_eq] at h2
    match kids, h2 with
    | [p, g, d], h2 =>
      have h3 := h2.2
      rw [okAs_three, Bool.and_eq_true, Bool.and_eq_true, okM_pats, okM_guards, Bool.and_eq_true, Bool.and_eq_true, List.all_eq_true, List.all_eq_true] at h3
      have ho := okN_kids h.ok; have hn := namesIn_kids h.names
      simp only [Nd.kids] at ho hn
      have op := ho p (by simp); have og := ho g (by simp); have od := ho d (by simp)
      have np := hn p (by simp); have ng := hn g (by simp); have nd := hn d (by simp)
      exact ⟨p, g, d, h.ok, rfl, fun x hx => ⟨okN_kids op x hx, h3.1.2 x hx, namesIn_kids np x hx⟩,
        fun a ha x hx => ⟨okN_kids (okN_kids og a ha) x hx, okM_body (h3.2.1.2 a ha) x hx, namesIn_kids (namesIn_kids ng a ha) x hx⟩,
        fun x hx => ⟨okN_kids od x hx, okM_body h3.2.2 x hx, namesIn_kids nd x hx⟩⟩
def restR (F : Fns) (g d : Nd) (S G : Scope) : Res := match allGuards g.kids S G with
  | .error f => .error f
  | .ok _ => exsN F true d.kids S G
theorem bodyK_eq (F : Fns) (d : Nd) (S G : Scope) : bodyK F d S G = exsN F true d.kids S G := by
  cases d; unfold bodyK; rfl
/-- Where a clause's three lie. -/
theorem three_at {w : World} {B : Nat → Prop} {F : Bool} {t p g d : Nd} (kd : Int) (tx : ByteArray) (nm pl : Int) (ka : Option Addr) (kn kc : Nat) (ht : NodeIn w B F [.int .u8 kd, .string tx, .int .i64 nm, .int .i64 pl, .slice ka kn kc] t) (hk : t.kids = [p, g, d]) :
    ∃ b o, ka = some ⟨b, o, none⟩ ∧ B b ∧ b < w.heap.size ∧ kn = 3 ∧ (∃ pa pn pc css, w.cell? ⟨b, o + 4, none⟩ = some (.slice pa pn pc) ∧ Reads w B F 5 pa pn (List.flatten css) ∧ NodesIn w B F css p.kids ∧ p.kids.length = pn ∧ Roomy pn 64) ∧
      (∃ ga gn gc css, w.cell? ⟨b, o + 9, none⟩ = some (.slice ga gn gc) ∧ Reads w B F 5 ga gn (List.flatten css) ∧ NodesIn w B F css g.kids ∧ g.kids.length = gn ∧ Roomy gn 64) ∧
      (∃ da dn dc css, w.cell? ⟨b, o + 14, none⟩ = some (.slice da dn dc) ∧ Reads w B F 5 da dn (List.flatten css) ∧ NodesIn w B F css d.kids ∧ d.kids.length = dn ∧ Roomy dn 64) := by
  obtain ⟨kids, css, rfl, _, hr, hc, hl⟩ := ht.kidsIn
  simp only [Nd.kids] at hk
  subst hk
  obtain rfl : kn = 3 := by simpa using hl.symm
  obtain ⟨b, o, kd0, tx0, nm0, pl0, ka0, kn0, kc0, t0, hA, hB, hb, e0, _, hu0, _, _, _, _, f4⟩ := node_at hr hc 0 (by omega)
  obtain rfl : p = t0 := by simpa using e0
  subst hA
  obtain ⟨b', o', kd1, tx1, nm1, pl1, ka1, kn1, kc1, t1, hA, _, _, e1, _, hu1, _, _, _, _, g4⟩ := node_at hr hc 1 (by omega)
  obtain rfl : g = t1 := by simpa using e1
  injection hA with hA; injection hA with hA hA'; subst hA; subst hA'
  obtain ⟨b', o', kd2, tx2, nm2, pl2, ka2, kn2, kc2, t2, hA, _, _, e2, _, hu2, _, _, _, _, d4⟩ := node_at hr hc 2 (by omega)
  obtain rfl : d = t2 := by simpa using e2
  injection hA with hA; injection hA with hA hA'; subst hA; subst hA'
  obtain ⟨k0, c0, q0, ro0, r0, n0, l0⟩ := hu0.kidsIn
  obtain ⟨k1, c1, q1, ro1, r1, n1, l1⟩ := hu1.kidsIn
  obtain ⟨k2, c2, q2, ro2, r2, n2, l2⟩ := hu2.kidsIn
  refine ⟨b, o, rfl, hB, hb, rfl, ⟨ka0, kn0, kc0, c0, by simpa using f4, r0, ?_, ?_, ro0.1⟩, ⟨ka1, kn1, kc1, c1, by simpa using g4, r1, ?_, ?_, ro1.1⟩, ⟨ka2, kn2, kc2, c2, by simpa using d4, r2, ?_, ?_, ro2.1⟩⟩
  · rw [q0]; exact n0
  · rw [q0]; exact l0
  · rw [q1]; exact n1
  · rw [q1]; exact l1
  · rw [q2]; exact n2
  · rw [q2]; exact l2
def RestOf (M : Nat) : Prop := ∀ (w : World) (c : Cx) (cb mg ms : Nat) (S G : Scope) (t p g d : Nd) (kd : Int) (tx : ByteArray) (nm pl : Int) (ka : Option Addr) (kn kc : Nat), NodeIn w (Bt c cb) false [.int .u8 kd, .string tx, .int .i64 nm, .int .i64 pl, .slice ka kn kc] t → Here c cb mg ms w S G → Clause c.L t p g d → Nd.size.sizes d.kids ≤ M →
  Calls Tryd.prog 25 #[.pointer (some ⟨cb, 0, none⟩), .agg #[.int .u8 kd, .string tx, .int .i64 nm, .int .i64 pl, .slice ka kn kc], .map (some ms)] w (Ends (restR c.F g d S G) (fun k => k = cb ∨ k = mg ∨ k = ms) w (OwnPost c cb mg ms w))
set_option maxRecDepth 100000 in
set_option maxHeartbeats 4000000 in
theorem rest_any (M : Nat) (HB : BodyOf M) : RestOf M := by
  intro w c cb mg ms S G t p g d kd tx nm pl ka kn kc ht hH hC hM
  obtain ⟨b, o, rfl, hBb, hbl, rfl, _, ⟨ga, gn, gc, gcs, g9, gr, gni, gl, gro⟩, ⟨da, dn, dc, dcs, d14, dr, dni, dl, dro⟩⟩ := three_at kd tx nm pl ka kn kc ht hC.kids
  have hgn : gn ≤ 9223372036854775807 := by have := gro.len (by omega); unfold maxLen at this; exact this
  have hk0 : Keeps NoB w (w.alloc (.cells #[.int .u8 kd, .string tx, .int .i64 nm, .int .i64 pl, .slice (some ⟨b, o, none⟩) 3 kc] 29)) := (Keeps.refl NoB w).alloc _
  have HK := hide hk0
  have q9 : (w.alloc (.cells #[.int .u8 kd, .string tx, .int .i64 nm, .int .i64 pl, .slice (some ⟨b, o, none⟩) 3 kc] 29)).cell? ⟨b, o + 9, none⟩ = some (.slice ga gn gc) := hk0.cell id g9
  have HQ := hide d14
  have HBX := hide (Blk.new w 29 #[.int .u8 kd, .string tx, .int .i64 nm, .int .i64 pl, .slice (some ⟨b, o, none⟩) 3 kc])
  have HGR := hide gr; have HGN := hide gni; have HGL := hide gl; have HH := hide hH; have HC := hide hC; have HBD := hide (fun W h => HB W c cb mg ms S G d.kids dcs da dn dc (dr.keep (fp := NoB) h (fun _ _ => id)) (NodesIn.keep h (fun _ _ => id) _ _ dni) dl dro (hH.keep0 h) hC.body hM)
  have HE := hide (all_fold S G g.kids)
  clear ht hH hC hM hk0 d14 gr gni gl gro dr dni dl dro HB g9
  go_enter Tryd.func25, Tryd.ntmps25
  go_wp2
  go_loopg [16] gn (fun g0 s16 wx => ∃ k : Nat, k ≤ gn ∧ g0 = gn - k ∧ s16 = .int .i64 k ∧ foldE (fun t (_ : Unit) => guardsN t.kids S G) (List.take k g.kids) () = .ok () ∧ Keeps NoB (w.alloc (.cells #[.int .u8 kd, .string tx, .int .i64 nm, .int .i64 pl, .slice (some ⟨b, o, none⟩) 3 kc] 29)) wx)
  case atStart => exact ⟨0, Nat.zero_le _, rfl, rfl, by simp [foldE], Keeps.refl _ _⟩
  case round =>
    obtain ⟨k, hk, rfl, rfl, hf, hkw⟩ := hrel
    have HKW := hide (HK.out.trans' hkw (fun _ _ => id) (fun _ _ => id) : Keeps NoB w wr); have HF := hide hf; have HKD := hide hkw; clear hkw hf
    by_cases hlt : k < gn
    · obtain ⟨b1, o1, kd1, tx1, nm1, pl1, ka1, kn1, kc1, t1, hA, _, hb1, h1, hsz, hu, f0, f1, f2, f3, f4⟩ := node_at (HGR.out.keep HKW.out (fun _ _ => id)) (NodesIn.keep HKW.out (fun _ _ => id) _ _ HGN.out) k hlt
      subst hA
      obtain ⟨kids1, css1, e1, hro1, hr1, hc1, hl1⟩ := hu.kidsIn
      have hek : t1.kids = kids1 := by rw [e1]; rfl
      have hn1 : kn1 ≤ 9223372036854775807 := by have := hro1.1.len (by omega); unfold maxLen at this; exact this
      have H1 := hide h1; have HR1 := hide hr1; have HC1 := hide hc1; have HL1 := hide hl1; have HEK := hide hek
      have HG1 := hide (show ∀ x ∈ kids1, Tree c.L 0 x by rw [← hek]; exact HC.out.guards t1 (List.mem_of_getElem? h1))
      have hka : Keeps NoB wr (wr.alloc (.cells #[.int .u8 kd1, .string tx1, .int .i64 nm1, .int .i64 pl1, .slice ka1 kn1 kc1] 29)) := (Keeps.refl NoB wr).alloc _
      have HKA := hide hka
      have HEG := hide (guards_fold S G kids1)
      clear h1 hr1 hc1 hl1 hek hu e1 hro1 hka hsz
      have hk1 : (k : Int) < (gn : Int) := by omega
      have hk0 : (0 : Int) ≤ (k : Int) := by omega
      go_wp2
      rename World => wo
      go_loopg [23] kn1 (fun g0 s23 wx => ∃ j : Nat, j ≤ kn1 ∧ g0 = kn1 - j ∧ s23 = .int .i64 j ∧ foldE (fun t (_ : Unit) => guardN t S G) (List.take j kids1) () = .ok () ∧ Keeps NoB wo wx)
      case atStart => exact ⟨0, Nat.zero_le _, rfl, rfl, by simp [foldE], HKA.out⟩
      case round =>
        obtain ⟨j, hj, rfl, rfl, hf, hkw⟩ := hrel
        have HKV := hide hkw; have HFJ := hide hf; clear hkw hf
        by_cases hlj : j < kn1
        · obtain ⟨b2, o2, kd2, tx2, nm2, pl2, ka2, kn2, kc2, t2, hA, _, hb2, h2, hsz, hu, f0, f1, f2, f3, f4⟩ := node_at (HR1.out.keep HKV.out (fun _ _ => id)) (NodesIn.keep HKV.out (fun _ _ => id) _ _ HC1.out) j hlj
          subst hA
          have hT := HG1.out t2 (List.mem_of_getElem? h2)
          have hkw : Keeps NoB w (wr.alloc (.cells #[.int .u8 kd2, .string tx2, .int .i64 nm2, .int .i64 pl2, .slice ka2 kn2 kc2] 29)) := (HKW.out.trans' HKV.out (fun _ _ => id) (fun _ _ => id) : Keeps NoB w wr).alloc _
          have HI := hide (guard_any t2 _ (Bt c cb) false c cb mg ms S G kd2 tx2 nm2 pl2 ka2 kn2 kc2 (NodeIn.keep ((Keeps.refl NoB wr).alloc _) (fun _ _ => id) _ _ hu) (HH.out.ck.keep0 hkw) (HH.out.scope.keep hkw id) hT.ok hT.may)
          have HKX := hide hkw; have H2 := hide h2
          clear hT hkw hu h2 hsz
          have hk2 : (j : Int) < (kn1 : Int) := by omega
          have hk3 : (0 : Int) ≤ (j : Int) := by omega
          go_wp2_with
            first
            | (go_at_call 35
               refine HI.out.mono ?_
               rintro e w2 ⟨hk2, ⟨k9, p9, hr9, he⟩ | ⟨x9, hr9, he⟩⟩
               all_goals have HKZ := hide ((HKV.out.alloc _).trans' hk2 (fun _ _ => id) (fun _ _ => id) : Keeps NoB wo w2)
               all_goals first
                 | (have HX := hide (foldE_stop (f := fun t (_ : Unit) => guardN t S G) H2.out HFJ.out hr9)
                    unfold Stops at he
                    subst he
                    clear hk2 hr9 HI)
                 | (have HX := hide (foldE_step (f := fun t (_ : Unit) => guardN t S G) H2.out HFJ.out hr9)
                    subst he
                    clear hk2 hr9 HI))
            | fail
          · have hx := (congrArg (fun l => guardsN l S G) HEK.out).trans (HEG.out.trans HX.out)
            exact ⟨rfl, (HKW.out.trans' HKZ.out (fun _ _ h => h.elim) (fun _ _ h => h.elim)), .inl ⟨_, _, by unfold restR; rw [HE.out, foldE_stop (f := fun t (_ : Unit) => guardsN t.kids S G) H1.out HF.out hx], rfl⟩⟩
          · go_roundg (kn1 - (j + 1))
            case measure => omega
            case rel => exact ⟨j + 1, by omega, rfl, by go_num, HX.out, HKZ.out⟩
        · obtain rfl : j = kn1 := by omega
          have he : List.take j kids1 = kids1 := List.take_of_length_le (by have := HL1.out; omega)
          have hx : guardsN t1.kids S G = .ok () := by rw [HEK.out, HEG.out]; exact he ▸ HFJ.out
          have HX := hide (foldE_step (f := fun t (_ : Unit) => guardsN t.kids S G) H1.out HF.out hx)
          clear he hx
          go_wp2
          go_roundg (gn - (k + 1))
          case measure => omega
          case rel => exact ⟨k + 1, by omega, rfl, by go_num, HX.out, HKD.out.trans' HKV.out (fun _ _ => id) (fun _ _ => id)⟩
    · obtain rfl : k = gn := by omega
      have he : List.take k g.kids = g.kids := List.take_of_length_le (by have := HGL.out; omega)
      have hx : allGuards g.kids S G = .ok () := by rw [HE.out]; exact he ▸ HF.out
      have HX := hide (show restR c.F g d S G = exsN c.F true d.kids S G by unfold restR; rw [hx])
      have q4 : wr.cell? ⟨w.heap.size, 4, none⟩ = some (.slice (some ⟨b, o, none⟩) 3 kc) := HKD.out.cell id (HBX.out.cell 4)
      have q14 : wr.cell? ⟨b, o + 14, none⟩ = some (.slice da dn dc) := HKW.out.cell id HQ.out
      clear he hx
      go_wp2_with
        first
        | (go_at_call 36
           refine (HBD.out _ HKW.out).mono ?_
           rintro e w2 ⟨hk2, ⟨k9, p9, hr9, he⟩ | ⟨x9, hr9, he, hs2, mg2, hc2, hm2⟩⟩
           all_goals have HK2 := hide (HKW.out.trans' (fp'' := fun k => k = cb ∨ k = mg ∨ k = ms) hk2 (fun _ _ h => h.elim) (fun _ _ => id) : Keeps (fun k => k = cb ∨ k = mg ∨ k = ms) w w2)
           all_goals have HX2 := hide (HX.out.trans hr9)
           all_goals first
             | (unfold Stops at he
                subst he
                clear hk2 hr9)
             | (have HM2 := hide (hm2.imp id (fun h => Nat.le_trans HKW.out.size h)); have HC2 := hide hc2; have HS2 := hide hs2
                subst he
                clear hk2 hr9 hm2 hc2 hs2))
        | fail
      · exact ⟨rfl, HK2.out, .inl ⟨_, _, HX2.out, rfl⟩⟩
      · go_end0
        exact ⟨HK2.out, .inr ⟨x9, HX2.out, rfl, HS2.out, mg2, HC2.out, HM2.out⟩⟩
end Go.Proofs.YtincajfanhanjaaDoor
