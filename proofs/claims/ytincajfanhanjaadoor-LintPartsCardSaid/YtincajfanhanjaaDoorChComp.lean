/- The checker's own function of a fun: heads and rests of its clauses. The checker's own function of a comprehension. -/
import Derived.Test.YtincajfanhanjaaDoorChClauses
namespace Go.Proofs.YtincajfanhanjaaDoor
open Go.RowKit Go.Maps

def fnE (F : Fns) (S : Scope) (t : Nd) (G : Scope) : Except Flt Scope := (funN F t S G).map (·.2)
def fnR (F : Fns) (p g d : Nd) (S G : Scope) : Except Flt Scope := match patsN p.kids (fun _ => false) with
  | .error f => .error f
  | .ok own => (restR F g d (fun t => own t || S t) G).map (·.2)
theorem fnE_eq {F : Fns} {t p g d : Nd} (kids : t.kids = [p, g, d]) (S G : Scope) : fnE F S t G = fnR F p g d S G := by
  cases t with
  | mk kd tx nm pl ks =>
    simp only [Nd.kids] at kids
    subst kids
    unfold fnE funN fnR restR
    simp only [bodyK_eq]
    cases patsN p.kids (fun _ => false) with
    | error f => rfl
    | ok own =>
      simp only
      cases allGuards g.kids (fun t => own t || S t) G with
      | error f => rfl
      | ok u => rfl
set_option maxRecDepth 100000 in
set_option maxHeartbeats 8000000 in
theorem own75 (M : Nat) (HR : RestOf M) (w : World) (c : Cx) (cb mg ms p0 p1 p2 : Nat) (S G : Scope) (ts : List Nd) (css : List (List Value)) (A : Option Addr) (n cc : Nat)
    (c0 : w.cell? ⟨p0, 0, none⟩ = some (.pointer (some ⟨cb, 0, none⟩))) (c1 : w.cell? ⟨p1, 0, none⟩ = some (.slice A n cc)) (c2 : w.cell? ⟨p2, 0, none⟩ = some (.map (some ms))) (hp : p0 ≠ cb ∧ p0 ≠ mg ∧ p1 ≠ cb ∧ p1 ≠ mg ∧ p2 ≠ cb ∧ p2 ≠ mg)
    (hr : Reads w (Bt c cb) false 5 A n css.flatten) (hc : NodesIn w (Bt c cb) false css ts) (hln : ts.length = n) (hro : Roomy n 64) (hH : Here c cb mg ms w S G) (hT : ∀ t ∈ ts, ∃ p g d, Clause c.L t p g d) (hM : Nd.size.sizes ts ≤ M) :
    Calls Tryd.prog 75 #[.pointer (some ⟨p1, 0, none⟩), .pointer (some ⟨p0, 0, none⟩), .pointer (some ⟨p2, 0, none⟩)] w (Ends (foldE (fnE c.F S) ts G) (fun k => k = cb ∨ k = mg) w fun _ e w' => e = .returned (.tuple #[]) ∧ ∃ mg' G', CkS c cb w' mg' G') := by
  have hn9 : n ≤ 9223372036854775807 := by have := hro.len (by omega); unfold maxLen at this; exact this
  have HRD := hide hr; have HC := hide hc; have HLN := hide hln; have HH := hide hH; have HT := hide hT; have HMM := hide hM; have HRR := hide HR; have HP := hide hp; have C0 := hide c0; have C2 := hide c2
  have HPL := hide (show p0 < w.heap.size ∧ p2 < w.heap.size from ⟨nd_blk_lt c0, nd_blk_lt c2⟩)
  have HLT := hide (show ms < w.heap.size ∧ cb < w.heap.size ∧ mg < w.heap.size ∧ ms ≠ cb ∧ ms ≠ mg ∧ c.hi ≤ ms ∧ c.hi ≤ mg ∧ c.hi ≤ w.heap.size from ⟨hH.scope.lt, hH.ck.blk.lt, hH.ck.gone.lt, hH.ne.1, hH.ne.2, hH.hi, hH.ck.mg, by have h1 := hH.scope.lt; have h2 := hH.hi; omega⟩)
  have HBT := hide (show ∀ k, Bt c cb k → ¬ (k = cb ∨ k = mg) from fun k h e => by have h1 := h.1; have h2 := h.2; have h3 := hH.ck.mg; omega)
  clear hr hc hln hro hH hT hM HR hp c0 c2
  go_enter Tryd.func75, Tryd.ntmps75
  go_wp2
  go_loopg [7] n (fun g0 s7 wx => ∃ (k : Nat) (G' : Scope) (mg' : Nat), k ≤ n ∧ g0 = n - k ∧ s7 = .int .i64 k ∧ foldE (fnE c.F S) (List.take k ts) G = .ok G' ∧ CkS c cb wx mg' G' ∧ (mg' = mg ∨ w.heap.size ≤ mg') ∧ Keeps (fun k => k = cb ∨ k = mg) w wx)
  case atStart => exact ⟨0, G, mg, Nat.zero_le _, rfl, rfl, by simp [foldE], HH.out.ck, .inl rfl, Keeps.refl _ _⟩
  case round =>
    obtain ⟨k, G1, mg1, hk, rfl, rfl, hf, hck, hm, hkw⟩ := hrel
    have HKW := hide hkw; have HF := hide hf; have HCK := hide hck; have HM := hide hm; clear hkw hf hck hm
    by_cases hlt : k < n
    · obtain ⟨b1, o1, kd1, tx1, nm1, pl1, ka1, kn1, kc1, t1, hA, _, hb1, h1, hsz, hu, f0, f1, f2, f3, f4⟩ := node_at (HRD.out.keep HKW.out HBT.out) (NodesIn.keep HKW.out HBT.out _ _ HC.out) k hlt
      subst hA
      obtain ⟨p, g, d, hcl⟩ := HT.out t1 (List.mem_of_getElem? h1)
      obtain ⟨b2, o2, rfl, hBb, hbl, rfl, ⟨pa, pn, pc, pcs, p4, pr, pni, pnl, pro⟩, _, _⟩ := three_at kd1 tx1 nm1 pl1 ka1 kn1 kc1 hu hcl.kids
      have hk1 : (k : Int) < (n : Int) := by omega
      have hk0 : (0 : Int) ≤ (k : Int) := by omega
      have hka : Keeps NoB wr (wr.alloc (.cells #[.int .u8 kd1, .string tx1, .int .i64 nm1, .int .i64 pl1, .slice (some ⟨b2, o2, none⟩) 3 kc1] 29)) := (Keeps.refl NoB wr).alloc _
      have HKA := hide hka
      have HBN := hide (Blk.new wr 29 #[.int .u8 kd1, .string tx1, .int .i64 nm1, .int .i64 pl1, .slice (some ⟨b2, o2, none⟩) 3 kc1])
      have hne : p0 ≠ mg1 ∧ p2 ≠ mg1 ∧ ms ≠ mg1 ∧ mg1 < wr.heap.size := by
        have h1 := HLT.out; have h2 := HM.out; have h3 := HCK.out.gone.lt; have h4 := HPL.out; have h5 := HP.out
        refine ⟨?_, ?_, ?_, ?_⟩ <;> omega
      have HNE := hide hne
      have Q0 := hide (hka.cell id (HKW.out.cell (fun (h : p0 = cb ∨ p0 = mg) => h.elim HP.out.1 HP.out.2.1) C0.out))
      have Q2 := hide (hka.cell id (HKW.out.cell (fun (h : p2 = cb ∨ p2 = mg) => h.elim HP.out.2.2.2.2.1 HP.out.2.2.2.2.2) C2.out))
      have Q4 := hide (hka.cell id p4)
      have hh : Here c cb mg1 ms wr S G1 := ⟨HCK.out, HH.out.scope.keep HKW.out (fun h => by have h1 := HLT.out; omega), ⟨HLT.out.2.2.2.1, hne.2.2.1⟩, HLT.out.2.2.2.2.2.1⟩
      have HHR := hide hh
      have H1 := hide h1; have HU := hide hu; have HCL := hide hcl
      have HPR := hide pr; have HPN := hide pni; have HPX := hide (And.intro pnl pro)
      have HSZ := hide (show Nd.size.sizes d.kids ≤ M by
        have h3 := (sizes_kids (t := t1) (x := d) (by rw [hcl.kids]; simp)).2
        have h2 := Nat.le_trans hsz HMM.out
        omega)
      have HHD := hide (fun W (h : Keeps NoB wr W) => head_any W (Bt c cb) false c.L p.kids pcs pa pn pc cb (some ms) S (pr.keep h (fun _ _ => id)) (NodesIn.keep h (fun _ _ => id) _ _ pni) pnl pro (fun x hx => (hcl.pats x hx).ok) (fun x hx => (hcl.pats x hx).names) (.inr ⟨ms, rfl, (hh.keep0 h).scope⟩) hh.ck.few)
      have HRS := hide (fun W (h : Keeps NoB wr W) mo own (hs : ScopeL W c.L mo own) (hmo : wr.heap.size ≤ mo) => HRR.out W c cb mg1 mo own G1 t1 p g d kd1 tx1 nm1 pl1 _ 3 kc1 (NodeIn.keep h (fun _ _ => id) _ _ hu) (Here.own (w' := wr) (hh.keep0 h).ck hs hmo HNE.out.2.2.2) hcl HSZ.out)
      have HE := hide (fnE_eq (F := c.F) hcl.kids S G1)
      clear hu h1 hh hne hka hsz pr pni pnl pro p4 hcl hBb hbl
      go_wp2_with fail
      refine order_begin (fun W => Keeps NoB (wr.alloc (.cells #[.int .u8 kd1, .string tx1, .int .i64 nm1, .int .i64 pl1, .slice (some ⟨b2, o2, none⟩) 3 kc1] 29)) W) (fun i => decide (i ≠ 10)) (by kernel_rfl) 11 rfl ?_
      have HS : Keeps NoB (wr.alloc (.cells #[.int .u8 kd1, .string tx1, .int .i64 nm1, .int .i64 pl1, .slice (some ⟨b2, o2, none⟩) 3 kc1] 29)) ((wr.alloc (.cells #[.int .u8 kd1, .string tx1, .int .i64 nm1, .int .i64 pl1, .slice (some ⟨b2, o2, none⟩) 3 kc1] 29))).drew := (Keeps.refl NoB _).drew
      refine order_held (i := 0) rfl (by kernel_rfl) (fun _ _ _ h => h) (.inl ⟨rfl, fun W hW => by
        have q0 : W.cell? ⟨p0, 0, none⟩ = some (.pointer (some ⟨cb, 0, none⟩)) := hW.cell id Q0.out
        go_simp; rfl⟩) HS ?_
      try simp only [Act.put, List.setIfInBounds_toArray, List.set_cons_succ, List.set_cons_zero]
      refine order_held (i := 1) rfl (by kernel_rfl) (fun _ _ _ h => h) (.inl ⟨rfl, fun W hW => by
        have q0 : W.cell? ⟨wr.heap.size, 0, none⟩ = some (.int .u8 kd1) := hW.cell id (HBN.out.cell 0)
        have q1 : W.cell? ⟨wr.heap.size, 1, none⟩ = some (.string tx1) := hW.cell id (HBN.out.cell 1)
        have q2 : W.cell? ⟨wr.heap.size, 2, none⟩ = some (.int .i64 nm1) := hW.cell id (HBN.out.cell 2)
        have q3 : W.cell? ⟨wr.heap.size, 3, none⟩ = some (.int .i64 pl1) := hW.cell id (HBN.out.cell 3)
        have q4 : W.cell? ⟨wr.heap.size, 4, none⟩ = some (.slice (some ⟨b2, o2, none⟩) 3 kc1) := hW.cell id (HBN.out.cell 4)
        go_simp; rfl⟩) HS ?_
      try simp only [Act.put, List.setIfInBounds_toArray, List.set_cons_succ, List.set_cons_zero]
      refine order_held (i := 2) rfl (by kernel_rfl) (fun _ _ _ h => h) (.inl ⟨rfl, fun W hW => by
        have q0 : W.cell? ⟨p0, 0, none⟩ = some (.pointer (some ⟨cb, 0, none⟩)) := hW.cell id Q0.out
        go_simp; rfl⟩) HS ?_
      try simp only [Act.put, List.setIfInBounds_toArray, List.set_cons_succ, List.set_cons_zero]
      refine order_held (i := 8) rfl (by kernel_rfl) (fun _ _ _ h => h) (.inl ⟨rfl, fun W hW => by
        have q0 : W.cell? ⟨p2, 0, none⟩ = some (.map (some ms)) := hW.cell id Q2.out
        go_simp; rfl⟩) HS ?_
      try simp only [Act.put, List.setIfInBounds_toArray, List.set_cons_succ, List.set_cons_zero]
      refine order_pure (i := 3) rfl (by kernel_rfl) (fun _ _ _ h => h) (.inl ⟨rfl, fun _ => by go_simp; rfl⟩) ?_
      try simp only [Act.put, List.setIfInBounds_toArray, List.set_cons_succ, List.set_cons_zero]
      have q4 : ((wr.alloc (.cells #[.int .u8 kd1, .string tx1, .int .i64 nm1, .int .i64 pl1, .slice (some ⟨b2, o2, none⟩) 3 kc1] 29))).drew.cell? ⟨wr.heap.size, 4, none⟩ = some (.slice (some ⟨b2, o2, none⟩) 3 kc1) := HBN.out.cell 4
      refine order_one (i := 4) rfl (by kernel_rfl) (fun K hK => ?_)
      go_simp
      refine hK _ _ (fun _ h => h) ?_
      clear hK q4
      try simp only [Act.put, List.setIfInBounds_toArray, List.set_cons_succ, List.set_cons_zero]
      refine order_pure (i := 5) rfl (by kernel_rfl) (fun _ _ _ h => h) (.inl ⟨rfl, fun _ => by go_simp; rfl⟩) ?_
      try simp only [Act.put, List.setIfInBounds_toArray, List.set_cons_succ, List.set_cons_zero]
      refine order_pure (i := 6) rfl (by kernel_rfl) (fun _ _ _ h => h) (.inl ⟨rfl, fun _ => by go_simp; rfl⟩) ?_
      try simp only [Act.put, List.setIfInBounds_toArray, List.set_cons_succ, List.set_cons_zero]
      refine order_held (i := 7) rfl (by kernel_rfl) (fun _ _ _ h => h) (.inl ⟨rfl, fun W hW => by
        have q0 : W.cell? ⟨b2, o2 + 4, none⟩ = some (.slice pa pn pc) := hW.cell id Q4.out
        go_simp; rfl⟩) HS ?_
      try simp only [Act.put, List.setIfInBounds_toArray, List.set_cons_succ, List.set_cons_zero]
      refine order_one (i := 9) rfl (by kernel_rfl) (fun K hK => ?_)
      go_simp
      refine (HHD.out _ (HKA.out.trans' HS (fun _ _ => id) (fun _ _ => id))).mono ?_
      rintro e' w2 ⟨hk2, ⟨k9, p9, hr9, he⟩ | ⟨own, hr9, m', he, hs2, hm2⟩⟩
      · have HX := hide (foldE_stop (f := fnE c.F S) H1.out HF.out (HE.out.trans (by unfold fnR; rw [hr9])))
        unfold Stops at he
        subst he
        exact ⟨rfl, (HKW.out.trans' HKA.out (fun _ _ => id) (fun _ _ h => h.elim) : Keeps (fun k => k = cb ∨ k = mg) w (wr.alloc (.cells #[.int .u8 kd1, .string tx1, .int .i64 nm1, .int .i64 pl1, .slice (some ⟨b2, o2, none⟩) 3 kc1] 29))).trans' (HS.trans' hk2 (fun _ _ => id) (fun _ _ => id) : Keeps NoB (wr.alloc (.cells #[.int .u8 kd1, .string tx1, .int .i64 nm1, .int .i64 pl1, .slice (some ⟨b2, o2, none⟩) 3 kc1] 29)) w2) (fun _ _ => id) (fun _ _ h => h.elim), .inl ⟨_, _, HX.out, rfl⟩⟩
      · subst he
        have HS2 : Keeps NoB (wr.alloc (.cells #[.int .u8 kd1, .string tx1, .int .i64 nm1, .int .i64 pl1, .slice (some ⟨b2, o2, none⟩) 3 kc1] 29)) w2 := HS.trans' hk2 (fun _ _ => id) (fun _ _ => id)
        refine hK _ _ (fun _ _ => HS2) ?_
        clear hK
        try simp only [Act.put, List.setIfInBounds_toArray, List.set_cons_succ, List.set_cons_zero]
        have hm2' : wr.heap.size ≤ m' := Nat.le_trans (Nat.le_trans HKA.out.size HS.size) hm2
        have hmw : w.heap.size ≤ m' := Nat.le_trans HKW.out.size hm2'
        refine order_one (i := 10) rfl (by kernel_rfl) (fun K hK => ?_)
        go_simp
        refine (HRS.out _ (HKA.out.trans' HS2 (fun _ _ => id) (fun _ _ => id)) m' _ hs2 hm2').mono ?_
        rintro e' w3 ⟨hk3, hcase⟩
        have HK3 := hide (((HKW.out.trans' HKA.out (fun _ _ => id) (fun _ _ h => h.elim) : Keeps (fun k => k = cb ∨ k = mg) w (wr.alloc (.cells #[.int .u8 kd1, .string tx1, .int .i64 nm1, .int .i64 pl1, .slice (some ⟨b2, o2, none⟩) 3 kc1] 29))).trans' HS2 (fun _ _ => id) (fun _ _ h => h.elim) : Keeps (fun k => k = cb ∨ k = mg) w w2).trans' (fp'' := fun k => k = cb ∨ k = mg) hk3 (fun _ _ => id) (fun i hi h => by have h2 := HM.out; rcases h with h | h | h <;> first | exact .inl h | (rcases h2 with h2 | h2 <;> first | exact .inr (h.trans h2) | omega) | omega) : Keeps (fun k => k = cb ∨ k = mg) w w3)
        have HX0 := hide (show fnR c.F p g d S G1 = (restR c.F g d (fun t => own t || S t) G1).map (·.2) by unfold fnR; rw [hr9])
        rcases hcase with ⟨k9, p9, hr8, he⟩ | ⟨x9, hr8, he, hs3, mg3, hc3, hm3⟩
        · have HX := hide (foldE_stop (f := fnE c.F S) H1.out HF.out (HE.out.trans (HX0.out.trans (by rw [hr8]; rfl))))
          unfold Stops at he
          subst he
          exact ⟨rfl, HK3.out, .inl ⟨_, _, HX.out, rfl⟩⟩
        · have HX := hide (foldE_step (f := fnE c.F S) H1.out HF.out (HE.out.trans (HX0.out.trans (show (restR c.F g d (fun t => own t || S t) G1).map (·.2) = Except.ok x9.2 by rw [hr8]; rfl))))
          have HM3 := hide (mg_step HM.out hm3 (Nat.le_trans HKW.out.size (Nat.le_trans HKA.out.size HS2.size))); have HC3 := hide hc3
          subst he
          refine hK _ _ (fun h => absurd h (by decide)) ?_
          clear hK
          try simp only [Act.put, List.setIfInBounds_toArray, List.set_cons_succ, List.set_cons_zero]
          refine order_done (by kernel_rfl) ?_
          clear hk3 hr8 hr9 hm3 hc3 hs3 hs2 hk2 HS HS2 hm2 hm2' hmw
          go_wp2_with fail
          go_roundg (n - (k + 1))
          case measure => omega
          case rel => exact ⟨k + 1, x9.2, mg3, by omega, rfl, by go_num, HX.out, HC3.out, HM3.out, HK3.out⟩
    · obtain rfl : k = n := by omega
      have he : List.take k ts = ts := List.take_of_length_le (by have := HLN.out; omega)
      have HX := hide (he ▸ HF.out)
      clear he
      go_wp2
      go_end0
      exact ⟨HKW.out, .inr ⟨G1, HX.out, rfl, mg1, G1, HCK.out⟩⟩
end Go.Proofs.YtincajfanhanjaaDoor
namespace Go.Proofs.YtincajfanhanjaaDoor
open Go.RowKit Go.Maps

/-- A generator or a filter. -/
inductive QuOk (L : List ByteArray) (t : Nd) : Prop where
  | gen (k : t.kind = 18) (ok : okN t) (p e : Nd) (kids : t.kids = [p, e]) (hp : Tree L 0 p) (he : Tree L 0 e)
  | filter (k : t.kind ≠ 18) (h : Tree L 0 t)
theorem quE_filter {F : Fns} {t : Nd} (k : t.kind ≠ 18) (S G : Scope) : quE F t (S, G) = (exN F false t S G).map (fun x => (S, x.2)) := by
  unfold quE; rw [if_neg k]
def genR (F : Fns) (p e : Nd) (S G : Scope) : Res := match exN F false e S G with
  | .error f => .error f
  | .ok x => (match patsN [p] (fun _ => false) with
    | .error f => .error f
    | .ok own => .ok (fun t => own t || S t, x.2))
theorem quE_gen {F : Fns} {t p e : Nd} (k : t.kind = 18) (kids : t.kids = [p, e]) (S G : Scope) : quE F t (S, G) = genR F p e S G := by
  unfold quE; rw [if_pos k]
  cases t with
  | mk kd tx nm pl ks =>
    simp only [Nd.kids] at kids
    subst kids
    unfold quN genR
    simp only [patsN]
    cases exN F false e S G with
    | error f => rfl
    | ok x =>
      simp only
      cases patN p (fun _ => false) with
      | error f => rfl
      | ok own => rfl
/-- A generator's two in memory. -/
theorem gen_at {w : World} {B : Nat → Prop} {F : Bool} {t p e : Nd} (kd : Int) (tx : ByteArray) (nm pl : Int) (ka : Option Addr) (kn kc : Nat) (ht : NodeIn w B F [.int .u8 kd, .string tx, .int .i64 nm, .int .i64 pl, .slice ka kn kc] t) (hk : t.kids = [p, e]) :
    ∃ b o css, ka = some ⟨b, o, none⟩ ∧ B b ∧ b < w.heap.size ∧ kn = 2 ∧ 2 ≤ kc ∧ Reads w B F 5 (some ⟨b, o, none⟩) 1 (List.flatten css) ∧ NodesIn w B F css [p] ∧ (∃ kd1 tx1 nm1 pl1 ka1 kn1 kc1, NodeIn w B F [.int .u8 kd1, .string tx1, .int .i64 nm1, .int .i64 pl1, .slice ka1 kn1 kc1] e ∧ w.cell? ⟨b, o + 5, none⟩ = some (.int .u8 kd1) ∧ w.cell? ⟨b, o + 6, none⟩ = some (.string tx1) ∧ w.cell? ⟨b, o + 7, none⟩ = some (.int .i64 nm1) ∧ w.cell? ⟨b, o + 8, none⟩ = some (.int .i64 pl1) ∧ w.cell? ⟨b, o + 9, none⟩ = some (.slice ka1 kn1 kc1)) := by
  obtain ⟨kids, css, rfl, hro, hr, hc, hl⟩ := ht.kidsIn
  simp only [Nd.kids] at hk
  subst hk
  obtain rfl : kn = 2 := by simpa using hl.symm
  obtain ⟨b, o, kd1, tx1, nm1, pl1, ka1, kn1, kc1, t1, hA, hB, hb, e1, _, hu1, g0, g1, g2, g3, g4⟩ := node_at hr hc 1 (by omega)
  obtain rfl : e = t1 := by simpa using e1
  subst hA
  have hr1 := hr.upto' hc.lens.2 (i := 1) (by omega)
  have hc1 : NodesIn w B F (css.take 1) [p] := by
    match css, hc with
    | c0 :: cr, hc => unfold NodesIn at hc; simp only [List.take_succ_cons, List.take_zero]; unfold NodesIn; exact ⟨hc.1, by unfold NodesIn; trivial⟩
  exact ⟨b, o, css.take 1, rfl, hB, hb, rfl, hro.2, hr1, hc1, ⟨kd1, tx1, nm1, pl1, ka1, kn1, kc1, hu1, by simpa using g0, by simpa using g1, by simpa using g2, by simpa using g3, by simpa using g4⟩⟩
def compR (F : Fns) (e : Nd) (qs : List Nd) (S G : Scope) : Res := match foldE (quE F) qs (S, G) with
  | .error f => .error f
  | .ok x => exN F false e x.1 x.2
set_option maxRecDepth 100000 in
set_option maxHeartbeats 8000000 in
theorem own80 (M : Nat) (HX : ∀ t : Nd, t.size ≤ M → ExprOf t) (w : World) (c : Cx) (cb mg ms p0 p1 p2 : Nat) (S G : Scope) (e : Nd) (qs : List Nd) (css : List (List Value)) (b o n cc : Nat)
    (c0 : w.cell? ⟨p0, 0, none⟩ = some (.pointer (some ⟨cb, 0, none⟩))) (c1 : w.cell? ⟨p1, 0, none⟩ = some (.slice (some ⟨b, o, none⟩) (n + 1) cc)) (c2 : w.cell? ⟨p2, 0, none⟩ = some (.map (some ms))) (hp : p0 ≠ cb ∧ p0 ≠ mg ∧ p1 ≠ cb ∧ p1 ≠ mg ∧ p2 ≠ cb ∧ p2 ≠ mg)
    (hr : Reads w (Bt c cb) false 5 (some ⟨b, o, none⟩) (n + 1) css.flatten) (hc : NodesIn w (Bt c cb) false css (e :: qs)) (hln : qs.length = n) (hro : Roomy (n + 1) 64) (hcc : n + 1 ≤ cc) (h1n : 1 ≤ n) (hH : Here c cb mg ms w S G) (he : Tree c.L 0 e) (hT : ∀ t ∈ qs, QuOk c.L t) (hM : Nd.size.sizes (e :: qs) ≤ M) :
    Calls Tryd.prog 80 #[.pointer (some ⟨p2, 0, none⟩), .pointer (some ⟨p1, 0, none⟩), .pointer (some ⟨p0, 0, none⟩)] w (Ends (compR c.F e qs S G) (fun k => k = cb ∨ k = mg) w fun _ e w' => e = .returned (.tuple #[]) ∧ ∃ mg' G', CkS c cb w' mg' G') := by
  have hn9 : n + 1 ≤ 9223372036854775807 := by have := hro.len (by omega); unfold maxLen at this; exact this
  have hccn : ¬ cc = 1 := by omega
  have hcci : (n : Int) + 1 ≤ (cc : Int) := by omega
  obtain ⟨b', o', kd0, tx0, nm0, pl0, ka0, kn0, kc0, t0, hA, hBb, _, e0, hsz0, hu0, f0, f1, f2, f3, f4⟩ := node_at hr hc 0 (by omega)
  injection hA with hA; injection hA with hA hA'; subst hA; subst hA'
  obtain rfl : e = t0 := by simpa using e0
  have hr1 := hr.from' hc.lens.2 (i := 1) (c := cc) (by omega) hcc
  rw [if_neg hccn, Nat.add_sub_cancel] at hr1
  have HRD := hide hr1; have HC := hide (show NodesIn w (Bt c cb) false (css.drop 1) qs from NodesIn.drop 1 hc); have HLN := hide hln; have HH := hide hH; have HT := hide hT; have HP := hide hp; have C0 := hide c0; have C1 := hide c1; have C2 := hide c2; have HXX := hide HX; have HEE := hide he; have HU0 := hide hu0
  have HF0 := hide (And.intro (show w.cell? ⟨b, o, none⟩ = some (.int .u8 kd0) by simpa using f0) (And.intro (show w.cell? ⟨b, o + 1, none⟩ = some (.string tx0) by simpa using f1) (And.intro (show w.cell? ⟨b, o + 2, none⟩ = some (.int .i64 nm0) by simpa using f2) (And.intro (show w.cell? ⟨b, o + 3, none⟩ = some (.int .i64 pl0) by simpa using f3) (show w.cell? ⟨b, o + 4, none⟩ = some (.slice ka0 kn0 kc0) by simpa using f4)))))
  have HB := hide hBb
  have HES := hide (show e.size ≤ M ∧ Nd.size.sizes qs ≤ M by simp only [Nd.size.sizes] at hM; omega)
  have HPL := hide (show p0 < w.heap.size ∧ p1 < w.heap.size ∧ p2 < w.heap.size from ⟨nd_blk_lt c0, nd_blk_lt c1, nd_blk_lt c2⟩)
  have HLT := hide (show ms < w.heap.size ∧ cb < w.heap.size ∧ mg < w.heap.size ∧ ms ≠ cb ∧ ms ≠ mg ∧ c.hi ≤ ms ∧ c.hi ≤ mg ∧ c.hi ≤ w.heap.size from ⟨hH.scope.lt, hH.ck.blk.lt, hH.ck.gone.lt, hH.ne.1, hH.ne.2, hH.hi, hH.ck.mg, by have h1 := hH.scope.lt; have h2 := hH.hi; omega⟩)
  have HBT := hide (show ∀ k, Bt c cb k → ¬ (k = cb ∨ k = mg) from fun k h e => by have h1 := h.1; have h2 := h.2; have h3 := hH.ck.mg; omega)
  clear hr hr1 hc hln hro hH hT hM HX hp c0 f0 f1 f2 f3 f4 e0 hsz0 hu0 he hBb
  go_enter Tryd.func80, Tryd.ntmps80
  go_wp2
  go_loopg [3, 10] n (fun g0 s3 s10 wx => ∃ (k : Nat) (x : Scope × Scope) (mg' mo : Nat), k ≤ n ∧ g0 = n - k ∧ s10 = .int .i64 k ∧ s3 = .map (some mo) ∧ foldE (quE c.F) (List.take k qs) (S, G) = .ok x ∧ Here c cb mg' mo wx x.1 x.2 ∧ (mg' = mg ∨ w.heap.size ≤ mg') ∧ Keeps (fun k => k = cb ∨ k = mg) w wx)
  case atStart => exact ⟨0, (S, G), mg, ms, Nat.zero_le _, rfl, rfl, rfl, by simp [foldE], HH.out, .inl rfl, Keeps.refl _ _⟩
  case round =>
    obtain ⟨k, x, mg1, mo, hk, rfl, rfl, rfl, hf, hh, hm, hkw⟩ := hrel
    have HKW := hide hkw; have HF := hide hf; have HHR := hide hh; have HM := hide hm; clear hkw hf hm
    have hne : p0 ≠ mg1 ∧ p1 ≠ mg1 ∧ p2 ≠ mg1 ∧ mg1 < wr.heap.size := by
      have h1 := HLT.out; have h2 := HM.out; have h3 := hh.ck.gone.lt; have h4 := HPL.out; have h5 := HP.out
      refine ⟨?_, ?_, ?_, ?_⟩ <;> omega
    have HNE := hide hne
    have c0 : wr.cell? ⟨p0, 0, none⟩ = some (.pointer (some ⟨cb, 0, none⟩)) := HKW.out.cell (fun (h : p0 = cb ∨ p0 = mg) => h.elim HP.out.1 HP.out.2.1) C0.out
    have c1 : wr.cell? ⟨p1, 0, none⟩ = some (.slice (some ⟨b, o, none⟩) (n + 1) cc) := HKW.out.cell (fun (h : p1 = cb ∨ p1 = mg) => h.elim HP.out.2.2.1 HP.out.2.2.2.1) C1.out
    clear hh
    by_cases hlt : k < n
    · obtain ⟨b1, o1, kd1, tx1, nm1, pl1, ka1, kn1, kc1, t1, hA, _, hb1, h1, hsz, hu, f0, f1, f2, f3, f4⟩ := node_at (HRD.out.keep HKW.out HBT.out) (NodesIn.keep HKW.out HBT.out _ _ HC.out) k hlt
      injection hA with hA; injection hA with hA hA'; subst hA; subst hA'
      have hk1 : (k : Int) < (n : Int) := by omega
      have hk0 : (0 : Int) ≤ (k : Int) := by omega
      have hka : Keeps NoB wr (wr.alloc (.cells #[.int .u8 kd1, .string tx1, .int .i64 nm1, .int .i64 pl1, .slice ka1 kn1 kc1] 29)) := (Keeps.refl NoB wr).alloc _
      have HKA := hide hka
      have HBN := hide (Blk.new wr 29 #[.int .u8 kd1, .string tx1, .int .i64 nm1, .int .i64 pl1, .slice ka1 kn1 kc1])
      have hkind : t1.kind = kd1 := (nd_text hu).1
      have H1 := hide h1
      have HSZ := hide (show t1.size ≤ M from Nat.le_trans hsz HES.out.2)
      have d0 : (wr.alloc (.cells #[.int .u8 kd1, .string tx1, .int .i64 nm1, .int .i64 pl1, .slice ka1 kn1 kc1] 29)).cell? ⟨p0, 0, none⟩ = some (.pointer (some ⟨cb, 0, none⟩)) := hka.cell id c0
      cases HT.out t1 (List.mem_of_getElem? h1) with
      | filter hkd htr =>
        have hkb : (kd1 != 18) = true := by simpa using fun e => hkd (hkind.trans e)
        have HI := hide (HXX.out t1 HSZ.out _ c cb mg1 mo x.1 x.2 kd1 tx1 nm1 pl1 ka1 kn1 kc1 (NodeIn.keep hka (fun _ _ => id) _ _ hu) (HHR.out.keep0 hka) htr)
        have HE := hide (quE_filter (F := c.F) hkd x.1 x.2)
        clear hu h1 hkind hka hkd htr hsz hne c1 c0
        go_wp2_with
          first
          | (go_at_call 62
             refine HI.out.mono ?_
             rintro e' w2 ⟨hk2, hcase⟩
             have HK2 := hide ((HKW.out.trans' HKA.out (fun _ _ => id) (fun _ _ h => h.elim) : Keeps (fun k => k = cb ∨ k = mg) w (wr.alloc (.cells #[.int .u8 kd1, .string tx1, .int .i64 nm1, .int .i64 pl1, .slice ka1 kn1 kc1] 29))).trans' (fp'' := (fun k => k = cb ∨ k = mg)) hk2 (fun _ _ => id) (fun i hi h => by have h2 := HM.out; rcases h with h | h <;> first | exact .inl h | (rcases h2 with h2 | h2 <;> first | exact .inr (h.trans h2) | omega)) : Keeps (fun k => k = cb ∨ k = mg) w w2)
             rcases hcase with ⟨k9, p9, hr9, he⟩ | ⟨x9, hr9, he, hx, mg2, hc2, hm2⟩
             all_goals first
               | (have HX := hide (foldE_stop (f := quE c.F) H1.out HF.out (show quE c.F t1 x = .error (k9, p9) from HE.out.trans (by rw [hr9]; rfl)))
                  unfold Stops at he
                  subst he
                  clear hk2 hr9 HI)
               | (have HX := hide (foldE_step (f := quE c.F) H1.out HF.out (show quE c.F t1 x = .ok (x.1, x9.2) from HE.out.trans (by rw [hr9]; rfl)))
                  have HM2 := hide (mg_step HM.out hm2 (Nat.le_trans HKW.out.size HKA.out.size))
                  have HH2 : Hid (Here c cb mg2 mo w2 x.1 x9.2) := hide ⟨hc2, (HHR.out.keep0 HKA.out).scope.keep hk2 (fun h => h.elim HHR.out.ne.1 HHR.out.ne.2), ⟨HHR.out.ne.1, by
                    have h1 := HHR.out.ne.2; have h3 := HHR.out.scope.lt; have h4 := HKA.out.size
                    rcases hm2 with h | h <;> omega⟩, HHR.out.hi⟩
                  subst he
                  clear hk2 hr9 hm2 hc2 HI hx))
          | fail
        · exact ⟨rfl, HK2.out, .inl ⟨_, _, by unfold compR; rw [HX.out], rfl⟩⟩
        · go_roundg (n - (k + 1))
          case measure => omega
          case rel => exact ⟨k + 1, (x.1, x9.2), mg2, mo, by omega, rfl, by go_num, rfl, HX.out, HH2.out, HM2.out, HK2.out⟩
      | gen hkd hok p e1 hkids hp he1 =>
        obtain rfl : kd1 = 18 := hkind.symm.trans hkd
        obtain ⟨b2, o2, css2, rfl, hBb2, hb2, rfl, hkc2, hpr, hpn, ⟨kd2, tx2, nm2, pl2, ka2, kn2, kc2, hu2, g0, g1, g2, g3, g4⟩⟩ := gen_at _ _ _ _ _ _ _ hu hkids
        have hesz : e1.size ≤ M := by
          have h1 := (sizes_kids (t := t1) (x := e1) (by rw [hkids]; simp)).1
          have h2 := HSZ.out
          omega
        have hbt1 : ∀ k, Bt c cb k → ¬ (k = cb ∨ k = mg1) := fun k h e => by have h1 := h.1; have h2 := h.2; have h3 := HHR.out.ck.mg; omega
        have HBT1 := hide hbt1
        have HEX := hide (fun W (h : Keeps NoB wr W) => HXX.out e1 hesz W c cb mg1 mo x.1 x.2 kd2 tx2 nm2 pl2 ka2 kn2 kc2 (NodeIn.keep h (fun _ _ => id) _ _ hu2) (HHR.out.keep0 h) he1)
        have HPR := hide hpr; have HPN := hide hpn; have HPT := hide hp
        have G0 := hide (hka.cell id g0); have G1' := hide (hka.cell id g1); have G2' := hide (hka.cell id g2); have G3' := hide (hka.cell id g3); have G4' := hide (hka.cell id g4)
        have Q0 := hide d0
        have HE := hide (quE_gen (F := c.F) hkd hkids x.1 x.2)
        have hkci : (2 : Int) ≤ (kc1 : Int) := by omega
        have hkc1 : (1 : Int) ≤ (kc1 : Int) := by omega
        clear hu h1 hkind hka hkd hsz hne c1 c0 d0 hu2 g0 g1 g2 g3 g4 hpr hpn hp he1 hesz hbt1 hok hkids hBb2
        go_wp2_with fail
        refine order_begin (fun W => Keeps NoB (wr.alloc (.cells #[.int .u8 18, .string tx1, .int .i64 nm1, .int .i64 pl1, .slice (some ⟨b2, o2, none⟩) 2 kc1] 29)) W) (fun i => decide (i ≠ 6)) (by kernel_rfl) 7 rfl ?_
        have HS : Keeps NoB (wr.alloc (.cells #[.int .u8 18, .string tx1, .int .i64 nm1, .int .i64 pl1, .slice (some ⟨b2, o2, none⟩) 2 kc1] 29)) ((wr.alloc (.cells #[.int .u8 18, .string tx1, .int .i64 nm1, .int .i64 pl1, .slice (some ⟨b2, o2, none⟩) 2 kc1] 29))).drew := (Keeps.refl NoB _).drew
        refine order_held (i := 0) rfl (by kernel_rfl) (fun _ _ _ h => h) (.inl ⟨rfl, fun W hW => by
          have q0 : W.cell? ⟨p0, 0, none⟩ = some (.pointer (some ⟨cb, 0, none⟩)) := hW.cell id Q0.out
          go_simp; rfl⟩) HS ?_
        try simp only [Act.put, List.setIfInBounds_toArray, List.set_cons_succ, List.set_cons_zero]
        refine order_pure (i := 1) rfl (by kernel_rfl) (fun _ _ _ h => h) (.inl ⟨rfl, fun _ => by go_simp; rfl⟩) ?_
        try simp only [Act.put, List.setIfInBounds_toArray, List.set_cons_succ, List.set_cons_zero]
        refine order_held (i := 2) rfl (by kernel_rfl) (fun _ _ _ h => h) (.inl ⟨rfl, fun W hW => by
          have q0 : W.cell? ⟨wr.heap.size, 4, none⟩ = some (.slice (some ⟨b2, o2, none⟩) 2 kc1) := hW.cell id (HBN.out.cell 4)
          go_simp; rfl⟩) HS ?_
        try simp only [Act.put, List.setIfInBounds_toArray, List.set_cons_succ, List.set_cons_zero]
        refine order_pure (i := 3) rfl (by kernel_rfl) (fun _ _ _ h => h) (.inl ⟨rfl, fun _ => by go_simp; rfl⟩) ?_
        try simp only [Act.put, List.setIfInBounds_toArray, List.set_cons_succ, List.set_cons_zero]
        refine order_held (i := 4) rfl (by kernel_rfl) (fun _ _ _ h => h) (.inl ⟨rfl, fun W hW => by
          have q0 : W.cell? ⟨b2, o2 + 5, none⟩ = some (.int .u8 kd2) := hW.cell id G0.out
          have q1 : W.cell? ⟨b2, o2 + 6, none⟩ = some (.string tx2) := hW.cell id G1'.out
          have q2 : W.cell? ⟨b2, o2 + 7, none⟩ = some (.int .i64 nm2) := hW.cell id G2'.out
          have q3 : W.cell? ⟨b2, o2 + 8, none⟩ = some (.int .i64 pl2) := hW.cell id G3'.out
          have q4 : W.cell? ⟨b2, o2 + 9, none⟩ = some (.slice ka2 kn2 kc2) := hW.cell id G4'.out
          go_simp; rfl⟩) HS ?_
        try simp only [Act.put, List.setIfInBounds_toArray, List.set_cons_succ, List.set_cons_zero]
        refine order_pure (i := 5) rfl (by kernel_rfl) (fun _ _ _ h => h) (.inl ⟨rfl, fun _ => by go_simp; rfl⟩) ?_
        try simp only [Act.put, List.setIfInBounds_toArray, List.set_cons_succ, List.set_cons_zero]
        refine order_one (i := 6) rfl (by kernel_rfl) (fun K hK => ?_)
        go_simp
        refine (HEX.out _ (HKA.out.trans' HS (fun _ _ => id) (fun _ _ => id))).mono ?_
        rintro e' w2 ⟨hk2, hcase⟩
        have HKX := hide (((HKW.out.trans' HKA.out (fun _ _ => id) (fun _ _ h => h.elim) : Keeps (fun k => k = cb ∨ k = mg) w (wr.alloc (.cells #[.int .u8 18, .string tx1, .int .i64 nm1, .int .i64 pl1, .slice (some ⟨b2, o2, none⟩) 2 kc1] 29))).trans' HS (fun _ _ => id) (fun _ _ h => h.elim) : Keeps (fun k => k = cb ∨ k = mg) w (wr.alloc (.cells #[.int .u8 18, .string tx1, .int .i64 nm1, .int .i64 pl1, .slice (some ⟨b2, o2, none⟩) 2 kc1] 29)).drew).trans' (fp'' := (fun k => k = cb ∨ k = mg)) hk2 (fun _ _ => id) (fun i hi h => by have h2 := HM.out; rcases h with h | h <;> first | exact .inl h | (rcases h2 with h2 | h2 <;> first | exact .inr (h.trans h2) | omega)) : Keeps (fun k => k = cb ∨ k = mg) w w2)
        rcases hcase with ⟨k9, p9, hr9, he⟩ | ⟨x9, hr9, he, hx, mg2, hc2, hm2⟩
        · have HX := hide (foldE_stop (f := quE c.F) H1.out HF.out (show quE c.F t1 x = .error (k9, p9) from HE.out.trans (by unfold genR; rw [hr9])))
          unfold Stops at he
          subst he
          exact ⟨rfl, HKX.out, .inl ⟨_, _, by unfold compR; rw [HX.out], rfl⟩⟩
        · subst he
          refine hK _ _ (fun h => absurd h (by decide)) ?_
          clear hK
          try simp only [Act.put, List.setIfInBounds_toArray, List.set_cons_succ, List.set_cons_zero]
          refine order_done (by kernel_rfl) ?_
          have hk2' : Keeps (fun k => k = cb ∨ k = mg1) (wr.alloc (.cells #[.int .u8 18, .string tx1, .int .i64 nm1, .int .i64 pl1, .slice (some ⟨b2, o2, none⟩) 2 kc1] 29)) w2 := HS.trans' hk2 (fun _ _ h => h.elim) (fun _ _ => id)
          have hsz2 : wr.heap.size + 1 ≤ w2.heap.size := by have := hk2'.size; simpa using this
          have HK2 := hide hk2'; have HC2 := hide hc2; have HM2 := hide hm2
          have hms2 : Here c cb mg2 mo w2 x.1 x9.2 := ⟨hc2, (HHR.out.keep0 HKA.out).scope.keep hk2' (fun h => h.elim HHR.out.ne.1 HHR.out.ne.2), ⟨HHR.out.ne.1, by
            have h1 := HHR.out.ne.2; have h3 := HHR.out.scope.lt
            rcases hm2 with h | h
            · omega
            · simp at h; omega⟩, HHR.out.hi⟩
          have HH2 := hide hms2
          have hne := HNE.out
          have Q2 := hide (hk2'.cell (fun (h : p0 = cb ∨ p0 = mg1) => h.elim HP.out.1 hne.1) Q0.out)
          have hn2 : Blk w2 wr.heap.size 29 #[.int .u8 18, .string tx1, .int .i64 nm1, .int .i64 pl1, .slice (some ⟨b2, o2, none⟩) 2 kc1] := HBN.out.keep hk2' (fun h => by have h3 := HHR.out.ck.blk.lt; omega)
          have HN2 := hide hn2
          have HWW := hide (HKA.out.trans' hk2' (fun _ _ h => h.elim) (fun _ _ => id) : Keeps (fun k => k = cb ∨ k = mg1) wr w2)
          have HHD := hide (fun W (h : Keeps NoB w2 W) => head_any W (Bt c cb) false c.L [p] css2 (some ⟨b2, o2, none⟩) 1 kc1 cb (some mo) x.1
            (HPR.out.keep (HWW.out.trans' h (fun _ _ => id) (fun _ _ h => h.elim) : Keeps (fun k => k = cb ∨ k = mg1) wr W) HBT1.out) (NodesIn.keep (HWW.out.trans' h (fun _ _ => id) (fun _ _ h => h.elim) : Keeps (fun k => k = cb ∨ k = mg1) wr W) HBT1.out _ _ HPN.out) rfl (Roomy.small (by omega) (by omega))
            (fun y hy => by rw [List.mem_singleton] at hy; subst hy; exact HPT.out.ok) (fun y hy => by rw [List.mem_singleton] at hy; subst hy; exact HPT.out.names) (.inr ⟨mo, rfl, (HH2.out.keep0 h).scope⟩) HH2.out.ck.few)
          have HXE := hide (show genR c.F p e1 x.1 x.2 = match patsN [p] (fun _ => false) with
            | .error f => .error f
            | .ok own => .ok (fun t => own t || x.1 t, x9.2) by unfold genR; rw [hr9])
          clear hk2 hk2' hc2 hm2 hms2 hn2 hsz2 hne hr9 hx HS
          go_wp2_with fail
          refine order_begin (fun W => Keeps NoB w2 W) (fun i => true) (by kernel_rfl) 7 rfl ?_
          have HS : Keeps NoB w2 w2.drew := (Keeps.refl NoB _).drew
          refine order_held (i := 0) rfl (by kernel_rfl) (fun _ _ _ h => h) (.inl ⟨rfl, fun W hW => by
            have q0 : W.cell? ⟨p0, 0, none⟩ = some (.pointer (some ⟨cb, 0, none⟩)) := hW.cell id Q2.out
            go_simp; rfl⟩) HS ?_
          try simp only [Act.put, List.setIfInBounds_toArray, List.set_cons_succ, List.set_cons_zero]
          refine order_pure (i := 1) rfl (by kernel_rfl) (fun _ _ _ h => h) (.inl ⟨rfl, fun _ => by go_simp; rfl⟩) ?_
          try simp only [Act.put, List.setIfInBounds_toArray, List.set_cons_succ, List.set_cons_zero]
          refine order_held (i := 2) rfl (by kernel_rfl) (fun _ _ _ h => h) (.inl ⟨rfl, fun W hW => by
            have q0 : W.cell? ⟨wr.heap.size, 4, none⟩ = some (.slice (some ⟨b2, o2, none⟩) 2 kc1) := hW.cell id (HN2.out.cell 4)
            go_simp; rfl⟩) HS ?_
          try simp only [Act.put, List.setIfInBounds_toArray, List.set_cons_succ, List.set_cons_zero]
          refine order_pure (i := 3) rfl (by kernel_rfl) (fun _ _ _ h => h) (.inl ⟨rfl, fun _ => by go_simp; rfl⟩) ?_
          try simp only [Act.put, List.setIfInBounds_toArray, List.set_cons_succ, List.set_cons_zero]
          refine order_pure (i := 4) rfl (by kernel_rfl) (fun _ _ _ h => h) (.inl ⟨rfl, fun _ => by go_simp; rfl⟩) ?_
          try simp only [Act.put, List.setIfInBounds_toArray, List.set_cons_succ, List.set_cons_zero]
          refine order_one (i := 5) rfl (by kernel_rfl) (fun K hK => ?_)
          go_simp
          refine (HHD.out _ HS).mono ?_
          rintro e' w3 ⟨hk3, hcase⟩
          have HK3 := hide (HKX.out.trans' (HS.trans' hk3 (fun _ _ => id) (fun _ _ => id) : Keeps NoB w2 w3) (fun _ _ => id) (fun _ _ h => h.elim) : Keeps (fun k => k = cb ∨ k = mg) w w3)
          rcases hcase with ⟨k9, p9, hr8, he⟩ | ⟨own, hr8, m', he, hs3, hm3⟩
          · have HX := hide (foldE_stop (f := quE c.F) H1.out HF.out (show quE c.F t1 x = .error (k9, p9) from HE.out.trans (HXE.out.trans (by rw [hr8]))))
            unfold Stops at he
            subst he
            exact ⟨rfl, HK3.out, .inl ⟨_, _, by unfold compR; rw [HX.out], rfl⟩⟩
          · subst he
            have HS3 : Keeps NoB w2 w3 := HS.trans' hk3 (fun _ _ => id) (fun _ _ => id)
            refine hK _ _ (fun _ _ => HS3) ?_
            clear hK
            try simp only [Act.put, List.setIfInBounds_toArray, List.set_cons_succ, List.set_cons_zero]
            refine order_pure (i := 6) rfl (by kernel_rfl) (fun _ _ _ h => h) (.inl ⟨rfl, fun _ => by go_simp; rfl⟩) ?_
            try simp only [Act.put, List.setIfInBounds_toArray, List.set_cons_succ, List.set_cons_zero]
            refine order_done (by kernel_rfl) ?_
            have HX := hide (foldE_step (f := quE c.F) H1.out HF.out (show quE c.F t1 x = .ok (fun t => own t || x.1 t, x9.2) from HE.out.trans (HXE.out.trans (by rw [hr8]))))
            have HM3 := hide (mg_step HM.out HM2.out (Nat.le_trans HKW.out.size HKA.out.size))
            have HH3 : Hid (Here c cb mg2 m' w3 (fun t => own t || x.1 t) x9.2) := hide (Here.own (w' := w2) (HH2.out.ck.keep0 HS3) hs3 hm3 HH2.out.ck.gone.lt)
            clear hk3 hr8 hs3 hm3 HS HS3
            go_wp2_with fail
            go_roundg (n - (k + 1))
            case measure => omega
            case rel => exact ⟨k + 1, (fun t => own t || x.1 t, x9.2), mg2, m', by omega, rfl, by go_num, rfl, HX.out, HH3.out, HM3.out, HK3.out⟩
    · obtain rfl : k = n := by omega
      have he : List.take k qs = qs := List.take_of_length_le (by have := HLN.out; omega)
      have HX := hide (he ▸ HF.out)
      clear he
      have HXE := hide (show compR c.F e qs S G = exN c.F false e x.1 x.2 by unfold compR; rw [HX.out])
      have HEX := hide (fun W (h : Keeps NoB wr W) => HXX.out e HES.out.1 W c cb mg1 mo x.1 x.2 kd0 tx0 nm0 pl0 ka0 kn0 kc0 (NodeIn.keep (HKW.out.trans' h (fun _ _ => id) (fun _ _ h => h.elim) : Keeps (fun k => k = cb ∨ k = mg) w W) HBT.out _ _ HU0.out) (HHR.out.keep0 h) HEE.out)
      have HBN := hide (HBT.out _ HB.out)
      have F0 := hide (HKW.out.cell (p := ⟨b, o, none⟩) HBN.out HF0.out.1); have F1 := hide (HKW.out.cell (p := ⟨b, o + 1, none⟩) HBN.out HF0.out.2.1); have F2 := hide (HKW.out.cell (p := ⟨b, o + 2, none⟩) HBN.out HF0.out.2.2.1); have F3 := hide (HKW.out.cell (p := ⟨b, o + 3, none⟩) HBN.out HF0.out.2.2.2.1); have F4 := hide (HKW.out.cell (p := ⟨b, o + 4, none⟩) HBN.out HF0.out.2.2.2.2)
      have Q0 := hide c0; have Q1 := hide c1
      clear c0 c1
      go_wp2_with fail
      refine order_begin (fun W => Keeps NoB wr W) (fun i => decide (i ≠ 5)) (by kernel_rfl) 6 rfl ?_
      have HS : Keeps NoB wr wr.drew := (Keeps.refl NoB _).drew
      refine order_held (i := 0) rfl (by kernel_rfl) (fun _ _ _ h => h) (.inl ⟨rfl, fun W hW => by
        have q0 : W.cell? ⟨p0, 0, none⟩ = some (.pointer (some ⟨cb, 0, none⟩)) := hW.cell id Q0.out
        go_simp; rfl⟩) HS ?_
      try simp only [Act.put, List.setIfInBounds_toArray, List.set_cons_succ, List.set_cons_zero]
      refine order_held (i := 1) rfl (by kernel_rfl) (fun _ _ _ h => h) (.inl ⟨rfl, fun W hW => by
        have q0 : W.cell? ⟨p1, 0, none⟩ = some (.slice (some ⟨b, o, none⟩) (k + 1) cc) := hW.cell id Q1.out
        go_simp; rfl⟩) HS ?_
      try simp only [Act.put, List.setIfInBounds_toArray, List.set_cons_succ, List.set_cons_zero]
      refine order_pure (i := 2) rfl (by kernel_rfl) (fun _ _ _ h => h) (.inl ⟨rfl, fun _ => by go_simp; rfl⟩) ?_
      try simp only [Act.put, List.setIfInBounds_toArray, List.set_cons_succ, List.set_cons_zero]
      refine order_held (i := 3) rfl (by kernel_rfl) (fun _ _ _ h => h) (.inl ⟨rfl, fun W hW => by
        have q0 : W.cell? ⟨b, o, none⟩ = some (.int .u8 kd0) := hW.cell id F0.out
        have q1 : W.cell? ⟨b, o + 1, none⟩ = some (.string tx0) := hW.cell id F1.out
        have q2 : W.cell? ⟨b, o + 2, none⟩ = some (.int .i64 nm0) := hW.cell id F2.out
        have q3 : W.cell? ⟨b, o + 3, none⟩ = some (.int .i64 pl0) := hW.cell id F3.out
        have q4 : W.cell? ⟨b, o + 4, none⟩ = some (.slice ka0 kn0 kc0) := hW.cell id F4.out
        go_simp; rfl⟩) HS ?_
      try simp only [Act.put, List.setIfInBounds_toArray, List.set_cons_succ, List.set_cons_zero]
      refine order_pure (i := 4) rfl (by kernel_rfl) (fun _ _ _ h => h) (.inl ⟨rfl, fun _ => by go_simp; rfl⟩) ?_
      try simp only [Act.put, List.setIfInBounds_toArray, List.set_cons_succ, List.set_cons_zero]
      refine order_one (i := 5) rfl (by kernel_rfl) (fun K hK => ?_)
      go_simp
      refine (HEX.out _ HS).mono ?_
      rintro e' w2 ⟨hk2, hcase⟩
      have HK2 := hide ((HKW.out.trans' HS (fun _ _ => id) (fun _ _ h => h.elim) : Keeps (fun k => k = cb ∨ k = mg) w wr.drew).trans' (fp'' := (fun k => k = cb ∨ k = mg)) hk2 (fun _ _ => id) (fun i hi h => by have h2 := HM.out; rcases h with h | h <;> first | exact .inl h | (rcases h2 with h2 | h2 <;> first | exact .inr (h.trans h2) | omega)) : Keeps (fun k => k = cb ∨ k = mg) w w2)
      rcases hcase with ⟨k9, p9, hr9, he⟩ | ⟨x9, hr9, he, hx, mg2, hc2, hm2⟩
      · unfold Stops at he
        subst he
        exact ⟨rfl, HK2.out, .inl ⟨_, _, HXE.out.trans hr9, rfl⟩⟩
      · subst he
        refine hK _ _ (fun h => absurd h (by decide)) ?_
        clear hK
        try simp only [Act.put, List.setIfInBounds_toArray, List.set_cons_succ, List.set_cons_zero]
        refine order_done (by kernel_rfl) ?_
        go_wp2_with fail
        go_end0
        exact ⟨HK2.out, .inr ⟨x9, HXE.out.trans hr9, rfl, mg2, x9.2, hc2⟩⟩
end Go.Proofs.YtincajfanhanjaaDoor
