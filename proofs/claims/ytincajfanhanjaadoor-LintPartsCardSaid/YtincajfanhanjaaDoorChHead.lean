/- lint.arities, checker.head, checker.call of any. checker.call of any. -/
import Derived.Test.YtincajfanhanjaaDoorChGuard
namespace Go.Proofs.YtincajfanhanjaaDoor
open Go.RowKit Go.Maps

set_option maxRecDepth 100000 in
set_option maxHeartbeats 4000000 in
theorem arities_any (w : World) (B : Nat → Prop) (F : Bool) (ts : List Nd) (css : List (List Value)) (A : Option Addr) (n c : Nat) (a : Int) (hr : Reads w B F 5 A n css.flatten) (hc : NodesIn w B F css ts) (hln : ts.length = n) (hro : Roomy n 64) (h3 : ∀ t ∈ ts, 0 < t.kids.length) :
    Calls Tryd.prog 24 #[.slice A n c, .int .i64 a] w (Ends (arityN ts a) NoB w fun _ e _ => e = .returned (.tuple #[])) := by
  have hnm : n ≤ 9223372036854775807 := by have := hro.len (by omega); unfold maxLen at this; exact this
  have HE := hide (arity_fold a ts)
  have HR := hide hr; have HC := hide hc; have HLN := hide hln; have H3 := hide h3
  have HK := hide (Keeps.refl NoB w)
  clear hr hc hln h3 hro
  go_enter Tryd.func24, Tryd.ntmps24
  go_wp2
  go_loopg [9] n (fun g s9 wx => ∃ k : Nat, k ≤ n ∧ g = n - k ∧ s9 = .int .i64 k ∧ foldE (arE a) (List.take k ts) () = .ok () ∧ Keeps NoB w wx)
  case atStart => exact ⟨0, Nat.zero_le _, rfl, rfl, by simp [foldE], HK.out⟩
  case round =>
    obtain ⟨k, hk, rfl, rfl, hf, hkw⟩ := hrel
    have HKW := hide hkw; have HF := hide hf; clear hkw hf
    by_cases hlt : k < n
    · obtain ⟨b, o, kd1, tx1, nm1, pl1, ka1, kn1, kc1, t1, hA, _, hb1, h1, _, hu, f0, f1, f2, f3, f4⟩ := node_at (HR.out.keep HKW.out (fun _ _ => id)) (NodesIn.keep HKW.out (fun _ _ => id) _ _ HC.out) k hlt
      subst hA
      obtain ⟨kids1, css1, e1, _, hr1, hc1, hl1⟩ := hu.kidsIn
      have h01 : 0 < kn1 := by have h := H3.out t1 (List.mem_of_getElem? h1); rw [e1] at h; simp only [Nd.kids] at h; omega
      obtain ⟨b2, o2, kd2, tx2, nm2, pl2, ka2, kn2, kc2, t2, hA2, _, hb2, h2, _, hu2, _, _, _, _, g4⟩ := node_at hr1 hc1 0 h01
      subst hA2
      have hka := HKW.out.alloc (.cells #[.int .u8 kd1, .string tx1, .int .i64 nm1, .int .i64 pl1, .slice (some ⟨b2, o2, none⟩) kn1 kc1] 29)
      have q4 : (wr.alloc (.cells #[.int .u8 kd1, .string tx1, .int .i64 nm1, .int .i64 pl1, .slice (some ⟨b2, o2, none⟩) kn1 kc1] 29)).cell? ⟨b2, o2 + 4, none⟩ = some (.slice ka2 kn2 kc2) := ((Keeps.refl NoB wr).alloc _).cell id (by simpa using g4)
      have hfn : firstN t1 = kn2 := by
        obtain ⟨kids2, _, e2, _, _, _, hl2⟩ := hu2.kidsIn
        rw [e1]
        unfold firstN
        simp only [Nd.kids]
        match kids1, h2 with
        | p :: r, h2 =>
          obtain rfl : p = t2 := by simpa using h2
          simp only [e2]
          exact hl2
      have hpl : t1.place = pl1 := by rw [e1]; rfl
      have HAR : Hid (arE a t1 () = if 12 < kn2 then .error (217, pl1) else if (kn2 : Int) ≠ a then .error (211, pl1) else .ok ()) := hide (by unfold arE; rw [hfn, hpl])
      have H1 := hide h1
      have HKA := hide hka
      have hn2 : kn2 ≤ 9223372036854775807 := by
        obtain ⟨_, _, _, hro2, _⟩ := hu2.kidsIn
        have := hro2.1.len (by omega); unfold maxLen at this; exact this
      clear h1 hu hu2 hr1 hc1 hl1 e1 h2 hfn hpl hka g4
      have hk1 : (k : Int) < (n : Int) := by omega
      have hk0 : (0 : Int) ≤ (k : Int) := by omega
      by_cases h12 : 12 < kn2
      · have HX := hide (foldE_stop (f := arE a) H1.out HF.out (HAR.out.trans (if_pos h12)))
        have h12i : (12 : Int) < (kn2 : Int) := by omega
        have h12b : decide ((12 : Int) < (kn2 : Int)) = true := by simp; omega
        go_wp2_with
          first
          | (go_at_call 23
             refine (stop_any _ _ kd1 tx1 nm1 pl1 _ _ _).mono ?_
             rintro e w2 ⟨he, hk⟩
             unfold Stops at he
             subst he
             have HK2 := hide (HKA.out.trans' hk (fun _ _ => id) (fun _ _ => id) : Keeps NoB w w2)
             clear hk)
          | fail
        exact ⟨rfl, HK2.out, .inl ⟨_, _, HE.out.trans HX.out, rfl⟩⟩
      · have h12b : decide ((12 : Int) < (kn2 : Int)) = false := by simp; omega
        by_cases hna : (kn2 : Int) = a
        · have HX := hide (foldE_step (f := arE a) H1.out HF.out ((HAR.out.trans (if_neg h12)).trans (if_neg (fun h => h hna))))
          have hnb : ((kn2 : Int) != a) = false := by simpa using hna
          go_wp2
          go_roundg (n - (k + 1))
          case measure => omega
          case rel => exact ⟨k + 1, by omega, rfl, by go_num, HX.out, HKA.out⟩
        · have HX := hide (foldE_stop (f := arE a) H1.out HF.out ((HAR.out.trans (if_neg h12)).trans (if_pos hna)))
          have hnb : ((kn2 : Int) != a) = true := by simpa using hna
          go_wp2_with
            first
            | (go_at_call 23
               refine (stop_any _ _ kd1 tx1 nm1 pl1 _ _ _).mono ?_
               rintro e w2 ⟨he, hk⟩
               unfold Stops at he
               subst he
               have HK2 := hide (HKA.out.trans' hk (fun _ _ => id) (fun _ _ => id) : Keeps NoB w w2)
               clear hk)
            | fail
          exact ⟨rfl, HK2.out, .inl ⟨_, _, HE.out.trans HX.out, rfl⟩⟩
    · obtain rfl : k = n := by omega
      have he : List.take k ts = ts := List.take_of_length_le (by have := HLN.out; omega)
      have HX := hide (he ▸ HF.out)
      clear he
      go_wp2
      go_end0
      exact ⟨HKW.out, .inr ⟨(), HE.out.trans HX.out, rfl⟩⟩
set_option maxRecDepth 100000 in
set_option maxHeartbeats 4000000 in
theorem head_any (w : World) (B : Nat → Prop) (F : Bool) (L : List ByteArray) (ts : List Nd) (css : List (List Value)) (A : Option Addr) (n c cb : Nat) (ps : Option Nat) (S1 : Scope) (hr : Reads w B F 5 A n css.flatten) (hc : NodesIn w B F css ts) (hln : ts.length = n) (hro : Roomy n 64)
    (hok : ∀ t ∈ ts, okN t) (hnm : ∀ t ∈ ts, namesIn L t) (hS : (ps = none ∧ S1 = fun _ => false) ∨ ∃ m, ps = some m ∧ ScopeL w L m S1) (hL : L.length < 1048576) :
    Calls Tryd.prog 26 #[.pointer (some ⟨cb, 0, none⟩), .slice A n c, .map ps] w (Ends (patsN ts (fun _ => false)) NoB w fun own e w' => ∃ m', e = .returned (.map (some m')) ∧ ScopeL w' L m' (fun t => own t || S1 t) ∧ w.heap.size ≤ m') := by
  have hn9 : n ≤ 9223372036854775807 := by have := hro.len (by omega); unfold maxLen at this; exact this
  have HE := hide (pats_fold ts (fun _ => false))
  have HK0 := hide ((Keeps.refl NoB w).alloc (.map #[] 0))
  have HS0 := hide (ScopeL.made w L)
  have HR := hide ((hr.more (B' := fun k => k < w.heap.size) (fun k hk _ => hk)).keep HK0.out (fun _ _ => id)); have HC := hide (NodesIn.keep HK0.out (fun _ _ => id) _ _ (NodesIn.more (B' := fun k => k < w.heap.size) (fun k hk _ => hk) _ _ hc)); have HLN := hide hln; have HOK := hide hok; have HNM := hide hnm; have HSS := hide hS; have HL := hide hL
  have hmm := @run_makeMap Tryd.prog
  clear hr hc hln hro hok hnm hS hL
  go_enter Tryd.func26, Tryd.ntmps26
  go_wp2
  go_loopg [13] n (fun g s13 wx => ∃ (k : Nat) (S' : Scope), k ≤ n ∧ g = n - k ∧ s13 = .int .i64 k ∧ foldE patN (List.take k ts) (fun _ => false) = .ok S' ∧ ScopeL wx L w.heap.size S' ∧ Keeps (fun k => k = w.heap.size) (w.alloc (.map #[] 0)) wx)
  case atStart => exact ⟨0, _, Nat.zero_le _, rfl, rfl, by simp [foldE], HS0.out, Keeps.refl _ _⟩
  case round =>
    obtain ⟨k, S', hk, rfl, rfl, hf, hs, hkw⟩ := hrel
    have HKW := hide hkw; have HF := hide hf; have HS := hide hs; clear hkw hf hs
    by_cases hlt : k < n
    · obtain ⟨b, o, kd1, tx1, nm1, pl1, ka1, kn1, kc1, t1, hA, _, hb1, h1, _, hu, f0, f1, f2, f3, f4⟩ := node_at (HR.out.keep HKW.out (fun _ h e => by omega)) (NodesIn.keep HKW.out (fun _ h e => by omega) _ _ HC.out) k hlt
      subst hA
      have H1 := hide h1; have HU := hide hu
      have HM := hide (List.mem_of_getElem? h1)
      clear h1 hu
      have hk1 : (k : Int) < (n : Int) := by omega
      have hk0 : (0 : Int) ≤ (k : Int) := by omega
      go_wp2_with
        first
        | (go_at_call 37
           refine (pat_any t1 _ (fun k => k < w.heap.size) F L cb w.heap.size S' kd1 tx1 nm1 pl1 ka1 kn1 kc1 (NodeIn.keep ((Keeps.refl NoB _).alloc _) (fun _ _ => id) _ _ HU.out) (fun k h e => by omega) (HOK.out _ HM.out) (HNM.out _ HM.out) (HS.out.keep ((Keeps.refl NoB _).alloc _) id) HL.out).mono ?_
           rintro e w2 ⟨hk2, ⟨k9, p9, hr9, he⟩ | ⟨S2, hr9, he, hs2⟩⟩
           all_goals have HK2 := hide ((HKW.out.alloc _).trans' hk2 (fun _ _ => id) (fun _ _ => id) : Keeps (fun k => k = w.heap.size) (w.alloc (.map #[] 0)) w2)
           all_goals first
             | (have HX := hide (foldE_stop H1.out HF.out hr9)
                unfold Stops at he
                subst he
                clear hk2 hr9)
             | (have HX := hide (foldE_step H1.out HF.out hr9)
                have HS2 := hide hs2
                subst he
                clear hk2 hr9 hs2))
        | fail
      · exact ⟨rfl, HK0.out.trans' HK2.out (fun _ _ => id) (fun i hi e => by omega), .inl ⟨_, _, HE.out.trans HX.out, rfl⟩⟩
      · go_roundg (n - (k + 1))
        case measure => omega
        case rel => exact ⟨k + 1, S2, by omega, rfl, by go_num, HX.out, HS2.out, HK2.out⟩
    · obtain rfl : k = n := by omega
      have he : List.take k ts = ts := List.take_of_length_le (by have := HLN.out; omega)
      have HX := hide (he ▸ HF.out)
      clear he
      have HKZ : Hid (Keeps NoB w wr) := hide (HK0.out.trans' HKW.out (fun _ _ => id) (fun i hi e => by omega))
      have HSW : Hid ((ps = none ∧ S1 = fun _ => false) ∨ ∃ m, ps = some m ∧ ScopeL wr L m S1) := hide (HSS.out.imp id (fun ⟨m, e, h⟩ => ⟨m, e, h.keep HKZ.out id⟩))
      go_wp2_with
        first
        | (go_at_call 38
           refine (ScopeL.with_any ps S1 _ HSW.out HS.out HL.out).mono ?_
           rintro e w3 ⟨m', rfl, hs3, hm, hk3⟩
           have HS3 := hide hs3
           have HM := hide hm
           have HK3 := hide (HKZ.out.trans' hk3 (fun _ _ => id) (fun _ _ => id) : Keeps NoB w w3)
           clear hs3 hm hk3)
        | fail
      go_ret
      exact ⟨HK3.out, .inr ⟨S', HE.out.trans HX.out, m', rfl, HS3.out, Nat.le_trans HKZ.out.size HM.out⟩⟩
end Go.Proofs.YtincajfanhanjaaDoor
namespace Go.Proofs.YtincajfanhanjaaDoor
open Go.RowKit Go.Maps

def KidsIn (w : World) (B : Nat → Prop) (F : Bool) (ks : List Nd) (e : Ending) : Prop := ∃ A' n' c' css, e = .returned (.slice A' n' c') ∧ Reads w B F 5 A' n' (List.flatten css) ∧ NodesIn w B F css ks ∧ ks.length = n' ∧ Roomy n' 64
theorem nd_text {w : World} {B : Nat → Prop} {F : Bool} {t : Nd} {kd : Int} {tx : ByteArray} {nm pl : Int} {ka : Option Addr} {kn kc : Nat} (h : NodeIn w B F [.int .u8 kd, .string tx, .int .i64 nm, .int .i64 pl, .slice ka kn kc] t) : t.kind = kd ∧ t.text = tx ∧ t.num = nm ∧ t.place = pl ∧ t.kids.length = kn := by
  obtain ⟨_, _, e, _, _, _, hl⟩ := h.kidsIn
  rw [e]; exact ⟨rfl, rfl, rfl, rfl, hl⟩
theorem okN_text {t : Nd} (h : okN t) : t.text.size ≤ 140737488355328 := by
  cases t; unfold okN at h; exact h.2.1
set_option maxRecDepth 100000 in
set_option maxHeartbeats 4000000 in
theorem call_any (w : World) (B : Nat → Prop) (F : Bool) (c : Cx) (cb mg : Nat) (G : Scope) (kd : Int) (tx : ByteArray) (nm pl : Int) (ka : Option Addr) (kn kc : Nat) (kids : List Nd) (ht : NodeIn w B F [.int .u8 kd, .string tx, .int .i64 nm, .int .i64 pl, .slice ka kn kc] (.mk kd tx nm pl kids)) (hC : CkS c cb w mg G) (ho : okN (.mk kd tx nm pl kids)) (h1 : 0 < kids.length) :
    Calls Tryd.prog 73 #[.pointer (some ⟨cb, 0, none⟩), .agg #[.int .u8 kd, .string tx, .int .i64 nm, .int .i64 pl, .slice ka kn kc]] w (Ends (callN c.F kids pl) NoB w fun ks e _ => KidsIn w B F ks e) := by
  obtain ⟨_, css, e0, hroom, hr, hc, hkl⟩ := ht.kidsIn
  injection e0 with _ _ _ _ e0
  subst e0
  obtain ⟨n, rfl⟩ : ∃ n, kn = n + 1 := ⟨kn - 1, by omega⟩
  obtain ⟨b, o, kd1, tx1, nm1, pl1, ka1, kn1, kc1, t1, hA, hB1, hbl, e1, _, hu1, f0, f1, f2, f3, f4⟩ := node_at hr hc 0 (by omega)
  subst hA
  obtain ⟨t0, ts, rfl⟩ : ∃ t0 ts, kids = t0 :: ts := by
    match kids, hkl with
    | t0 :: ts, _ => exact ⟨t0, ts, rfl⟩
  obtain rfl : t0 = t1 := by simpa using e1
  have hln : ts.length = n := by simpa using hkl
  unfold okN at ho
  obtain ⟨hkt, hkx, _⟩ := nd_text hu1
  have htx1 : tx1.size ≤ 140737488355328 := by have h := okN_text (okNs_mem ho.2.2.2.2 t0 List.mem_cons_self); rw [hkx] at h; exact h
  have hk0 : Keeps NoB w (w.alloc (.cells #[.int .u8 kd, .string tx, .int .i64 nm, .int .i64 pl, .slice (some ⟨b, o, none⟩) (n + 1) kc] 29)) := (Keeps.refl NoB w).alloc _
  have q0 : (w.alloc (.cells #[.int .u8 kd, .string tx, .int .i64 nm, .int .i64 pl, .slice (some ⟨b, o, none⟩) (n + 1) kc] 29)).cell? ⟨b, o, none⟩ = some (.int .u8 kd1) := hk0.cell id (by simpa using f0)
  have q1 : (w.alloc (.cells #[.int .u8 kd, .string tx, .int .i64 nm, .int .i64 pl, .slice (some ⟨b, o, none⟩) (n + 1) kc] 29)).cell? ⟨b, o + 1, none⟩ = some (.string tx1) := hk0.cell id (by simpa using f1)
  have hr0 := hr
  have hc0 := hc
  have hr1 := hr0.from' hc.lens.2 (i := 1) (c := kc) (by omega) hroom.2
  rw [show (some ⟨b, if kc = 1 then o else o + 1 * 5, none⟩ : Option Addr) = if kc = 1 then some ⟨b, o, none⟩ else some ⟨b, o + 5, none⟩ by split <;> rfl, Nat.add_sub_cancel] at hr1
  have HR0 := hide hr0; have HC0 := hide hc0; have HR := hide hr1; have HC := hide (show NodesIn w B F (css.drop 1) ts from NodesIn.drop 1 hc0); have HKL := hide hln; have HCK := hide (hC.keep0 hk0)
  have HRO := hide hroom.1
  have hkc : n + 1 ≤ kc := hroom.2
  have hkc1 : ((n : Int) + 1) ≤ (kc : Int) := by omega
  have hnm : n + 1 ≤ 9223372036854775807 := by have := hroom.1.len (by omega); unfold maxLen at this; exact this
  have HK := hide hk0
  have hp1 : (Lit.int .i64 (n : Int)).wf = true := wf_i64 (by omega) (by omega)
  obtain ⟨nf, hfun⟩ := (hC.keep0 hk0).funs
  have hl1 := hfun.look (s := tx1) (by unfold maxLen; omega)
  have hl2 := hfun.look2 tx1 hp1
  have hmf : ((Blk (w.alloc (.cells #[.int .u8 kd, .string tx, .int .i64 nm, .int .i64 pl, .slice (some ⟨b, o, none⟩) (n + 1) kc] 29)) cb 54 #[.map (some c.mf), .map (some mg)])) := (hC.keep0 hk0).blk
  have qc : (w.alloc (.cells #[.int .u8 kd, .string tx, .int .i64 nm, .int .i64 pl, .slice (some ⟨b, o, none⟩) (n + 1) kc] 29)).cell? ⟨cb, 0, none⟩ = some (.map (some c.mf)) := hmf.cell 0
  clear ht hC hroom hr hc hkl e1 hu1 f0 f1 f2 f3 f4 hr1 hr0 hc0 hk0 hfun hp1 hmf hB1 hbl h1
  by_cases h12 : 12 < n
  · have HE : Hid (callN c.F (t0 :: ts) pl = .error (217, pl)) := hide (by unfold callN; rw [if_pos (by simp only [List.length_cons, hln]; omega)])
    have h12b : decide ((12 : Int) < (n : Int)) = true := by simp; omega
    clear hl1 hl2
    go_enter Tryd.func73, Tryd.ntmps73
    go_wp2_with
      first
  
      | (go_at_call 23
         refine (stop_any _ _ kd tx nm pl _ _ _).mono ?_
         rintro e w2 ⟨he, hk⟩
         unfold Stops at he
         subst he
         have HK2 := hide (HK.out.trans' hk (fun _ _ => id) (fun _ _ => id) : Keeps NoB w w2)
         clear hk)
      | fail
    exact ⟨rfl, HK2.out, .inl ⟨_, _, HE.out, rfl⟩⟩
  · have h12b : decide ((12 : Int) < (n : Int)) = false := by simp; omega
    by_cases h2 : kd1 = 2
    · subst h2
      cases hF : c.F tx1 n with
      | true =>
        have HE : Hid (callN c.F (t0 :: ts) pl = .ok ts) := hide (by unfold callN; rw [if_neg (by simp only [List.length_cons, hln]; omega)]; dsimp only; rw [if_neg (fun h => h hkt), if_neg (fun h => by rw [hkx, hln, hF] at h; exact absurd h.1 (by decide))])
        rw [hF] at hl2
        clear hF hkt hkx
        go_enter Tryd.func73, Tryd.ntmps73
        go_wp2
        all_goals go_ret
        case inl =>
          obtain rfl : n = 0 := by omega
          have hts := HKL.out
          obtain rfl : ts = [] := List.length_eq_zero_iff.1 hts
          exact ⟨by subst h; exact HK.out, .inr ⟨[], HE.out, _, _, _, [], rfl, Reads.zero _ _ _ _ _, by unfold NodesIn; trivial, rfl, by unfold Roomy; omega⟩⟩
        case inr =>
          have hr2 := HR.out
          rw [if_neg (by assumption)] at hr2
          exact ⟨HK.out, .inr ⟨ts, HE.out, _, _, _, css.drop 1, rfl, hr2, HC.out, HKL.out, HRO.out.of_le (by omega)⟩⟩
      | false =>
        rw [hF] at hl2
        by_cases hq : kindN tx1.data.toList n = 0
        · have HE : Hid (callN c.F (t0 :: ts) pl = .error (215, pl)) := hide (by unfold callN; rw [if_neg (by simp only [List.length_cons, hln]; omega)]; dsimp only; rw [if_neg (fun h => h hkt), if_pos ⟨by rw [hkx, hln, hF], by rw [hkx, hln, hq]⟩])
          have HQ : Hid ((kindN tx1.data.toList n == 0) = true) := hide (by simpa using hq)
          clear hF hkt hkx hq
          go_enter Tryd.func73, Tryd.ntmps73
          go_wp2_with
            first
            | (go_at_call 8
               refine (kind_any tx1 n _ HCK.out.laid.kind (by omega)).mono ?_
               rintro e w2 ⟨rfl, rfl⟩
               have hkq := HQ.out
               clear hl1 hl2)
            | (go_at_call 23
               refine (stop_any _ _ kd tx nm pl _ _ _).mono ?_
               rintro e w2 ⟨he, hk⟩
               unfold Stops at he
               subst he
               have HK2 := hide (HK.out.trans' hk (fun _ _ => id) (fun _ _ => id) : Keeps NoB w w2)
               clear hk)
            | fail
          exact ⟨rfl, HK2.out, .inl ⟨_, _, HE.out, rfl⟩⟩
        · have HE : Hid (callN c.F (t0 :: ts) pl = .ok ts) := hide (by unfold callN; rw [if_neg (by simp only [List.length_cons, hln]; omega)]; dsimp only; rw [if_neg (fun h => h hkt), if_neg (fun h => by rw [hkx, hln] at h; exact hq h.2)])
          have HQ : Hid ((kindN tx1.data.toList n == 0) = false) := hide (by simpa using hq)
          clear hF hkt hkx hq
          go_enter Tryd.func73, Tryd.ntmps73
          go_wp2_with
            first
            | (go_at_call 8
               refine (kind_any tx1 n _ HCK.out.laid.kind (by omega)).mono ?_
               rintro e w2 ⟨rfl, rfl⟩
               have hkq := HQ.out
               clear hl1 hl2)
            | fail
          all_goals go_ret
          case inl =>
            obtain rfl : n = 0 := by omega
            have hts := HKL.out
            obtain rfl : ts = [] := List.length_eq_zero_iff.1 hts
            exact ⟨by subst h; exact HK.out, .inr ⟨[], HE.out, _, _, _, [], rfl, Reads.zero _ _ _ _ _, by unfold NodesIn; trivial, rfl, by unfold Roomy; omega⟩⟩
          case inr =>
            have hr2 := HR.out
            rw [if_neg (by assumption)] at hr2
            exact ⟨HK.out, .inr ⟨ts, HE.out, _, _, _, css.drop 1, rfl, hr2, HC.out, HKL.out, HRO.out.of_le (by omega)⟩⟩
    · have HE : Hid (callN c.F (t0 :: ts) pl = .ok (t0 :: ts)) := hide (by unfold callN; rw [if_neg (by simp only [List.length_cons, hln]; omega)]; dsimp only; rw [if_pos (fun h => h2 (hkt.symm.trans h))])
      have hkb : (kd1 != 2) = true := by simpa using h2
      clear hl1 hl2 hkt hkx h2
      go_enter Tryd.func73, Tryd.ntmps73
      go_wp2
      go_ret
      exact ⟨HK.out, .inr ⟨t0 :: ts, HE.out, _, _, _, css, rfl, HR0.out, HC0.out, by simp [HKL.out], HRO.out⟩⟩
end Go.Proofs.YtincajfanhanjaaDoor
