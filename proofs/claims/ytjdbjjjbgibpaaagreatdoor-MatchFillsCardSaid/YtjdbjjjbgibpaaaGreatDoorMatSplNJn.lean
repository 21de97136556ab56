/- match: the rows of kids and terms, one by one (given match for smaller patterns). term.Split at what it does not part. Printed by mksplitn2.py. -/
import Derived.Test.YtjdbjjjbgibpaaaGreatDoorMatNewJn
import Derived.Test.YtjdbjjjbgibpaaaGreatDoorSplitNJn
import Derived.Test.YtjdbjjjbgibpaaaGreatDoorMatSplitJn
namespace Go.Proofs.YtjdbjjjbgibpaaaGreatDoor
open Go.RowKit

/-- What is neither row. -/
abbrev Off (A D : Option Addr) : Nat → Prop := fun k => ¬ rowB A k ∧ ¬ rowB D k
abbrev Rows2 (A D : Option Addr) : Nat → Prop := fun k => rowB A k ∨ rowB D k
def MatP (w : World) (A : Option Addr) (n c : Nat) (D : Option Addr) (m d : Nat) (r : Option VSt) (e : Ending) (w' : World) : Prop :=
  ∃ b css' v', e = .returned (.bool b) ∧ VAt w' A n c D m d css' v' ∧ (b = true → r = some v') ∧ (b = false → r = none) ∧ okTs v'.vals ∧ Keeps (Rows2 A D) w w'
def MSaid (M : Nat) : Prop := ∀ (p : Co), p.size ≤ M → ∀ (t : Tm) (v : VSt) (A : Option Addr) (n c : Nat) (D : Option Addr) (m d : Nat) (css : List (List Value)) (w : World),
  VAt w A n c D m d css v → v.made → okTs v.vals → okT t → okC p →
  ∀ (kd : Int) (tx : ByteArray) (nm tk : Int) (ng : Bool) (la : Option Addr) (ln lc : Nat) (tt : ByteArray) (tn : Int) (ia : Option Addr) (im ic : Nat) (ta : Option Addr) (tm tc : Nat) (ka : Option Addr) (kn kc : Nat)
    (kd' : Int) (ng' : Bool) (la' : Option Addr) (ln' lc' : Nat) (tx' : ByteArray) (nm' : Int) (ia' : Option Addr) (im' ic' : Nat) (ta' : Option Addr) (tn' tc' : Nat),
  CoreIn w (Off A D) false [.int .u8 kd, .string tx, .int .i64 nm, .int .u8 tk, .bool ng, .slice la ln lc, .string tt, .int .i64 tn, .slice ia im ic, .slice ta tm tc, .slice ka kn kc] p → TermIn w (Off A D) false [.int .u8 kd', .bool ng', .slice la' ln' lc', .string tx', .int .i64 nm', .slice ia' im' ic', .slice ta' tn' tc'] t →
  Calls Tryz.prog 28 #[.agg #[.slice A n c, .slice D m d], .agg #[.int .u8 kd, .string tx, .int .i64 nm, .int .u8 tk, .bool ng, .slice la ln lc, .string tt, .int .i64 tn, .slice ia im ic, .slice ta tm tc, .slice ka kn kc], .agg #[.int .u8 kd', .bool ng', .slice la' ln' lc', .string tx', .int .i64 nm', .slice ia' im' ic', .slice ta' tn' tc']] w (MatP w A n c D m d (matchN p t v))
theorem rowsN_ne : ∀ (ks : List Co) (ts : List Tm) (v : VSt), ks.length ≠ ts.length → rowsN ks ts v = none
  | [], [], _, h => absurd rfl h
  | k :: ks, t :: ts, v, h => by
    unfold rowsN
    rw [if_neg (fun e => h (by simp [e]))]
  | [], _ :: _, _, _ => by unfold rowsN; rfl
  | _ :: _, [], _, _ => by unfold rowsN; rfl
theorem rowsN_drop {ks : List Co} {ts : List Tm} {i : Nat} {p : Co} {t : Tm} (v : VSt) (hk : ks[i]? = some p) (ht : ts[i]? = some t) (hl : ks.length = ts.length) : rowsN (ks.drop i) (ts.drop i) v = (match matchN p t v with | some v' => rowsN (ks.drop (i + 1)) (ts.drop (i + 1)) v' | none => none) := by
  obtain ⟨h1, e1⟩ := List.getElem?_eq_some_iff.1 hk
  obtain ⟨h2, e2⟩ := List.getElem?_eq_some_iff.1 ht
  rw [List.drop_eq_getElem_cons h1, List.drop_eq_getElem_cons h2, e1, e2]
  rw [rowsN.eq_def]
  simp only
  rw [if_pos (by simp; omega)]
  cases matchN p t v <;> rfl
theorem okTs_at : ∀ {ts : List Tm} {i : Nat} {t : Tm}, okTs ts → ts[i]? = some t → okT t
  | [], _, _, _, h => by simp at h
  | t :: ts, 0, u, hf, h => by
    obtain rfl : t = u := by simpa using h
    unfold okTs at hf; exact hf.1
  | t :: ts, i + 1, u, hf, h => by
    unfold okTs at hf
    exact okTs_at hf.2 (by simpa using h)
theorem VAt.made {w : World} {A D : Option Addr} {n c m d : Nat} {css : List (List Value)} {v u : VSt} (h : VAt w A n c D m d css v) {w' : World} {css' : List (List Value)} (h2 : VAt w' A n c D m d css' u) (hm : v.made) : u.made := by
  have e1 := h.nh; have e2 := h.nv; have e3 := h2.nh; have e4 := h2.nv
  unfold VSt.made at *; omega

/-- How far the rows are. -/
structure RowsInv (w wx : World) (A : Option Addr) (n c : Nat) (D : Option Addr) (m d : Nat) (v : VSt) (ks : List Co) (ts : List Tm) (i : Nat) : Prop where
  ex : ∃ css' v', VAt wx A n c D m d css' v' ∧ okTs v'.vals ∧ v'.made ∧ rowsN ks ts v = rowsN (ks.drop i) (ts.drop i) v' ∧ Keeps (Rows2 A D) w wx
set_option maxRecDepth 100000 in
set_option maxHeartbeats 4000000 in
theorem rows_any (M : Nat) (IH : MSaid M) (ks : List Co) (hM : Co.size.sizes ks ≤ M) (ts : List Tm) (v : VSt) (A : Option Addr) (n c : Nat) (D : Option Addr) (m d : Nat) (css : List (List Value)) (w : World)
    (h : VAt w A n c D m d css v) (hmd : v.made) (hov : okTs v.vals) (hot : okTs ts) (hok : okCs ks) (vb : Nat) (hvb : Blk w vb 39 #[.slice A n c, .slice D m d])
    (kA : Option Addr) (kn kc : Nat) (kcss : List (List Value)) (tA : Option Addr) (tn tc : Nat) (tcss : List (List Value)) (hk : Reads w (Off A D) false 11 kA kn kcss.flatten) (hkc : CoresIn w (Off A D) false kcss ks) (ht : Reads w (Off A D) false 7 tA tn tcss.flatten) (htc : TermsIn w (Off A D) false tcss ts) (hr1 : Roomy kn 160) (hr2 : Roomy tn 104) :
    Calls Tryz.prog 45 #[.slice kA kn kc, .slice tA tn tc, .pointer (some ⟨vb, 0, none⟩)] w (MatP w A n c D m d (rowsN ks ts v)) := by
  have hkl : ks.length = kn := by have := hk.1; rw [flat_len hkc.lens.2, hkc.lens.1] at this; omega
  have htl : ts.length = tn := by have := ht.1; rw [flat_len htc.lens.2, htc.lens.1] at this; omega
  have hk63 : kn ≤ 9223372036854775807 := by unfold Roomy at hr1; omega
  have ht63 : tn ≤ 9223372036854775807 := by unfold Roomy at hr2; omega
  have H := hide h; have HIH := hide IH; have HM := hide hM; have HMD := hide hmd; have HOV := hide hov; have HOT := hide hot; have HOK := hide hok; have HVB := hide hvb; have HK := hide hk; have HKC := hide hkc; have HT := hide ht; have HTC := hide htc; have HKL := hide hkl; have HTL := hide htl
  have HVN := hide (show ¬ Rows2 A D vb from fun hr => by rcases hr with hr | hr; exact h.hb.ne hvb (by decide) hr; exact h.hv.ne hvb (by decide) hr)
  clear h IH hM hmd hov hot hok hvb hk hkc ht htc hr1 hr2
  by_cases hne : kn = tn
  · subst hne
    clear hkl htl
    have hI0 : RowsInv w w A n c D m d v ks ts 0 := ⟨css, v, H.out, HOV.out, HMD.out, by rw [List.drop_zero, List.drop_zero], Keeps.refl _ _⟩
    have HI0 := hide hI0
    clear hI0
    go_enter Tryz.func45, Tryz.ntmps45
    go_wp2_with fail
    go_loopg [15] kn (fun g s15 wx => ∃ i : Nat, i ≤ kn ∧ g = kn - i ∧ s15 = .int .i64 i ∧ RowsInv w wx A n c D m d v ks ts i)
    case atStart => exact ⟨0, Nat.zero_le _, rfl, rfl, HI0.out⟩
    case round =>
      obtain ⟨i, hi, rfl, rfl, hinv⟩ := hrel
      obtain ⟨css', v', h1, h2, h3, h4, h5⟩ := hinv.ex
      have HV := hide h1; have HO := hide h2; have HMA := hide h3; have HE := hide h4; have HKW := hide h5
      clear hinv h1 h2 h3 h4 h5
      have hi0 : (0 : Int) ≤ i := by omega
      have hoff : ∀ k, Off A D k → ¬ Rows2 A D k := fun k h1 h2 => h2.elim h1.1 h1.2
      by_cases hlt : i < kn
      · have hiz : (i : Int) < kn := by omega
        obtain ⟨kb, ko, kd, tx, nm, tk, ng, la, ln, lc, tt, tn, ia, im, ic, ta, tm, tc', ka, kn', kc', p, rfl, hpk, hps, hpc, f0, f1, f2, f3, f4, f5, f6, f7, f8, f9, f10⟩ := core_at (HK.out.keep HKW.out hoff) (CoresIn.keep HKW.out hoff _ _ HKC.out) i hlt
        obtain ⟨tb, tof, kd', ng', la', ln', lc', tx', nm', ia', im', ic', ta', tn', tc'', t, rfl, htk, htm, _, g0, g1, g2, g3, g4, g5, g6⟩ := cells_at (HT.out.keep HKW.out hoff) (TermsIn.keep HKW.out hoff _ _ HTC.out) i hlt
        have HPK := hide hpk; have HPS := hide hps; have HPC := hide hpc; have HTK := hide htk; have HTM := hide htm
        have HG := hide (And.intro g0 (And.intro g1 (And.intro g2 (And.intro g3 (And.intro g4 (And.intro g5 g6))))))
        clear hpk hps hpc htk htm g0 g1 g2 g3 g4 g5 g6 hoff
        go_upto_region 6 with fail
        have HBX := hide (Blk.new wr 34 #[.int .u8 kd, .string tx, .int .i64 nm, .int .u8 tk, .bool ng, .slice la ln lc, .string tt, .int .i64 tn, .slice ia im ic, .slice ta tm tc', .slice ka kn' kc'])
        have HK4 := hide ((Keeps.refl NoB wr).alloc (.cells #[.int .u8 kd, .string tx, .int .i64 nm, .int .u8 tk, .bool ng, .slice la ln lc, .string tt, .int .i64 tn, .slice ia im ic, .slice ta tm tc', .slice ka kn' kc'] 34))
        clear f0 f1 f2 f3 f4 f5 f6 f7 f8 f9 f10
        generalize wr.alloc (.cells #[.int .u8 kd, .string tx, .int .i64 nm, .int .u8 tk, .bool ng, .slice la ln lc, .string tt, .int .i64 tn, .slice ia im ic, .slice ta tm tc', .slice ka kn' kc'] 34) = w4 at *
        have HVB4 := hide ((HVB.out.keep HKW.out HVN.out).keep HK4.out id)
        refine order_begin (fun W => Keeps NoB w4 W) (fun i => !(i == 6)) (by kernel_rfl) 8 rfl ?_
        have HS : Keeps NoB w4 w4.drew := (Keeps.refl _ _).drew
        refine order_held (i := 0) rfl (by kernel_rfl) (fun _ _ _ h => h) (.inl ⟨rfl, fun W hW => by
          have q0 : W.cell? ⟨vb, 0, none⟩ = some (.slice A n c) := hW.cell id (HVB4.out.cell 0)
          have q1 : W.cell? ⟨vb, 1, none⟩ = some (.slice D m d) := hW.cell id (HVB4.out.cell 1)
          go_simp; rfl⟩) HS ?_
        try simp only [Act.put, List.setIfInBounds_toArray, List.set_cons_succ, List.set_cons_zero]
        refine order_held (i := 1) rfl (by kernel_rfl) (fun _ _ _ h => h) (.inl ⟨rfl, fun W hW => by
          have q0 : W.cell? ⟨wr.heap.size, 0, none⟩ = some (.int .u8 kd) := hW.cell id (HBX.out.cell 0)
          have q1 : W.cell? ⟨wr.heap.size, 1, none⟩ = some (.string tx) := hW.cell id (HBX.out.cell 1)
          have q2 : W.cell? ⟨wr.heap.size, 2, none⟩ = some (.int .i64 nm) := hW.cell id (HBX.out.cell 2)
          have q3 : W.cell? ⟨wr.heap.size, 3, none⟩ = some (.int .u8 tk) := hW.cell id (HBX.out.cell 3)
          have q4 : W.cell? ⟨wr.heap.size, 4, none⟩ = some (.bool ng) := hW.cell id (HBX.out.cell 4)
          have q5 : W.cell? ⟨wr.heap.size, 5, none⟩ = some (.slice la ln lc) := hW.cell id (HBX.out.cell 5)
          have q6 : W.cell? ⟨wr.heap.size, 6, none⟩ = some (.string tt) := hW.cell id (HBX.out.cell 6)
          have q7 : W.cell? ⟨wr.heap.size, 7, none⟩ = some (.int .i64 tn) := hW.cell id (HBX.out.cell 7)
          have q8 : W.cell? ⟨wr.heap.size, 8, none⟩ = some (.slice ia im ic) := hW.cell id (HBX.out.cell 8)
          have q9 : W.cell? ⟨wr.heap.size, 9, none⟩ = some (.slice ta tm tc') := hW.cell id (HBX.out.cell 9)
          have q10 : W.cell? ⟨wr.heap.size, 10, none⟩ = some (.slice ka kn' kc') := hW.cell id (HBX.out.cell 10)
          go_simp; rfl⟩) HS ?_
        try simp only [Act.put, List.setIfInBounds_toArray, List.set_cons_succ, List.set_cons_zero]
        refine order_pure (i := 2) rfl (by kernel_rfl) (fun _ _ _ h => h) (.inl ⟨rfl, fun _ => by go_simp; rfl⟩) ?_
        try simp only [Act.put, List.setIfInBounds_toArray, List.set_cons_succ, List.set_cons_zero]
        refine order_pure (i := 3) rfl (by kernel_rfl) (fun _ _ _ h => h) (.inl ⟨rfl, fun _ => by go_simp; rfl⟩) ?_
        try simp only [Act.put, List.setIfInBounds_toArray, List.set_cons_succ, List.set_cons_zero]
        refine order_pure (i := 4) rfl (by kernel_rfl) (fun _ _ _ h => h) (.inl ⟨rfl, fun _ => by go_simp; rfl⟩) ?_
        try simp only [Act.put, List.setIfInBounds_toArray, List.set_cons_succ, List.set_cons_zero]
        refine order_held (i := 5) rfl (by kernel_rfl) (fun _ _ _ h => h) (.inl ⟨rfl, fun W hW => by
          have q0 : W.cell? ⟨tb, tof + i * 7, none⟩ = some (.int .u8 kd') := hW.cell id (HK4.out.cell id HG.out.1)
          have q1 : W.cell? ⟨tb, tof + i * 7 + 1, none⟩ = some (.bool ng') := hW.cell id (HK4.out.cell id HG.out.2.1)
          have q2 : W.cell? ⟨tb, tof + i * 7 + 2, none⟩ = some (.slice la' ln' lc') := hW.cell id (HK4.out.cell id HG.out.2.2.1)
          have q3 : W.cell? ⟨tb, tof + i * 7 + 3, none⟩ = some (.string tx') := hW.cell id (HK4.out.cell id HG.out.2.2.2.1)
          have q4 : W.cell? ⟨tb, tof + i * 7 + 4, none⟩ = some (.int .i64 nm') := hW.cell id (HK4.out.cell id HG.out.2.2.2.2.1)
          have q5 : W.cell? ⟨tb, tof + i * 7 + 5, none⟩ = some (.slice ia' im' ic') := hW.cell id (HK4.out.cell id HG.out.2.2.2.2.2.1)
          have q6 : W.cell? ⟨tb, tof + i * 7 + 6, none⟩ = some (.slice ta' tn' tc'') := hW.cell id (HK4.out.cell id HG.out.2.2.2.2.2.2)
          go_simp; rfl⟩) HS ?_
        try simp only [Act.put, List.setIfInBounds_toArray, List.set_cons_succ, List.set_cons_zero]
        refine order_one (i := 6) rfl (by kernel_rfl) (fun K hK => ?_)
        go_simp
        have hk5 : Keeps NoB wr _ := HK4.out.trans' HS (fun _ _ => id) (fun _ _ => id)
        refine (HIH.out p (by have := HPS.out; have := HM.out; omega) t v' A n c D m d css' _ (HV.out.keep hk5) HMA.out HO.out (okTs_at HOT.out HTK.out) (okCs_mem HOK.out p (List.mem_of_getElem? HPK.out)) _ _ _ _ _ _ _ _ _ _ _ _ _ _ _ _ _ _ _ _ _ _ _ _ _ _ _ _ _ _ _ _ (CoreIn.keep hk5 (fun _ _ => id) _ _ HPC.out) (TermIn.keep hk5 (fun _ _ => id) _ _ HTM.out)).mono ?_
        rintro e W5 ⟨b, css2, v2, rfl, q1, q2, q3, q4, q5⟩
        have HV2 := hide q1; have HQ2 := hide q2; have HQ3 := hide q3; have HO2 := hide q4
        have HKW2 := hide (HKW.out.trans' (hk5.trans' q5 (fun _ _ h => h.elim) (fun _ _ h => h) : Keeps (Rows2 A D) wr W5) (fun _ _ h => h) (fun _ _ h => h))
        have HE2 := hide (HE.out.trans (rowsN_drop v' HPK.out HTK.out (by have := HKL.out; have := HTL.out; omega)))
        clear hk5 q1 q2 q3 q4 q5 HS
        refine hK _ _ (fun h => absurd h (by decide)) ?_
        clear hK
        try simp only [Act.put, List.setIfInBounds_toArray, List.set_cons_succ, List.set_cons_zero]
        refine order_pure (i := 7) rfl (by kernel_rfl) (fun _ _ _ h => h) (.inl ⟨rfl, fun _ => by go_simp; rfl⟩) ?_
        try simp only [Act.put, List.setIfInBounds_toArray, List.set_cons_succ, List.set_cons_zero]
        refine order_done (by kernel_rfl) ?_
        clear HG HBX HVB4 HK4
        cases b with
        | false =>
          have HN := hide (HE2.out.trans (by rw [HQ3.out rfl]))
          clear HQ2 HQ3 HE2
          go_wp2_with fail
          go_ret
          exact ⟨false, css2, v2, rfl, HV2.out, fun h => (by cases h), fun _ => HN.out, HO2.out, HKW2.out⟩
        | true =>
          have HN := hide (HE2.out.trans (by rw [HQ2.out rfl]))
          clear HQ2 HQ3 HE2
          go_wp2_with fail
          go_roundg (kn - (i + 1))
          case measure => omega
          case rel => exact ⟨i + 1, by omega, rfl, by go_num, ⟨css2, v2, HV2.out, HO2.out, HV.out.made HV2.out HMA.out, HN.out, HKW2.out⟩⟩
      · obtain rfl : i = kn := by omega
        have hiz : ¬ (i : Int) < i := by omega
        go_wp2_with fail
        go_ret
        refine ⟨true, css', v', rfl, HV.out, fun _ => ?_, fun h => (by cases h), HO.out, HKW.out⟩
        rw [HE.out, List.drop_of_length_le (by have := HKL.out; omega), List.drop_of_length_le (by have := HTL.out; omega)]
        unfold rowsN; rfl
  · have hnz : ¬ ((kn : Int) = (tn : Int)) := by omega
    have hb : ((kn : Int) != (tn : Int)) = true := by simpa using hnz
    have HR := hide (rowsN_ne ks ts v (by omega))
    clear hkl htl
    go_enter Tryz.func45, Tryz.ntmps45
    go_wp2_with fail
    go_ret
    exact ⟨false, css, v, rfl, H.out, fun h => (by cases h), fun _ => HR.out, HOV.out, Keeps.refl _ _⟩
end Go.Proofs.YtjdbjjjbgibpaaaGreatDoor
namespace Go.Proofs.YtjdbjjjbgibpaaaGreatDoor
open Go.RowKit

set_option maxRecDepth 100000 in
set_option maxHeartbeats 2000000 in
theorem split_nr (t : Tm) (w : World) (B : Nat → Prop) (F : Bool) (kd : Int) (ng : Bool) (la : Option Addr) (ln lc : Nat) (tx : ByteArray) (nm : Int) (ia : Option Addr) (im ic : Nat) (ta : Option Addr) (tn tc : Nat) (ht : TermIn w B F [.int .u8 kd, .bool ng, .slice la ln lc, .string tx, .int .i64 nm, .slice ia im ic, .slice ta tn tc] t) (hr : rightT t = false) :
    Calls Tryz.prog 25 #[.agg #[.int .u8 kd, .bool ng, .slice la ln lc, .string tx, .int .i64 nm, .slice ia im ic, .slice ta tn tc]] w fun e w' => e = .returned (.tuple #[.agg #[.int .u8 0, .bool false, .slice none 0 0, .string ⟨#[]⟩, .int .i64 0, .slice none 0 0, .slice none 0 0], .agg #[.int .u8 0, .bool false, .slice none 0 0, .string ⟨#[]⟩, .int .i64 0, .slice none 0 0, .slice none 0 0], .bool false]) ∧ Keeps NoB w w' := by
  have HK0 := hide ((((Keeps.refl NoB w).alloc (.cells #[.int .u8 kd, .bool ng, .slice la ln lc, .string tx, .int .i64 nm, .slice ia im ic, .slice ta tn tc] 26)).alloc (.cells #[.int .u8 0, .bool false, .slice none 0 0, .string ⟨#[]⟩, .int .i64 0, .slice none 0 0, .slice none 0 0] 26)).alloc (.cells #[.int .u8 0, .bool false, .slice none 0 0, .string ⟨#[]⟩, .int .i64 0, .slice none 0 0, .slice none 0 0] 26))
  have HX0 := hide (three_tblks w 26 26 26 #[.int .u8 kd, .bool ng, .slice la ln lc, .string tx, .int .i64 nm, .slice ia im ic, .slice ta tn tc] #[.int .u8 0, .bool false, .slice none 0 0, .string ⟨#[]⟩, .int .i64 0, .slice none 0 0, .slice none 0 0] #[.int .u8 0, .bool false, .slice none 0 0, .string ⟨#[]⟩, .int .i64 0, .slice none 0 0, .slice none 0 0]).1; have HA0 := hide (three_tblks w 26 26 26 #[.int .u8 kd, .bool ng, .slice la ln lc, .string tx, .int .i64 nm, .slice ia im ic, .slice ta tn tc] #[.int .u8 0, .bool false, .slice none 0 0, .string ⟨#[]⟩, .int .i64 0, .slice none 0 0, .slice none 0 0] #[.int .u8 0, .bool false, .slice none 0 0, .string ⟨#[]⟩, .int .i64 0, .slice none 0 0, .slice none 0 0]).2.1; have HB0 := hide (three_tblks w 26 26 26 #[.int .u8 kd, .bool ng, .slice la ln lc, .string tx, .int .i64 nm, .slice ia im ic, .slice ta tn tc] #[.int .u8 0, .bool false, .slice none 0 0, .string ⟨#[]⟩, .int .i64 0, .slice none 0 0, .slice none 0 0] #[.int .u8 0, .bool false, .slice none 0 0, .string ⟨#[]⟩, .int .i64 0, .slice none 0 0, .slice none 0 0]).2.2
  have HT := hide ht; have HR := hide hr
  clear ht hr
  go_enter Tryz.func25, Tryz.ntmps25
  go_upto_region 1 with fail
  generalize ((w.alloc (.cells #[.int .u8 kd, .bool ng, .slice la ln lc, .string tx, .int .i64 nm, .slice ia im ic, .slice ta tn tc] 26)).alloc (.cells #[.int .u8 0, .bool false, .slice none 0 0, .string ⟨#[]⟩, .int .i64 0, .slice none 0 0, .slice none 0 0] 26)).alloc (.cells #[.int .u8 0, .bool false, .slice none 0 0, .string ⟨#[]⟩, .int .i64 0, .slice none 0 0, .slice none 0 0] 26) = w0 at *
  obtain ⟨x0, x1, x2, x3, x4, x5, x6⟩ := Blk.c7 (show Blk w0 (w.heap.size) _ #[.int .u8 kd, .bool ng, .slice la ln lc, .string tx, .int .i64 nm, .slice ia im ic, .slice ta tn tc] from HX0.out)
  go_wp2_with
    first
    | (go_at_call 7
       refine (tm_right t w0 B F _ _ _ _ _ _ _ _ _ _ _ _ _ (TermIn.keep HK0.out (fun _ _ => id) _ _ HT.out)).mono ?_
       rintro e w1 ⟨rfl, hk1⟩
       rw [HR.out]
       have HK1 := hide (HK0.out.trans' hk1 (fun _ _ => id) (fun _ _ => id) : Keeps NoB w w1)
       have HX1 := hide (HX0.out.keep hk1 id); have HA1 := hide (HA0.out.keep hk1 id); have HB1 := hide (HB0.out.keep hk1 id)
       obtain ⟨y0, y1, y2, y3, y4, y5, y6⟩ := Blk.c7 (show Blk w1 (w.heap.size) _ #[.int .u8 kd, .bool ng, .slice la ln lc, .string tx, .int .i64 nm, .slice ia im ic, .slice ta tn tc] from HX1.out)
       obtain ⟨z0, z1, z2, z3, z4, z5, z6⟩ := Blk.f7 (w := w1) (g := w.heap.size + 1) HA1.out
       obtain ⟨f0, f1, f2, f3, f4, f5, f6⟩ := Blk.f7 (w := w1) (g := w.heap.size + 1 + 1) HB1.out
       obtain ⟨q0, q1, q2, q3, q4, q5, q6⟩ := Blk.c7 (show Blk w1 (w.heap.size + 1) _ #[.int .u8 0, .bool false, .slice none 0 0, .string ⟨#[]⟩, .int .i64 0, .slice none 0 0, .slice none 0 0] from HA1.out)
       obtain ⟨p0, p1, p2, p3, p4, p5, p6⟩ := Blk.c7 (show Blk w1 (w.heap.size + 1 + 1) _ #[.int .u8 0, .bool false, .slice none 0 0, .string ⟨#[]⟩, .int .i64 0, .slice none 0 0, .slice none 0 0] from HB1.out)
       clear hk1)
    | fail
  have hka := keeps_tput7 w1 (w.heap.size + 1) (.int .u8 0) (.bool false) (.slice none 0 0) (.string ⟨#[]⟩) (.int .i64 0) (.slice none 0 0) (.slice none 0 0)
  have hA := HA1.out.tput7 (.int .u8 0) (.bool false) (.slice none 0 0) (.string ⟨#[]⟩) (.int .i64 0) (.slice none 0 0) (.slice none 0 0)
  have hB := HB1.out.keep hka (fun e => by omega)
  have HKF := hide (HK1.out.trans' hka (fun _ _ => id) (fun i hi e => by omega) : Keeps NoB w _)
  clear x0 x1 x2 x3 x4 x5 x6 y0 y1 y2 y3 y4 y5 y6 z0 z1 z2 z3 z4 z5 z6 q0 q1 q2 q3 q4 q5 q6 p0 p1 p2 p3 p4 p5 p6 f0 f1 f2 f3 f4 f5 f6 hka HA1 HB1 HK1
  generalize (((((((w1.setCell ⟨w.heap.size + 1, 0, none⟩ (.int .u8 0)).setCell ⟨w.heap.size + 1, 1, none⟩ (.bool false)).setCell ⟨w.heap.size + 1, 2, none⟩ (.slice none 0 0)).setCell ⟨w.heap.size + 1, 3, none⟩ (.string ⟨#[]⟩)).setCell ⟨w.heap.size + 1, 4, none⟩ (.int .i64 0)).setCell ⟨w.heap.size + 1, 5, none⟩ (.slice none 0 0)).setCell ⟨w.heap.size + 1, 6, none⟩ (.slice none 0 0)) = w2 at *
  have hkb := keeps_tput7 w2 (w.heap.size + 1 + 1) (.int .u8 0) (.bool false) (.slice none 0 0) (.string ⟨#[]⟩) (.int .i64 0) (.slice none 0 0) (.slice none 0 0)
  refine bodyPost_ret (results_52 _ _ _ _ _ _ _ _ _ _ _ _ _ _ _ _ _ _ _ rfl rfl rfl (hA.keep hkb (fun e => by omega)) (hB.tput7 (.int .u8 0) (.bool false) (.slice none 0 0) (.string ⟨#[]⟩) (.int .i64 0) (.slice none 0 0) (.slice none 0 0))) rfl ?_
  exact ⟨rfl, HKF.out.trans' hkb (fun _ _ => id) (fun i hi e => by omega)⟩
set_option maxRecDepth 100000 in
set_option maxHeartbeats 2000000 in
theorem split_nil (t : Tm) (w : World) (B : Nat → Prop) (F : Bool) (ng : Bool) (la : Option Addr) (ln lc : Nat) (tx : ByteArray) (nm : Int) (ia : Option Addr) (ic : Nat) (ta : Option Addr) (tn tc : Nat) (ht : TermIn w B F [.int .u8 7, .bool ng, .slice la ln lc, .string tx, .int .i64 nm, .slice ia 0 ic, .slice ta tn tc] t) (hr : rightT t = true) :
    Calls Tryz.prog 25 #[.agg #[.int .u8 7, .bool ng, .slice la ln lc, .string tx, .int .i64 nm, .slice ia 0 ic, .slice ta tn tc]] w fun e w' => e = .returned (.tuple #[.agg #[.int .u8 0, .bool false, .slice none 0 0, .string ⟨#[]⟩, .int .i64 0, .slice none 0 0, .slice none 0 0], .agg #[.int .u8 0, .bool false, .slice none 0 0, .string ⟨#[]⟩, .int .i64 0, .slice none 0 0, .slice none 0 0], .bool false]) ∧ Keeps NoB w w' := by
  have HK0 := hide ((((Keeps.refl NoB w).alloc (.cells #[.int .u8 7, .bool ng, .slice la ln lc, .string tx, .int .i64 nm, .slice ia 0 ic, .slice ta tn tc] 26)).alloc (.cells #[.int .u8 0, .bool false, .slice none 0 0, .string ⟨#[]⟩, .int .i64 0, .slice none 0 0, .slice none 0 0] 26)).alloc (.cells #[.int .u8 0, .bool false, .slice none 0 0, .string ⟨#[]⟩, .int .i64 0, .slice none 0 0, .slice none 0 0] 26))
  have HX0 := hide (three_tblks w 26 26 26 #[.int .u8 7, .bool ng, .slice la ln lc, .string tx, .int .i64 nm, .slice ia 0 ic, .slice ta tn tc] #[.int .u8 0, .bool false, .slice none 0 0, .string ⟨#[]⟩, .int .i64 0, .slice none 0 0, .slice none 0 0] #[.int .u8 0, .bool false, .slice none 0 0, .string ⟨#[]⟩, .int .i64 0, .slice none 0 0, .slice none 0 0]).1; have HA0 := hide (three_tblks w 26 26 26 #[.int .u8 7, .bool ng, .slice la ln lc, .string tx, .int .i64 nm, .slice ia 0 ic, .slice ta tn tc] #[.int .u8 0, .bool false, .slice none 0 0, .string ⟨#[]⟩, .int .i64 0, .slice none 0 0, .slice none 0 0] #[.int .u8 0, .bool false, .slice none 0 0, .string ⟨#[]⟩, .int .i64 0, .slice none 0 0, .slice none 0 0]).2.1; have HB0 := hide (three_tblks w 26 26 26 #[.int .u8 7, .bool ng, .slice la ln lc, .string tx, .int .i64 nm, .slice ia 0 ic, .slice ta tn tc] #[.int .u8 0, .bool false, .slice none 0 0, .string ⟨#[]⟩, .int .i64 0, .slice none 0 0, .slice none 0 0] #[.int .u8 0, .bool false, .slice none 0 0, .string ⟨#[]⟩, .int .i64 0, .slice none 0 0, .slice none 0 0]).2.2
  have HT := hide ht; have HR := hide hr
  clear ht hr
  go_enter Tryz.func25, Tryz.ntmps25
  go_upto_region 1 with fail
  generalize ((w.alloc (.cells #[.int .u8 7, .bool ng, .slice la ln lc, .string tx, .int .i64 nm, .slice ia 0 ic, .slice ta tn tc] 26)).alloc (.cells #[.int .u8 0, .bool false, .slice none 0 0, .string ⟨#[]⟩, .int .i64 0, .slice none 0 0, .slice none 0 0] 26)).alloc (.cells #[.int .u8 0, .bool false, .slice none 0 0, .string ⟨#[]⟩, .int .i64 0, .slice none 0 0, .slice none 0 0] 26) = w0 at *
  obtain ⟨x0, x1, x2, x3, x4, x5, x6⟩ := Blk.c7 (show Blk w0 (w.heap.size) _ #[.int .u8 7, .bool ng, .slice la ln lc, .string tx, .int .i64 nm, .slice ia 0 ic, .slice ta tn tc] from HX0.out)
  go_wp2_with
    first
    | (go_at_call 7
       refine (tm_right t w0 B F _ _ _ _ _ _ _ _ _ _ _ _ _ (TermIn.keep HK0.out (fun _ _ => id) _ _ HT.out)).mono ?_
       rintro e w1 ⟨rfl, hk1⟩
       rw [HR.out]
       have HK1 := hide (HK0.out.trans' hk1 (fun _ _ => id) (fun _ _ => id) : Keeps NoB w w1)
       have HX1 := hide (HX0.out.keep hk1 id); have HA1 := hide (HA0.out.keep hk1 id); have HB1 := hide (HB0.out.keep hk1 id)
       obtain ⟨y0, y1, y2, y3, y4, y5, y6⟩ := Blk.c7 (show Blk w1 (w.heap.size) _ #[.int .u8 7, .bool ng, .slice la ln lc, .string tx, .int .i64 nm, .slice ia 0 ic, .slice ta tn tc] from HX1.out)
       obtain ⟨z0, z1, z2, z3, z4, z5, z6⟩ := Blk.f7 (w := w1) (g := w.heap.size + 1) HA1.out
       obtain ⟨f0, f1, f2, f3, f4, f5, f6⟩ := Blk.f7 (w := w1) (g := w.heap.size + 1 + 1) HB1.out
       obtain ⟨q0, q1, q2, q3, q4, q5, q6⟩ := Blk.c7 (show Blk w1 (w.heap.size + 1) _ #[.int .u8 0, .bool false, .slice none 0 0, .string ⟨#[]⟩, .int .i64 0, .slice none 0 0, .slice none 0 0] from HA1.out)
       obtain ⟨p0, p1, p2, p3, p4, p5, p6⟩ := Blk.c7 (show Blk w1 (w.heap.size + 1 + 1) _ #[.int .u8 0, .bool false, .slice none 0 0, .string ⟨#[]⟩, .int .i64 0, .slice none 0 0, .slice none 0 0] from HB1.out)
       clear hk1)
    | fail
  have hka := keeps_tput7 w1 (w.heap.size + 1) (.int .u8 0) (.bool false) (.slice none 0 0) (.string ⟨#[]⟩) (.int .i64 0) (.slice none 0 0) (.slice none 0 0)
  have hA := HA1.out.tput7 (.int .u8 0) (.bool false) (.slice none 0 0) (.string ⟨#[]⟩) (.int .i64 0) (.slice none 0 0) (.slice none 0 0)
  have hB := HB1.out.keep hka (fun e => by omega)
  have HKF := hide (HK1.out.trans' hka (fun _ _ => id) (fun i hi e => by omega) : Keeps NoB w _)
  clear x0 x1 x2 x3 x4 x5 x6 y0 y1 y2 y3 y4 y5 y6 z0 z1 z2 z3 z4 z5 z6 q0 q1 q2 q3 q4 q5 q6 p0 p1 p2 p3 p4 p5 p6 f0 f1 f2 f3 f4 f5 f6 hka HA1 HB1 HK1
  generalize (((((((w1.setCell ⟨w.heap.size + 1, 0, none⟩ (.int .u8 0)).setCell ⟨w.heap.size + 1, 1, none⟩ (.bool false)).setCell ⟨w.heap.size + 1, 2, none⟩ (.slice none 0 0)).setCell ⟨w.heap.size + 1, 3, none⟩ (.string ⟨#[]⟩)).setCell ⟨w.heap.size + 1, 4, none⟩ (.int .i64 0)).setCell ⟨w.heap.size + 1, 5, none⟩ (.slice none 0 0)).setCell ⟨w.heap.size + 1, 6, none⟩ (.slice none 0 0)) = w2 at *
  have hkb := keeps_tput7 w2 (w.heap.size + 1 + 1) (.int .u8 0) (.bool false) (.slice none 0 0) (.string ⟨#[]⟩) (.int .i64 0) (.slice none 0 0) (.slice none 0 0)
  refine bodyPost_ret (results_52 _ _ _ _ _ _ _ _ _ _ _ _ _ _ _ _ _ _ _ rfl rfl rfl (hA.keep hkb (fun e => by omega)) (hB.tput7 (.int .u8 0) (.bool false) (.slice none 0 0) (.string ⟨#[]⟩) (.int .i64 0) (.slice none 0 0) (.slice none 0 0))) rfl ?_
  exact ⟨rfl, HKF.out.trans' hkb (fun _ _ => id) (fun i hi e => by omega)⟩

theorem split_none (t : Tm) (hs : splitT t = none) (w : World) (B : Nat → Prop) (F : Bool) (kd : Int) (ng : Bool) (la : Option Addr) (ln lc : Nat) (tx : ByteArray) (nm : Int) (ia : Option Addr) (im ic : Nat) (ta : Option Addr) (tn tc : Nat) (ht : TermIn w B F [.int .u8 kd, .bool ng, .slice la ln lc, .string tx, .int .i64 nm, .slice ia im ic, .slice ta tn tc] t) :
    Calls Tryz.prog 25 #[.agg #[.int .u8 kd, .bool ng, .slice la ln lc, .string tx, .int .i64 nm, .slice ia im ic, .slice ta tn tc]] w fun e w' => e = .returned (.tuple #[.agg #[.int .u8 0, .bool false, .slice none 0 0, .string ⟨#[]⟩, .int .i64 0, .slice none 0 0, .slice none 0 0], .agg #[.int .u8 0, .bool false, .slice none 0 0, .string ⟨#[]⟩, .int .i64 0, .slice none 0 0, .slice none 0 0], .bool false]) ∧ Keeps NoB w w' := by
  cases hr : rightT t with
  | false => exact split_nr t w B F kd ng la ln lc tx nm ia im ic ta tn tc ht hr
  | true =>
    by_cases hk : kd = 7
    · subst hk
      obtain ⟨limbs, items, tail, css, dss, rfl, _, _, _, _, _, _, _, hil, _⟩ := ht.parts
      have h0 : im = 0 := by
        unfold splitT at hs
        rw [if_pos ⟨hr, rfl⟩] at hs
        have e : (Tm.mk 7 ng limbs tx nm items tail).items = items := rfl
        rw [e] at hs
        rcases items with _ | ⟨x, _ | ⟨y, l⟩⟩
        · simpa using hil.symm
        · cases hs
        · cases hs
      subst h0
      exact split_nil _ w B F ng la ln lc tx nm ia ic ta tn tc ht hr
    · exact split_no t w B F kd ng la ln lc tx nm ia im ic ta tn tc ht hr hk
/-- term.Split at whatever it parts. -/
theorem split_some (t h r : Tm) (hs : splitT t = some (h, r)) (w : World) (B : Nat → Prop) (F : Bool) (kd : Int) (ng : Bool) (la : Option Addr) (ln lc : Nat) (tx : ByteArray) (nm : Int) (ia : Option Addr) (im ic : Nat) (ta : Option Addr) (tn tc : Nat) (ht : TermIn w B F [.int .u8 kd, .bool ng, .slice la ln lc, .string tx, .int .i64 nm, .slice ia im ic, .slice ta tn tc] t) :
    Calls Tryz.prog 25 #[.agg #[.int .u8 kd, .bool ng, .slice la ln lc, .string tx, .int .i64 nm, .slice ia im ic, .slice ta tn tc]] w (SplitP w h r) := by
  unfold splitT at hs
  split at hs
  · rename_i hc
    obtain ⟨limbs, items, tail, css, dss, rfl, _⟩ := ht.parts
    obtain ⟨hr, hk⟩ := hc
    have hk' : kd = 7 := hk
    subst hk'
    have e : (Tm.mk 7 ng limbs tx nm items tail).items = items := rfl
    rw [e] at hs
    rcases items with _ | ⟨x, _ | ⟨y, l⟩⟩
    · cases hs
    · injection hs with hs; injection hs with h1 h2; subst h1 h2
      exact split_one _ w B F ng la ln lc tx nm ia im ic ta tn tc ht hr x rfl
    · injection hs with hs; injection hs with h1 h2; subst h1 h2
      exact split_many _ w B F ng la ln lc tx nm ia im ic ta tn tc ht hr x y l rfl
  · cases hs
end Go.Proofs.YtjdbjjjbgibpaaaGreatDoor
