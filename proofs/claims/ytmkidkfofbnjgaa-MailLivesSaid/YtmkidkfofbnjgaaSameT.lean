/- pigeonholekit: SameTerm, SameTerms. -/
import Derived.Test.YtmkidkfofbnjgaaSame
import Derived.Test.YtmkidkfofbnjgaaSeq
import Derived.Test.YtmkidkfofbnjgaaBox
namespace Go.Proofs.Ytmkidkfofbnjgaa
open Go.RowKit

mutual
def eqT : Tm → Tm → Bool
  | .mk k ng limbs tx nm items tail, .mk k' ng' limbs' tx' nm' items' tail' =>
    (k == k') && ((ng == ng') && (eqL limbs limbs' && (decide (tx.toList = tx'.toList) && ((nm == nm') && (eqTs items items' && eqTs tail tail')))))
def eqTs : List Tm → List Tm → Bool
  | [], [] => true
  | t :: ts, u :: us => eqT t u && eqTs ts us
  | [], _ :: _ => false
  | _ :: _, [] => false
end

theorem Blk.new2 (w : World) (o : Obj) (t : TypeId) (cs : Array Value) : Blk ((w.alloc o).alloc (.cells cs t)) (w.heap.size + 1) t cs := by
  have h := Blk.new (w.alloc o) t cs
  have e : (w.alloc o).heap.size = w.heap.size + 1 := by unfold World.alloc; exact Array.size_push ..
  rw [e] at h; exact h

def SamesPost (w : World) (r : Bool) (e : Ending) (w' : World) : Prop := e = .returned (.bool r) ∧ Keeps NoB w w'

def SamesSaid (M : Nat) : Prop := ∀ (ts us : List Tm), Tm.size.sizes ts ≤ M → ∀ (css dss : List (List Value)) (A A' : Option Addr) (n c n' c' : Nat) (w : World) (B B' : Nat → Prop) (F F' : Bool),
  Reads w B F 7 A n css.flatten → TermsIn w B F css ts → Reads w B' F' 7 A' n' dss.flatten → TermsIn w B' F' dss us → Roomy n 104 →
  Calls Try.prog 28 #[.slice A n c, .slice A' n' c'] w (SamesPost w (eqTs ts us))

set_option maxRecDepth 100000 in
set_option maxHeartbeats 1000000 in
theorem same_term_of (M : Nat) (IH : Hid (SamesSaid M)) (t u : Tm) (hM : t.size ≤ M + 1) (w : World) (B B' : Nat → Prop) (F F' : Bool)
    (kd : Int) (ng : Bool) (la : Option Addr) (ln lc : Nat) (tx : ByteArray) (nm : Int) (ia : Option Addr) (im ic : Nat) (ta : Option Addr) (tn tc : Nat)
    (kd' : Int) (ng' : Bool) (la' : Option Addr) (ln' lc' : Nat) (tx' : ByteArray) (nm' : Int) (ia' : Option Addr) (im' ic' : Nat) (ta' : Option Addr) (tn' tc' : Nat)
    (ht : TermIn w B F [.int .u8 kd, .bool ng, .slice la ln lc, .string tx, .int .i64 nm, .slice ia im ic, .slice ta tn tc] t)
    (hu : TermIn w B' F' [.int .u8 kd', .bool ng', .slice la' ln' lc', .string tx', .int .i64 nm', .slice ia' im' ic', .slice ta' tn' tc'] u) :
    Calls Try.prog 27 #[.agg #[.int .u8 kd, .bool ng, .slice la ln lc, .string tx, .int .i64 nm, .slice ia im ic, .slice ta tn tc], .agg #[.int .u8 kd', .bool ng', .slice la' ln' lc', .string tx', .int .i64 nm', .slice ia' im' ic', .slice ta' tn' tc']] w (SamesPost w (eqT t u)) := by
  obtain ⟨limbs, items, tail, css, dss, rfl, hroom, hrl, hri, hti, hrt, htt⟩ : ∃ limbs items tail css dss, t = .mk kd ng limbs tx nm items tail ∧ (Roomy ln 4 ∧ Roomy im 104 ∧ Roomy tn 104) ∧ Reads w B F 1 la ln (limbs.map (Value.int .u32)) ∧ Reads w B F 7 ia im (List.flatten css) ∧ TermsIn w B F css items ∧ Reads w B F 7 ta tn (List.flatten dss) ∧ TermsIn w B F dss tail := by
    cases t
    unfold TermIn at ht
    obtain ⟨_, _, _, _, _, _, _, _, _, css, dss, e, hb, h1, h2, h3, h4, h5⟩ := ht
    simp only [List.cons.injEq, Value.int.injEq, Value.bool.injEq, Value.slice.injEq, Value.string.injEq, true_and, and_true] at e
    obtain ⟨rfl, rfl, ⟨rfl, rfl, rfl⟩, rfl, rfl, ⟨rfl, rfl, rfl⟩, rfl, rfl, rfl⟩ := e
    exact ⟨_, _, _, css, dss, rfl, hb, h1, h2, h3, h4, h5⟩
  obtain ⟨limbs', items', tail', css', dss', rfl, hroom', hrl', hri', hti', hrt', htt'⟩ : ∃ limbs items tail css dss, u = .mk kd' ng' limbs tx' nm' items tail ∧ (Roomy ln' 4 ∧ Roomy im' 104 ∧ Roomy tn' 104) ∧ Reads w B' F' 1 la' ln' (limbs.map (Value.int .u32)) ∧ Reads w B' F' 7 ia' im' (List.flatten css) ∧ TermsIn w B' F' css items ∧ Reads w B' F' 7 ta' tn' (List.flatten dss) ∧ TermsIn w B' F' dss tail := by
    cases u
    unfold TermIn at hu
    obtain ⟨_, _, _, _, _, _, _, _, _, css, dss, e, hb, h1, h2, h3, h4, h5⟩ := hu
    simp only [List.cons.injEq, Value.int.injEq, Value.bool.injEq, Value.slice.injEq, Value.string.injEq, true_and, and_true] at e
    obtain ⟨rfl, rfl, ⟨rfl, rfl, rfl⟩, rfl, rfl, ⟨rfl, rfl, rfl⟩, rfl, rfl, rfl⟩ := e
    exact ⟨_, _, _, css, dss, rfl, hb, h1, h2, h3, h4, h5⟩
  have hsz : Tm.size.sizes items ≤ M ∧ Tm.size.sizes tail ≤ M := by
    have := hM; simp only [Tm.size] at this; omega
  clear ht hu hM
  have HRL := hide hrl; have HRL' := hide hrl'; have HRI := hide hri; have HTI := hide hti; have HRI' := hide hri'; have HTI' := hide hti'; have HRT := hide hrt; have HTT := hide htt; have HRT' := hide hrt'; have HTT' := hide htt'; have HRO := hide hroom; have HSZ := hide hsz
  clear hrl hrl' hri hti hri' hti' hrt htt hrt' htt' hroom hroom' hsz
  by_cases h0 : (kd == kd') = true
  · skip
    by_cases h1 : (ng == ng') = true
    · skip
      by_cases h2 : eqL limbs limbs' = true
      · skip
        by_cases h3 : tx.toList = tx'.toList
        · skip
          by_cases h4 : (nm == nm') = true
          · skip
            by_cases h5 : eqTs items items' = true
            · skip
              by_cases h6 : eqTs tail tail' = true
              · skip
                have HE := hide (show eqT (.mk kd ng limbs tx nm items tail) (.mk kd' ng' limbs' tx' nm' items' tail') = true by simp only [eqT, h0, h1, h2, h3, h4, h5, h6, decide_true, Bool.and_true])
                go_enter Try.func27, Try.ntmps27
                go_wp2_with
                  first
                  | (go_at_call 39
                     refine (same_limbs la la' ln lc ln' lc' limbs limbs' _ B B' F F' (HRL.out.keep (((Keeps.refl NoB w).alloc _).alloc _) (fun _ _ => id)) (HRL'.out.keep (((Keeps.refl NoB w).alloc _).alloc _) (fun _ _ => id)) HRO.out.1).mono ?_
                     rintro e w2 ⟨rfl, hk2⟩
                     have B1 : Blk w2 w.heap.size 33 #[.int .u8 kd, .bool ng, .slice la ln lc, .string tx, .int .i64 nm, .slice ia im ic, .slice ta tn tc] := Blk.keep (Blk.alloc (Blk.new w _ _) _) hk2 id
                     have B2 : Blk w2 (w.heap.size + 1) 33 #[.int .u8 kd', .bool ng', .slice la' ln' lc', .string tx', .int .i64 nm', .slice ia' im' ic', .slice ta' tn' tc'] := Blk.keep (Blk.new2 w _ _ _) hk2 id
                     have HK2 := hide (Keeps.trans' (((Keeps.refl NoB w).alloc (.cells #[.int .u8 kd, .bool ng, .slice la ln lc, .string tx, .int .i64 nm, .slice ia im ic, .slice ta tn tc] 33)).alloc (.cells #[.int .u8 kd', .bool ng', .slice la' ln' lc', .string tx', .int .i64 nm', .slice ia' im' ic', .slice ta' tn' tc'] 33)) hk2 (fun _ _ => id) (fun _ _ => id))
                     have HB1 := hide B1; have HB2 := hide B2
                     have p3 : w2.cell? ⟨w.heap.size, 3, none⟩ = some (.string tx) := B1.cell 3
                     have q3 : w2.cell? ⟨w.heap.size + 1, 3, none⟩ = some (.string tx') := B2.cell 3
                     have p4 : w2.cell? ⟨w.heap.size, 4, none⟩ = some (.int .i64 nm) := B1.cell 4
                     have q4 : w2.cell? ⟨w.heap.size + 1, 4, none⟩ = some (.int .i64 nm') := B2.cell 4
                     have p5 : w2.cell? ⟨w.heap.size, 5, none⟩ = some (.slice ia im ic) := B1.cell 5
                     have q5 : w2.cell? ⟨w.heap.size + 1, 5, none⟩ = some (.slice ia' im' ic') := B2.cell 5
                     have p6 : w2.cell? ⟨w.heap.size, 6, none⟩ = some (.slice ta tn tc) := B1.cell 6
                     have q6 : w2.cell? ⟨w.heap.size + 1, 6, none⟩ = some (.slice ta' tn' tc') := B2.cell 6
                     clear B1 B2 hk2)
                  | (go_at_call 28
                     clear p5 q5
                     refine (IH.out items items' HSZ.out.1 css css' ia ia' im ic im' ic' _ B B' F F' (HRI.out.keep HK2.out (fun _ _ => id)) (TermsIn.keep HK2.out (fun _ _ => id) _ _ HTI.out) (HRI'.out.keep HK2.out (fun _ _ => id)) (TermsIn.keep HK2.out (fun _ _ => id) _ _ HTI'.out) HRO.out.2.1).mono ?_
                     rintro e w3 ⟨rfl, hk3⟩
                     have B1 := Blk.keep HB1.out hk3 id
                     have B2 := Blk.keep HB2.out hk3 id
                     have HK3 := hide (Keeps.trans' HK2.out hk3 (fun _ _ => id) (fun _ _ => id))
                     clear p3 p4 p6 q3 q4 q6
                     have p6 : w3.cell? ⟨w.heap.size, 6, none⟩ = some (.slice ta tn tc) := B1.cell 6
                     have q6 : w3.cell? ⟨w.heap.size + 1, 6, none⟩ = some (.slice ta' tn' tc') := B2.cell 6
                     clear B1 B2 hk3)
                  | (go_at_call 28
                     refine (IH.out tail tail' HSZ.out.2 dss dss' ta ta' tn tc tn' tc' _ B B' F F' (HRT.out.keep HK3.out (fun _ _ => id)) (TermsIn.keep HK3.out (fun _ _ => id) _ _ HTT.out) (HRT'.out.keep HK3.out (fun _ _ => id)) (TermsIn.keep HK3.out (fun _ _ => id) _ _ HTT'.out) HRO.out.2.2).mono ?_
                     rintro e w4 ⟨rfl, hk4⟩
                     have HK4 := hide (Keeps.trans' HK3.out hk4 (fun _ _ => id) (fun _ _ => id))
                     clear hk4 p6 q6)
                  | fail
                go_ret
                exact ⟨by rw [HE.out]; rfl, HK4.out⟩
              · skip
                have g6 : eqTs tail tail' = false := by simpa using h6
                have HE := hide (show eqT (.mk kd ng limbs tx nm items tail) (.mk kd' ng' limbs' tx' nm' items' tail') = false by simp only [eqT, h0, h1, h2, h3, h4, h5, g6, decide_true, decide_false, Bool.and_false, Bool.false_and, Bool.true_and])
                clear h6
                go_enter Try.func27, Try.ntmps27
                go_wp2_with
                  first
                  | (go_at_call 39
                     refine (same_limbs la la' ln lc ln' lc' limbs limbs' _ B B' F F' (HRL.out.keep (((Keeps.refl NoB w).alloc _).alloc _) (fun _ _ => id)) (HRL'.out.keep (((Keeps.refl NoB w).alloc _).alloc _) (fun _ _ => id)) HRO.out.1).mono ?_
                     rintro e w2 ⟨rfl, hk2⟩
                     have B1 : Blk w2 w.heap.size 33 #[.int .u8 kd, .bool ng, .slice la ln lc, .string tx, .int .i64 nm, .slice ia im ic, .slice ta tn tc] := Blk.keep (Blk.alloc (Blk.new w _ _) _) hk2 id
                     have B2 : Blk w2 (w.heap.size + 1) 33 #[.int .u8 kd', .bool ng', .slice la' ln' lc', .string tx', .int .i64 nm', .slice ia' im' ic', .slice ta' tn' tc'] := Blk.keep (Blk.new2 w _ _ _) hk2 id
                     have HK2 := hide (Keeps.trans' (((Keeps.refl NoB w).alloc (.cells #[.int .u8 kd, .bool ng, .slice la ln lc, .string tx, .int .i64 nm, .slice ia im ic, .slice ta tn tc] 33)).alloc (.cells #[.int .u8 kd', .bool ng', .slice la' ln' lc', .string tx', .int .i64 nm', .slice ia' im' ic', .slice ta' tn' tc'] 33)) hk2 (fun _ _ => id) (fun _ _ => id))
                     have HB1 := hide B1; have HB2 := hide B2
                     have p3 : w2.cell? ⟨w.heap.size, 3, none⟩ = some (.string tx) := B1.cell 3
                     have q3 : w2.cell? ⟨w.heap.size + 1, 3, none⟩ = some (.string tx') := B2.cell 3
                     have p4 : w2.cell? ⟨w.heap.size, 4, none⟩ = some (.int .i64 nm) := B1.cell 4
                     have q4 : w2.cell? ⟨w.heap.size + 1, 4, none⟩ = some (.int .i64 nm') := B2.cell 4
                     have p5 : w2.cell? ⟨w.heap.size, 5, none⟩ = some (.slice ia im ic) := B1.cell 5
                     have q5 : w2.cell? ⟨w.heap.size + 1, 5, none⟩ = some (.slice ia' im' ic') := B2.cell 5
                     have p6 : w2.cell? ⟨w.heap.size, 6, none⟩ = some (.slice ta tn tc) := B1.cell 6
                     have q6 : w2.cell? ⟨w.heap.size + 1, 6, none⟩ = some (.slice ta' tn' tc') := B2.cell 6
                     clear B1 B2 hk2)
                  | (go_at_call 28
                     clear p5 q5
                     refine (IH.out items items' HSZ.out.1 css css' ia ia' im ic im' ic' _ B B' F F' (HRI.out.keep HK2.out (fun _ _ => id)) (TermsIn.keep HK2.out (fun _ _ => id) _ _ HTI.out) (HRI'.out.keep HK2.out (fun _ _ => id)) (TermsIn.keep HK2.out (fun _ _ => id) _ _ HTI'.out) HRO.out.2.1).mono ?_
                     rintro e w3 ⟨rfl, hk3⟩
                     have B1 := Blk.keep HB1.out hk3 id
                     have B2 := Blk.keep HB2.out hk3 id
                     have HK3 := hide (Keeps.trans' HK2.out hk3 (fun _ _ => id) (fun _ _ => id))
                     clear p3 p4 p6 q3 q4 q6
                     have p6 : w3.cell? ⟨w.heap.size, 6, none⟩ = some (.slice ta tn tc) := B1.cell 6
                     have q6 : w3.cell? ⟨w.heap.size + 1, 6, none⟩ = some (.slice ta' tn' tc') := B2.cell 6
                     clear B1 B2 hk3)
                  | (go_at_call 28
                     refine (IH.out tail tail' HSZ.out.2 dss dss' ta ta' tn tc tn' tc' _ B B' F F' (HRT.out.keep HK3.out (fun _ _ => id)) (TermsIn.keep HK3.out (fun _ _ => id) _ _ HTT.out) (HRT'.out.keep HK3.out (fun _ _ => id)) (TermsIn.keep HK3.out (fun _ _ => id) _ _ HTT'.out) HRO.out.2.2).mono ?_
                     rintro e w4 ⟨rfl, hk4⟩
                     have HK4 := hide (Keeps.trans' HK3.out hk4 (fun _ _ => id) (fun _ _ => id))
                     clear hk4 p6 q6)
                  | fail
                go_ret
                exact ⟨by rw [HE.out]; rfl, HK4.out⟩
            · skip
              have g5 : eqTs items items' = false := by simpa using h5
              have HE := hide (show eqT (.mk kd ng limbs tx nm items tail) (.mk kd' ng' limbs' tx' nm' items' tail') = false by simp only [eqT, h0, h1, h2, h3, h4, g5, decide_true, decide_false, Bool.and_false, Bool.false_and, Bool.true_and])
              clear h5
              go_enter Try.func27, Try.ntmps27
              go_wp2_with
                first
                | (go_at_call 39
                   refine (same_limbs la la' ln lc ln' lc' limbs limbs' _ B B' F F' (HRL.out.keep (((Keeps.refl NoB w).alloc _).alloc _) (fun _ _ => id)) (HRL'.out.keep (((Keeps.refl NoB w).alloc _).alloc _) (fun _ _ => id)) HRO.out.1).mono ?_
                   rintro e w2 ⟨rfl, hk2⟩
                   have B1 : Blk w2 w.heap.size 33 #[.int .u8 kd, .bool ng, .slice la ln lc, .string tx, .int .i64 nm, .slice ia im ic, .slice ta tn tc] := Blk.keep (Blk.alloc (Blk.new w _ _) _) hk2 id
                   have B2 : Blk w2 (w.heap.size + 1) 33 #[.int .u8 kd', .bool ng', .slice la' ln' lc', .string tx', .int .i64 nm', .slice ia' im' ic', .slice ta' tn' tc'] := Blk.keep (Blk.new2 w _ _ _) hk2 id
                   have HK2 := hide (Keeps.trans' (((Keeps.refl NoB w).alloc (.cells #[.int .u8 kd, .bool ng, .slice la ln lc, .string tx, .int .i64 nm, .slice ia im ic, .slice ta tn tc] 33)).alloc (.cells #[.int .u8 kd', .bool ng', .slice la' ln' lc', .string tx', .int .i64 nm', .slice ia' im' ic', .slice ta' tn' tc'] 33)) hk2 (fun _ _ => id) (fun _ _ => id))
                   have HB1 := hide B1; have HB2 := hide B2
                   have p3 : w2.cell? ⟨w.heap.size, 3, none⟩ = some (.string tx) := B1.cell 3
                   have q3 : w2.cell? ⟨w.heap.size + 1, 3, none⟩ = some (.string tx') := B2.cell 3
                   have p4 : w2.cell? ⟨w.heap.size, 4, none⟩ = some (.int .i64 nm) := B1.cell 4
                   have q4 : w2.cell? ⟨w.heap.size + 1, 4, none⟩ = some (.int .i64 nm') := B2.cell 4
                   have p5 : w2.cell? ⟨w.heap.size, 5, none⟩ = some (.slice ia im ic) := B1.cell 5
                   have q5 : w2.cell? ⟨w.heap.size + 1, 5, none⟩ = some (.slice ia' im' ic') := B2.cell 5
                   have p6 : w2.cell? ⟨w.heap.size, 6, none⟩ = some (.slice ta tn tc) := B1.cell 6
                   have q6 : w2.cell? ⟨w.heap.size + 1, 6, none⟩ = some (.slice ta' tn' tc') := B2.cell 6
                   clear B1 B2 hk2)
                | (go_at_call 28
                   clear p5 q5
                   refine (IH.out items items' HSZ.out.1 css css' ia ia' im ic im' ic' _ B B' F F' (HRI.out.keep HK2.out (fun _ _ => id)) (TermsIn.keep HK2.out (fun _ _ => id) _ _ HTI.out) (HRI'.out.keep HK2.out (fun _ _ => id)) (TermsIn.keep HK2.out (fun _ _ => id) _ _ HTI'.out) HRO.out.2.1).mono ?_
                   rintro e w3 ⟨rfl, hk3⟩
                   have B1 := Blk.keep HB1.out hk3 id
                   have B2 := Blk.keep HB2.out hk3 id
                   have HK3 := hide (Keeps.trans' HK2.out hk3 (fun _ _ => id) (fun _ _ => id))
                   clear p3 p4 p6 q3 q4 q6
                   have p6 : w3.cell? ⟨w.heap.size, 6, none⟩ = some (.slice ta tn tc) := B1.cell 6
                   have q6 : w3.cell? ⟨w.heap.size + 1, 6, none⟩ = some (.slice ta' tn' tc') := B2.cell 6
                   clear B1 B2 hk3)
                | fail
              go_ret
              exact ⟨by rw [HE.out]; rfl, HK3.out⟩
          · skip
            have g4 : ((nm == nm')) = false := by simpa using h4
            have HE := hide (show eqT (.mk kd ng limbs tx nm items tail) (.mk kd' ng' limbs' tx' nm' items' tail') = false by simp only [eqT, h0, h1, h2, h3, g4, decide_true, decide_false, Bool.and_false, Bool.false_and, Bool.true_and])
            clear h4
            go_enter Try.func27, Try.ntmps27
            go_wp2_with
              first
              | (go_at_call 39
                 refine (same_limbs la la' ln lc ln' lc' limbs limbs' _ B B' F F' (HRL.out.keep (((Keeps.refl NoB w).alloc _).alloc _) (fun _ _ => id)) (HRL'.out.keep (((Keeps.refl NoB w).alloc _).alloc _) (fun _ _ => id)) HRO.out.1).mono ?_
                 rintro e w2 ⟨rfl, hk2⟩
                 have B1 : Blk w2 w.heap.size 33 #[.int .u8 kd, .bool ng, .slice la ln lc, .string tx, .int .i64 nm, .slice ia im ic, .slice ta tn tc] := Blk.keep (Blk.alloc (Blk.new w _ _) _) hk2 id
                 have B2 : Blk w2 (w.heap.size + 1) 33 #[.int .u8 kd', .bool ng', .slice la' ln' lc', .string tx', .int .i64 nm', .slice ia' im' ic', .slice ta' tn' tc'] := Blk.keep (Blk.new2 w _ _ _) hk2 id
                 have HK2 := hide (Keeps.trans' (((Keeps.refl NoB w).alloc (.cells #[.int .u8 kd, .bool ng, .slice la ln lc, .string tx, .int .i64 nm, .slice ia im ic, .slice ta tn tc] 33)).alloc (.cells #[.int .u8 kd', .bool ng', .slice la' ln' lc', .string tx', .int .i64 nm', .slice ia' im' ic', .slice ta' tn' tc'] 33)) hk2 (fun _ _ => id) (fun _ _ => id))
                 have HB1 := hide B1; have HB2 := hide B2
                 have p3 : w2.cell? ⟨w.heap.size, 3, none⟩ = some (.string tx) := B1.cell 3
                 have q3 : w2.cell? ⟨w.heap.size + 1, 3, none⟩ = some (.string tx') := B2.cell 3
                 have p4 : w2.cell? ⟨w.heap.size, 4, none⟩ = some (.int .i64 nm) := B1.cell 4
                 have q4 : w2.cell? ⟨w.heap.size + 1, 4, none⟩ = some (.int .i64 nm') := B2.cell 4
                 have p5 : w2.cell? ⟨w.heap.size, 5, none⟩ = some (.slice ia im ic) := B1.cell 5
                 have q5 : w2.cell? ⟨w.heap.size + 1, 5, none⟩ = some (.slice ia' im' ic') := B2.cell 5
                 have p6 : w2.cell? ⟨w.heap.size, 6, none⟩ = some (.slice ta tn tc) := B1.cell 6
                 have q6 : w2.cell? ⟨w.heap.size + 1, 6, none⟩ = some (.slice ta' tn' tc') := B2.cell 6
                 clear B1 B2 hk2)
              | fail
            go_ret
            exact ⟨by rw [HE.out]; rfl, HK2.out⟩
        · skip
          have HE := hide (show eqT (.mk kd ng limbs tx nm items tail) (.mk kd' ng' limbs' tx' nm' items' tail') = false by simp only [eqT, h0, h1, h2, h3, decide_true, decide_false, Bool.and_false, Bool.false_and, Bool.true_and])
          go_enter Try.func27, Try.ntmps27
          go_wp2_with
            first
            | (go_at_call 39
               refine (same_limbs la la' ln lc ln' lc' limbs limbs' _ B B' F F' (HRL.out.keep (((Keeps.refl NoB w).alloc _).alloc _) (fun _ _ => id)) (HRL'.out.keep (((Keeps.refl NoB w).alloc _).alloc _) (fun _ _ => id)) HRO.out.1).mono ?_
               rintro e w2 ⟨rfl, hk2⟩
               have B1 : Blk w2 w.heap.size 33 #[.int .u8 kd, .bool ng, .slice la ln lc, .string tx, .int .i64 nm, .slice ia im ic, .slice ta tn tc] := Blk.keep (Blk.alloc (Blk.new w _ _) _) hk2 id
               have B2 : Blk w2 (w.heap.size + 1) 33 #[.int .u8 kd', .bool ng', .slice la' ln' lc', .string tx', .int .i64 nm', .slice ia' im' ic', .slice ta' tn' tc'] := Blk.keep (Blk.new2 w _ _ _) hk2 id
               have HK2 := hide (Keeps.trans' (((Keeps.refl NoB w).alloc (.cells #[.int .u8 kd, .bool ng, .slice la ln lc, .string tx, .int .i64 nm, .slice ia im ic, .slice ta tn tc] 33)).alloc (.cells #[.int .u8 kd', .bool ng', .slice la' ln' lc', .string tx', .int .i64 nm', .slice ia' im' ic', .slice ta' tn' tc'] 33)) hk2 (fun _ _ => id) (fun _ _ => id))
               have HB1 := hide B1; have HB2 := hide B2
               have p3 : w2.cell? ⟨w.heap.size, 3, none⟩ = some (.string tx) := B1.cell 3
               have q3 : w2.cell? ⟨w.heap.size + 1, 3, none⟩ = some (.string tx') := B2.cell 3
               have p4 : w2.cell? ⟨w.heap.size, 4, none⟩ = some (.int .i64 nm) := B1.cell 4
               have q4 : w2.cell? ⟨w.heap.size + 1, 4, none⟩ = some (.int .i64 nm') := B2.cell 4
               have p5 : w2.cell? ⟨w.heap.size, 5, none⟩ = some (.slice ia im ic) := B1.cell 5
               have q5 : w2.cell? ⟨w.heap.size + 1, 5, none⟩ = some (.slice ia' im' ic') := B2.cell 5
               have p6 : w2.cell? ⟨w.heap.size, 6, none⟩ = some (.slice ta tn tc) := B1.cell 6
               have q6 : w2.cell? ⟨w.heap.size + 1, 6, none⟩ = some (.slice ta' tn' tc') := B2.cell 6
               clear B1 B2 hk2)
            | fail
          go_ret
          exact ⟨by rw [HE.out]; rfl, HK2.out⟩
      · skip
        have g2 : eqL limbs limbs' = false := by simpa using h2
        have HE := hide (show eqT (.mk kd ng limbs tx nm items tail) (.mk kd' ng' limbs' tx' nm' items' tail') = false by simp only [eqT, h0, h1, g2, decide_true, decide_false, Bool.and_false, Bool.false_and, Bool.true_and])
        clear h2
        go_enter Try.func27, Try.ntmps27
        go_wp2_with
          first
          | (go_at_call 39
             refine (same_limbs la la' ln lc ln' lc' limbs limbs' _ B B' F F' (HRL.out.keep (((Keeps.refl NoB w).alloc _).alloc _) (fun _ _ => id)) (HRL'.out.keep (((Keeps.refl NoB w).alloc _).alloc _) (fun _ _ => id)) HRO.out.1).mono ?_
             rintro e w2 ⟨rfl, hk2⟩
             have B1 : Blk w2 w.heap.size 33 #[.int .u8 kd, .bool ng, .slice la ln lc, .string tx, .int .i64 nm, .slice ia im ic, .slice ta tn tc] := Blk.keep (Blk.alloc (Blk.new w _ _) _) hk2 id
             have B2 : Blk w2 (w.heap.size + 1) 33 #[.int .u8 kd', .bool ng', .slice la' ln' lc', .string tx', .int .i64 nm', .slice ia' im' ic', .slice ta' tn' tc'] := Blk.keep (Blk.new2 w _ _ _) hk2 id
             have HK2 := hide (Keeps.trans' (((Keeps.refl NoB w).alloc (.cells #[.int .u8 kd, .bool ng, .slice la ln lc, .string tx, .int .i64 nm, .slice ia im ic, .slice ta tn tc] 33)).alloc (.cells #[.int .u8 kd', .bool ng', .slice la' ln' lc', .string tx', .int .i64 nm', .slice ia' im' ic', .slice ta' tn' tc'] 33)) hk2 (fun _ _ => id) (fun _ _ => id))
             have HB1 := hide B1; have HB2 := hide B2
             have p3 : w2.cell? ⟨w.heap.size, 3, none⟩ = some (.string tx) := B1.cell 3
             have q3 : w2.cell? ⟨w.heap.size + 1, 3, none⟩ = some (.string tx') := B2.cell 3
             have p4 : w2.cell? ⟨w.heap.size, 4, none⟩ = some (.int .i64 nm) := B1.cell 4
             have q4 : w2.cell? ⟨w.heap.size + 1, 4, none⟩ = some (.int .i64 nm') := B2.cell 4
             have p5 : w2.cell? ⟨w.heap.size, 5, none⟩ = some (.slice ia im ic) := B1.cell 5
             have q5 : w2.cell? ⟨w.heap.size + 1, 5, none⟩ = some (.slice ia' im' ic') := B2.cell 5
             have p6 : w2.cell? ⟨w.heap.size, 6, none⟩ = some (.slice ta tn tc) := B1.cell 6
             have q6 : w2.cell? ⟨w.heap.size + 1, 6, none⟩ = some (.slice ta' tn' tc') := B2.cell 6
             clear B1 B2 hk2)
          | fail
        go_ret
        exact ⟨by rw [HE.out]; rfl, HK2.out⟩
    · skip
      have g1 : ((ng == ng')) = false := by simpa using h1
      have HE := hide (show eqT (.mk kd ng limbs tx nm items tail) (.mk kd' ng' limbs' tx' nm' items' tail') = false by simp only [eqT, h0, g1, decide_true, decide_false, Bool.and_false, Bool.false_and, Bool.true_and])
      clear h1
      go_enter Try.func27, Try.ntmps27
      go_wp2_with
        first
        | fail
      go_ret
      exact ⟨by rw [HE.out]; rfl, ((Keeps.refl NoB w).alloc (.cells #[.int .u8 kd, .bool ng, .slice la ln lc, .string tx, .int .i64 nm, .slice ia im ic, .slice ta tn tc] 33)).alloc (.cells #[.int .u8 kd', .bool ng', .slice la' ln' lc', .string tx', .int .i64 nm', .slice ia' im' ic', .slice ta' tn' tc'] 33)⟩
  · skip
    have g0 : ((kd == kd')) = false := by simpa using h0
    have HE := hide (show eqT (.mk kd ng limbs tx nm items tail) (.mk kd' ng' limbs' tx' nm' items' tail') = false by simp only [eqT, g0, decide_true, decide_false, Bool.and_false, Bool.false_and, Bool.true_and])
    clear h0
    go_enter Try.func27, Try.ntmps27
    go_wp2_with
      first
      | fail
    go_ret
    exact ⟨by rw [HE.out]; rfl, ((Keeps.refl NoB w).alloc (.cells #[.int .u8 kd, .bool ng, .slice la ln lc, .string tx, .int .i64 nm, .slice ia im ic, .slice ta tn tc] 33)).alloc (.cells #[.int .u8 kd', .bool ng', .slice la' ln' lc', .string tx', .int .i64 nm', .slice ia' im' ic', .slice ta' tn' tc'] 33)⟩
end Go.Proofs.Ytmkidkfofbnjgaa
