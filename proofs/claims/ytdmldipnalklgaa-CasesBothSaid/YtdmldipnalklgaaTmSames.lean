/- pigeonholekit: SameLimbs, SameTerm, SameTerms tell whether two are the same. -/
import Derived.Test.YtdmldipnalklgaaTmBase
import Derived.Deep.QuietTactic
import Derived.BigQuiet
import Derived.Deep.LoopGhost
namespace Go.Proofs.Ytdmldipnalklgaa
open Go.RowKit

theorem take_eq_succ {α : Type} {xs ys : List α} {k : Nat} {x : α} (h : xs.take k = ys.take k) (h1 : xs[k]? = some x) (h2 : ys[k]? = some x) : xs.take (k + 1) = ys.take (k + 1) := by
  rw [List.take_add_one, List.take_add_one, h, h1, h2]

def SameInv (w : World) (xs ys : List Int) (k : Nat) (wr : World) : Prop := Keeps NoB w wr ∧ xs.take k = ys.take k

def eqL (xs ys : List Int) : Bool := decide (xs = ys)

set_option maxRecDepth 100000 in
theorem tm_same_limbs (A A' : Option Addr) (n c n' c' : Nat) (xs ys : List Int) (w : World) (B B' : Nat → Prop) (F F' : Bool) (hx : Reads w B F 1 A n (xs.map (Value.int .u32))) (hy : Reads w B' F' 1 A' n' (ys.map (Value.int .u32))) (hr : Roomy n 4) :
    Calls Try.prog 26 #[.slice A n c, .slice A' n' c'] w fun e w' => e = .returned (.bool (eqL xs ys)) ∧ Keeps NoB w w' := by
  have hln : xs.length = n := by have := hx.1; simpa using this
  have hln' : ys.length = n' := by have := hy.1; simpa using this
  have hnm : n ≤ 9223372036854775807 := by have := hr.len (by omega); unfold maxLen at this; exact this
  by_cases hne : n = n'
  · have HN := hide hne
    have hb : ((n : Int) != (n' : Int)) = false := by simp [hne]
    have HX := hide hx; have HY := hide hy; have HLN := hide hln; have HLN' := hide hln'
    clear hx hy hln hln' hne
    go_enter Try.func26, Try.ntmps26
    go_wp2
    go_loopw [5] (fun i wr => ∃ k : Nat, k ≤ n ∧ i = .int .i64 k ∧ SameInv w xs ys k wr) (fun i _ => n - (intOf i).toNat)
    case atStart => exact ⟨0, Nat.zero_le _, rfl, Keeps.refl _ _, rfl⟩
    case round =>
      obtain ⟨k, hk, rfl, hinv⟩ := hrel
      have HI := hide hinv; clear hinv
      by_cases hlt : k < n
      · have hkx : k < xs.length := by have := HLN.out; omega
        have hky : k < ys.length := by have := HLN'.out; have := HN.out; omega
        have hlt' : k < n' := by have := HN.out; omega
        obtain ⟨⟨b, o, sp⟩, hA, hs, _, _, hc⟩ := (HX.out.keep HI.out.1 (fun _ _ => id)).2 (by omega)
        obtain ⟨⟨b', o', sp'⟩, hA', hs', _, _, hc'⟩ := (HY.out.keep HI.out.1 (fun _ _ => id)).2 (by omega)
        simp only at hs hs'
        subst hs hs' hA hA'
        obtain ⟨X, hX⟩ : ∃ X, xs[k]? = some X := ⟨_, List.getElem?_eq_getElem hkx⟩
        obtain ⟨Y, hY⟩ : ∃ Y, ys[k]? = some Y := ⟨_, List.getElem?_eq_getElem hky⟩
        have hcx : wr.cell? ⟨b, o + k, none⟩ = some (.int .u32 X) := (hc k _ (by simp [hX])).1
        have hcy : wr.cell? ⟨b', o' + k, none⟩ = some (.int .u32 Y) := (hc' k _ (by simp [hY])).1
        have HEX := hide hX; have HEY := hide hY
        clear hc hc' hX hY
        have hk1 : (k : Int) < (n : Int) := by omega
        have hk2 : (k : Int) < (n' : Int) := by omega
        have hk0 : (0 : Int) ≤ (k : Int) := by omega
        clear hkx hky
        by_cases hxy : X = Y
        · have HXY := hide hxy
          have hbb : (X != Y) = false := by simp [hxy]
          clear hxy
          go_wp2_with (go_quiet (fail))
          go_roundw
          case rel => exact ⟨k + 1, by omega, by go_num, HI.out.1.drewN _, take_eq_succ HI.out.2 HEX.out (HXY.out ▸ HEY.out)⟩
          case measure => simp [intOf]; omega
        · have HXY := hide hxy
          have hbb : (X != Y) = true := by simp [hxy]
          clear hxy
          go_wp2_with (go_quiet (fail))
          go_ret
          refine ⟨?_, HI.out.1.drewN _⟩
          have he : eqL xs ys = false := by
            unfold eqL; simp only [decide_eq_false_iff_not]; intro e; subst e
            exact HXY.out (Option.some.inj (HEX.out.symm.trans HEY.out))
          rw [he]; rfl
      · go_wp2
        go_ret
        refine ⟨?_, HI.out.1⟩
        have he : eqL xs ys = true := by
          have h2 := HI.out.2
          have h3 := HLN.out; have h4 := HLN'.out; have h5 := HN.out
          rw [List.take_of_length_le (by omega), List.take_of_length_le (by omega)] at h2
          unfold eqL; simp [h2]
        rw [he]; rfl
  · have hb : ((n : Int) != (n' : Int)) = true := by simp; omega
    have he : eqL xs ys = false := by
      unfold eqL; simp only [decide_eq_false_iff_not]; rintro rfl; omega
    have HE := hide he; clear he
    clear hx hy hln hln' hne
    go_enter Try.func26, Try.ntmps26
    go_wp2
    go_ret
    exact ⟨by rw [HE.out]; rfl, Keeps.refl _ _⟩


mutual
def eqT : Tm → Tm → Bool
  | .mk k ng limbs tx nm items tail, .mk k' ng' limbs' tx' nm' items' tail' =>
    (k == k') && ((ng == ng') && (eqL limbs limbs' && (decide (tx.toList = tx'.toList) && ((nm == nm') && (eqTs items items' && eqTs tail tail')))))
def eqTs : List Tm → List Tm → Bool
  | [], [] => true
  | t :: ts, u :: us => eqT t u && eqTs ts us
  | [], _ :: _ => false
  | _ :: _, [] => false
end

theorem Blk.new2 (w : World) (o : Obj) (t : TypeId) (cs : Array Value) : Blk ((w.alloc o).alloc (.cells cs t)) (w.heap.size + 1) t cs := by
  have h := Blk.new (w.alloc o) t cs
  have e : (w.alloc o).heap.size = w.heap.size + 1 := by unfold World.alloc; exact Array.size_push ..
  rw [e] at h; exact h

def SamesPost (w : World) (r : Bool) (e : Ending) (w' : World) : Prop := e = .returned (.bool r) ∧ Keeps NoB w w'

def SamesSaid (M : Nat) : Prop := ∀ (ts us : List Tm), Tm.size.sizes ts ≤ M → ∀ (css dss : List (List Value)) (A A' : Option Addr) (n c n' c' : Nat) (w : World) (B B' : Nat → Prop) (F F' : Bool),
  Reads w B F 7 A n css.flatten → TermsIn w B F css ts → Reads w B' F' 7 A' n' dss.flatten → TermsIn w B' F' dss us → Roomy n 104 →
  Calls Try.prog 11 #[.slice A n c, .slice A' n' c'] w (SamesPost w (eqTs ts us))

set_option maxRecDepth 100000 in
set_option maxHeartbeats 1000000 in
theorem same_term_of (M : Nat) (IH : Hid (SamesSaid M)) (t u : Tm) (hM : t.size ≤ M + 1) (w : World) (B B' : Nat → Prop) (F F' : Bool)
    (kd : Int) (ng : Bool) (la : Option Addr) (ln lc : Nat) (tx : ByteArray) (nm : Int) (ia : Option Addr) (im ic : Nat) (ta : Option Addr) (tn tc : Nat)
    (kd' : Int) (ng' : Bool) (la' : Option Addr) (ln' lc' : Nat) (tx' : ByteArray) (nm' : Int) (ia' : Option Addr) (im' ic' : Nat) (ta' : Option Addr) (tn' tc' : Nat)
    (ht : TermIn w B F [.int .u8 kd, .bool ng, .slice la ln lc, .string tx, .int .i64 nm, .slice ia im ic, .slice ta tn tc] t)
    (hu : TermIn w B' F' [.int .u8 kd', .bool ng', .slice la' ln' lc', .string tx', .int .i64 nm', .slice ia' im' ic', .slice ta' tn' tc'] u) :
    Calls Try.prog 17 #[.agg #[.int .u8 kd, .bool ng, .slice la ln lc, .string tx, .int .i64 nm, .slice ia im ic, .slice ta tn tc], .agg #[.int .u8 kd', .bool ng', .slice la' ln' lc', .string tx', .int .i64 nm', .slice ia' im' ic', .slice ta' tn' tc']] w (SamesPost w (eqT t u)) := by
  obtain ⟨limbs, items, tail, css, dss, rfl, hroom, hrl, hri, hti, hrt, htt⟩ : ∃ limbs items tail css dss, t = .mk kd ng limbs tx nm items tail ∧ (Roomy ln 4 ∧ Roomy im 104 ∧ Roomy tn 104) ∧ Reads w B F 1 la ln (limbs.map (Value.int .u32)) ∧ Reads w B F 7 ia im (List.flatten css) ∧ TermsIn w B F css items ∧ Reads w B F 7 ta tn (List.flatten dss) ∧ TermsIn w B F dss tail := by
    cases t
    unfold TermIn at ht
    obtain ⟨_, _, _, _, _, _, _, _, _, css, dss, e, hb, h1, h2, h3, h4, h5⟩ := ht
    simp only [List.cons.injEq, Value.int.injEq, Value.bool.injEq, Value.slice.injEq, Value.string.injEq, true_and, and_true] at e
    obtain ⟨rfl, rfl, ⟨rfl, rfl, rfl⟩, rfl, rfl, ⟨rfl, rfl, rfl⟩, rfl, rfl, rfl⟩ := e
    exact ⟨_, _, _, css, dss, rfl, hb, h1, h2, h3, h4, h5⟩
  obtain ⟨limbs', items', tail', css', dss', rfl, hroom', hrl', hri', hti', hrt', htt'⟩ : ∃ limbs items tail css dss, u = .mk kd' ng' limbs tx' nm' items tail ∧ (Roomy ln' 4 ∧ Roomy im' 104 ∧ Roomy tn' 104) ∧ Reads w B' F' 1 la' ln' (limbs.map (Value.int .u32)) ∧ Reads w B' F' 7 ia' im' (List.flatten css) ∧ TermsIn w B' F' css items ∧ Reads w B' F' 7 ta' tn' (List.flatten dss) ∧ TermsIn w B' F' dss tail := by
    cases u
    unfold TermIn at hu
    obtain ⟨_, _, _, _, _, _, _, _, _, css, dss, e, hb, h1, h2, h3, h4, h5⟩ := hu
    simp only [List.cons.injEq, Value.int.injEq, Value.bool.injEq, Value.slice.injEq, Value.string.injEq, true_and, and_true] at e
    obtain ⟨rfl, rfl, ⟨rfl, rfl, rfl⟩, rfl, rfl, ⟨rfl, rfl, rfl⟩, rfl, rfl, rfl⟩ := e
    exact ⟨_, _, _, css, dss, rfl, hb, h1, h2, h3, h4, h5⟩
  have hsz : Tm.size.sizes items ≤ M ∧ Tm.size.sizes tail ≤ M := by
    have := hM; simp only [Tm.size] at this; omega
  clear ht hu hM
  have HRL := hide hrl; have HRL' := hide hrl'; have HRI := hide hri; have HTI := hide hti; have HRI' := hide hri'; have HTI' := hide hti'; have HRT := hide hrt; have HTT := hide htt; have HRT' := hide hrt'; have HTT' := hide htt'; have HRO := hide hroom; have HSZ := hide hsz
  clear hrl hrl' hri hti hri' hti' hrt htt hrt' htt' hroom hroom' hsz
  by_cases h0 : (kd == kd') = true
  · skip
    by_cases h1 : (ng == ng') = true
    · skip
      by_cases h2 : eqL limbs limbs' = true
      · skip
        by_cases h3 : tx.toList = tx'.toList
        · skip
          by_cases h4 : (nm == nm') = true
          · skip
            by_cases h5 : eqTs items items' = true
            · skip
              by_cases h6 : eqTs tail tail' = true
              · skip
                have HE := hide (show eqT (.mk kd ng limbs tx nm items tail) (.mk kd' ng' limbs' tx' nm' items' tail') = true by simp only [eqT, h0, h1, h2, h3, h4, h5, h6, decide_true, Bool.and_true])
                go_enter Try.func17, Try.ntmps17
                go_wp2_with
                  first
                  | (go_at_call 26
                     refine (tm_same_limbs la la' ln lc ln' lc' limbs limbs' _ B B' F F' (HRL.out.keep (((Keeps.refl NoB w).alloc _).alloc _) (fun _ _ => id)) (HRL'.out.keep (((Keeps.refl NoB w).alloc _).alloc _) (fun _ _ => id)) HRO.out.1).mono ?_
                     rintro e w2 ⟨rfl, hk2⟩
                     have B1 : Blk w2 w.heap.size 27 #[.int .u8 kd, .bool ng, .slice la ln lc, .string tx, .int .i64 nm, .slice ia im ic, .slice ta tn tc] := Blk.keep (Blk.alloc (Blk.new w _ _) _) hk2 id
                     have B2 : Blk w2 (w.heap.size + 1) 27 #[.int .u8 kd', .bool ng', .slice la' ln' lc', .string tx', .int .i64 nm', .slice ia' im' ic', .slice ta' tn' tc'] := Blk.keep (Blk.new2 w _ _ _) hk2 id
                     have HK2 := hide (Keeps.trans' (((Keeps.refl NoB w).alloc (.cells #[.int .u8 kd, .bool ng, .slice la ln lc, .string tx, .int .i64 nm, .slice ia im ic, .slice ta tn tc] 27)).alloc (.cells #[.int .u8 kd', .bool ng', .slice la' ln' lc', .string tx', .int .i64 nm', .slice ia' im' ic', .slice ta' tn' tc'] 27)) hk2 (fun _ _ => id) (fun _ _ => id))
                     have HB1 := hide B1; have HB2 := hide B2
                     have p3 : w2.cell? ⟨w.heap.size, 3, none⟩ = some (.string tx) := B1.cell 3
                     have q3 : w2.cell? ⟨w.heap.size + 1, 3, none⟩ = some (.string tx') := B2.cell 3
                     have p4 : w2.cell? ⟨w.heap.size, 4, none⟩ = some (.int .i64 nm) := B1.cell 4
                     have q4 : w2.cell? ⟨w.heap.size + 1, 4, none⟩ = some (.int .i64 nm') := B2.cell 4
                     have p5 : w2.cell? ⟨w.heap.size, 5, none⟩ = some (.slice ia im ic) := B1.cell 5
                     have q5 : w2.cell? ⟨w.heap.size + 1, 5, none⟩ = some (.slice ia' im' ic') := B2.cell 5
                     have p6 : w2.cell? ⟨w.heap.size, 6, none⟩ = some (.slice ta tn tc) := B1.cell 6
                     have q6 : w2.cell? ⟨w.heap.size + 1, 6, none⟩ = some (.slice ta' tn' tc') := B2.cell 6
                     clear B1 B2 hk2)
                  | (go_at_call 11
                     clear p5 q5
                     refine (IH.out items items' HSZ.out.1 css css' ia ia' im ic im' ic' _ B B' F F' (HRI.out.keep HK2.out (fun _ _ => id)) (TermsIn.keep HK2.out (fun _ _ => id) _ _ HTI.out) (HRI'.out.keep HK2.out (fun _ _ => id)) (TermsIn.keep HK2.out (fun _ _ => id) _ _ HTI'.out) HRO.out.2.1).mono ?_
                     rintro e w3 ⟨rfl, hk3⟩
                     have B1 := Blk.keep HB1.out hk3 id
                     have B2 := Blk.keep HB2.out hk3 id
                     have HK3 := hide (Keeps.trans' HK2.out hk3 (fun _ _ => id) (fun _ _ => id))
                     clear p3 p4 p6 q3 q4 q6
                     have p6 : w3.cell? ⟨w.heap.size, 6, none⟩ = some (.slice ta tn tc) := B1.cell 6
                     have q6 : w3.cell? ⟨w.heap.size + 1, 6, none⟩ = some (.slice ta' tn' tc') := B2.cell 6
                     clear B1 B2 hk3)
                  | (go_at_call 11
                     refine (IH.out tail tail' HSZ.out.2 dss dss' ta ta' tn tc tn' tc' _ B B' F F' (HRT.out.keep HK3.out (fun _ _ => id)) (TermsIn.keep HK3.out (fun _ _ => id) _ _ HTT.out) (HRT'.out.keep HK3.out (fun _ _ => id)) (TermsIn.keep HK3.out (fun _ _ => id) _ _ HTT'.out) HRO.out.2.2).mono ?_
                     rintro e w4 ⟨rfl, hk4⟩
                     have HK4 := hide (Keeps.trans' HK3.out hk4 (fun _ _ => id) (fun _ _ => id))
                     clear hk4 p6 q6)
                  | fail
                go_ret
                exact ⟨by rw [HE.out]; rfl, HK4.out⟩
              · skip
                have g6 : eqTs tail tail' = false := by simpa using h6
                have HE := hide (show eqT (.mk kd ng limbs tx nm items tail) (.mk kd' ng' limbs' tx' nm' items' tail') = false by simp only [eqT, h0, h1, h2, h3, h4, h5, g6, decide_true, decide_false, Bool.and_false, Bool.false_and, Bool.true_and])
                clear h6
                go_enter Try.func17, Try.ntmps17
                go_wp2_with
                  first
                  | (go_at_call 26
                     refine (tm_same_limbs la la' ln lc ln' lc' limbs limbs' _ B B' F F' (HRL.out.keep (((Keeps.refl NoB w).alloc _).alloc _) (fun _ _ => id)) (HRL'.out.keep (((Keeps.refl NoB w).alloc _).alloc _) (fun _ _ => id)) HRO.out.1).mono ?_
                     rintro e w2 ⟨rfl, hk2⟩
                     have B1 : Blk w2 w.heap.size 27 #[.int .u8 kd, .bool ng, .slice la ln lc, .string tx, .int .i64 nm, .slice ia im ic, .slice ta tn tc] := Blk.keep (Blk.alloc (Blk.new w _ _) _) hk2 id
                     have B2 : Blk w2 (w.heap.size + 1) 27 #[.int .u8 kd', .bool ng', .slice la' ln' lc', .string tx', .int .i64 nm', .slice ia' im' ic', .slice ta' tn' tc'] := Blk.keep (Blk.new2 w _ _ _) hk2 id
                     have HK2 := hide (Keeps.trans' (((Keeps.refl NoB w).alloc (.cells #[.int .u8 kd, .bool ng, .slice la ln lc, .string tx, .int .i64 nm, .slice ia im ic, .slice ta tn tc] 27)).alloc (.cells #[.int .u8 kd', .bool ng', .slice la' ln' lc', .string tx', .int .i64 nm', .slice ia' im' ic', .slice ta' tn' tc'] 27)) hk2 (fun _ _ => id) (fun _ _ => id))
                     have HB1 := hide B1; have HB2 := hide B2
                     have p3 : w2.cell? ⟨w.heap.size, 3, none⟩ = some (.string tx) := B1.cell 3
                     have q3 : w2.cell? ⟨w.heap.size + 1, 3, none⟩ = some (.string tx') := B2.cell 3
                     have p4 : w2.cell? ⟨w.heap.size, 4, none⟩ = some (.int .i64 nm) := B1.cell 4
                     have q4 : w2.cell? ⟨w.heap.size + 1, 4, none⟩ = some (.int .i64 nm') := B2.cell 4
                     have p5 : w2.cell? ⟨w.heap.size, 5, none⟩ = some (.slice ia im ic) := B1.cell 5
                     have q5 : w2.cell? ⟨w.heap.size + 1, 5, none⟩ = some (.slice ia' im' ic') := B2.cell 5
                     have p6 : w2.cell? ⟨w.heap.size, 6, none⟩ = some (.slice ta tn tc) := B1.cell 6
                     have q6 : w2.cell? ⟨w.heap.size + 1, 6, none⟩ = some (.slice ta' tn' tc') := B2.cell 6
                     clear B1 B2 hk2)
                  | (go_at_call 11
                     clear p5 q5
                     refine (IH.out items items' HSZ.out.1 css css' ia ia' im ic im' ic' _ B B' F F' (HRI.out.keep HK2.out (fun _ _ => id)) (TermsIn.keep HK2.out (fun _ _ => id) _ _ HTI.out) (HRI'.out.keep HK2.out (fun _ _ => id)) (TermsIn.keep HK2.out (fun _ _ => id) _ _ HTI'.out) HRO.out.2.1).mono ?_
                     rintro e w3 ⟨rfl, hk3⟩
                     have B1 := Blk.keep HB1.out hk3 id
                     have B2 := Blk.keep HB2.out hk3 id
                     have HK3 := hide (Keeps.trans' HK2.out hk3 (fun _ _ => id) (fun _ _ => id))
                     clear p3 p4 p6 q3 q4 q6
                     have p6 : w3.cell? ⟨w.heap.size, 6, none⟩ = some (.slice ta tn tc) := B1.cell 6
                     have q6 : w3.cell? ⟨w.heap.size + 1, 6, none⟩ = some (.slice ta' tn' tc') := B2.cell 6
                     clear B1 B2 hk3)
                  | (go_at_call 11
                     refine (IH.out tail tail' HSZ.out.2 dss dss' ta ta' tn tc tn' tc' _ B B' F F' (HRT.out.keep HK3.out (fun _ _ => id)) (TermsIn.keep HK3.out (fun _ _ => id) _ _ HTT.out) (HRT'.out.keep HK3.out (fun _ _ => id)) (TermsIn.keep HK3.out (fun _ _ => id) _ _ HTT'.out) HRO.out.2.2).mono ?_
                     rintro e w4 ⟨rfl, hk4⟩
                     have HK4 := hide (Keeps.trans' HK3.out hk4 (fun _ _ => id) (fun _ _ => id))
                     clear hk4 p6 q6)
                  | fail
                go_ret
                exact ⟨by rw [HE.out]; rfl, HK4.out⟩
            · skip
              have g5 : eqTs items items' = false := by simpa using h5
              have HE := hide (show eqT (.mk kd ng limbs tx nm items tail) (.mk kd' ng' limbs' tx' nm' items' tail') = false by simp only [eqT, h0, h1, h2, h3, h4, g5, decide_true, decide_false, Bool.and_false, Bool.false_and, Bool.true_and])
              clear h5
              go_enter Try.func17, Try.ntmps17
              go_wp2_with
                first
                | (go_at_call 26
                   refine (tm_same_limbs la la' ln lc ln' lc' limbs limbs' _ B B' F F' (HRL.out.keep (((Keeps.refl NoB w).alloc _).alloc _) (fun _ _ => id)) (HRL'.out.keep (((Keeps.refl NoB w).alloc _).alloc _) (fun _ _ => id)) HRO.out.1).mono ?_
                   rintro e w2 ⟨rfl, hk2⟩
                   have B1 : Blk w2 w.heap.size 27 #[.int .u8 kd, .bool ng, .slice la ln lc, .string tx, .int .i64 nm, .slice ia im ic, .slice ta tn tc] := Blk.keep (Blk.alloc (Blk.new w _ _) _) hk2 id
                   have B2 : Blk w2 (w.heap.size + 1) 27 #[.int .u8 kd', .bool ng', .slice la' ln' lc', .string tx', .int .i64 nm', .slice ia' im' ic', .slice ta' tn' tc'] := Blk.keep (Blk.new2 w _ _ _) hk2 id
                   have HK2 := hide (Keeps.trans' (((Keeps.refl NoB w).alloc (.cells #[.int .u8 kd, .bool ng, .slice la ln lc, .string tx, .int .i64 nm, .slice ia im ic, .slice ta tn tc] 27)).alloc (.cells #[.int .u8 kd', .bool ng', .slice la' ln' lc', .string tx', .int .i64 nm', .slice ia' im' ic', .slice ta' tn' tc'] 27)) hk2 (fun _ _ => id) (fun _ _ => id))
                   have HB1 := hide B1; have HB2 := hide B2
                   have p3 : w2.cell? ⟨w.heap.size, 3, none⟩ = some (.string tx) := B1.cell 3
                   have q3 : w2.cell? ⟨w.heap.size + 1, 3, none⟩ = some (.string tx') := B2.cell 3
                   have p4 : w2.cell? ⟨w.heap.size, 4, none⟩ = some (.int .i64 nm) := B1.cell 4
                   have q4 : w2.cell? ⟨w.heap.size + 1, 4, none⟩ = some (.int .i64 nm') := B2.cell 4
                   have p5 : w2.cell? ⟨w.heap.size, 5, none⟩ = some (.slice ia im ic) := B1.cell 5
                   have q5 : w2.cell? ⟨w.heap.size + 1, 5, none⟩ = some (.slice ia' im' ic') := B2.cell 5
                   have p6 : w2.cell? ⟨w.heap.size, 6, none⟩ = some (.slice ta tn tc) := B1.cell 6
                   have q6 : w2.cell? ⟨w.heap.size + 1, 6, none⟩ = some (.slice ta' tn' tc') := B2.cell 6
                   clear B1 B2 hk2)
                | (go_at_call 11
                   clear p5 q5
                   refine (IH.out items items' HSZ.out.1 css css' ia ia' im ic im' ic' _ B B' F F' (HRI.out.keep HK2.out (fun _ _ => id)) (TermsIn.keep HK2.out (fun _ _ => id) _ _ HTI.out) (HRI'.out.keep HK2.out (fun _ _ => id)) (TermsIn.keep HK2.out (fun _ _ => id) _ _ HTI'.out) HRO.out.2.1).mono ?_
                   rintro e w3 ⟨rfl, hk3⟩
                   have B1 := Blk.keep HB1.out hk3 id
                   have B2 := Blk.keep HB2.out hk3 id
                   have HK3 := hide (Keeps.trans' HK2.out hk3 (fun _ _ => id) (fun _ _ => id))
                   clear p3 p4 p6 q3 q4 q6
                   have p6 : w3.cell? ⟨w.heap.size, 6, none⟩ = some (.slice ta tn tc) := B1.cell 6
                   have q6 : w3.cell? ⟨w.heap.size + 1, 6, none⟩ = some (.slice ta' tn' tc') := B2.cell 6
                   clear B1 B2 hk3)
                | fail
              go_ret
              exact ⟨by rw [HE.out]; rfl, HK3.out⟩
          · skip
            have g4 : ((nm == nm')) = false := by simpa using h4
            have HE := hide (show eqT (.mk kd ng limbs tx nm items tail) (.mk kd' ng' limbs' tx' nm' items' tail') = false by simp only [eqT, h0, h1, h2, h3, g4, decide_true, decide_false, Bool.and_false, Bool.false_and, Bool.true_and])
            clear h4
            go_enter Try.func17, Try.ntmps17
            go_wp2_with
              first
              | (go_at_call 26
                 refine (tm_same_limbs la la' ln lc ln' lc' limbs limbs' _ B B' F F' (HRL.out.keep (((Keeps.refl NoB w).alloc _).alloc _) (fun _ _ => id)) (HRL'.out.keep (((Keeps.refl NoB w).alloc _).alloc _) (fun _ _ => id)) HRO.out.1).mono ?_
                 rintro e w2 ⟨rfl, hk2⟩
                 have B1 : Blk w2 w.heap.size 27 #[.int .u8 kd, .bool ng, .slice la ln lc, .string tx, .int .i64 nm, .slice ia im ic, .slice ta tn tc] := Blk.keep (Blk.alloc (Blk.new w _ _) _) hk2 id
                 have B2 : Blk w2 (w.heap.size + 1) 27 #[.int .u8 kd', .bool ng', .slice la' ln' lc', .string tx', .int .i64 nm', .slice ia' im' ic', .slice ta' tn' tc'] := Blk.keep (Blk.new2 w _ _ _) hk2 id
                 have HK2 := hide (Keeps.trans' (((Keeps.refl NoB w).alloc (.cells #[.int .u8 kd, .bool ng, .slice la ln lc, .string tx, .int .i64 nm, .slice ia im ic, .slice ta tn tc] 27)).alloc (.cells #[.int .u8 kd', .bool ng', .slice la' ln' lc', .string tx', .int .i64 nm', .slice ia' im' ic', .slice ta' tn' tc'] 27)) hk2 (fun _ _ => id) (fun _ _ => id))
                 have HB1 := hide B1; have HB2 := hide B2
                 have p3 : w2.cell? ⟨w.heap.size, 3, none⟩ = some (.string tx) := B1.cell 3
                 have q3 : w2.cell? ⟨w.heap.size + 1, 3, none⟩ = some (.string tx') := B2.cell 3
                 have p4 : w2.cell? ⟨w.heap.size, 4, none⟩ = some (.int .i64 nm) := B1.cell 4
                 have q4 : w2.cell? ⟨w.heap.size + 1, 4, none⟩ = some (.int .i64 nm') := B2.cell 4
                 have p5 : w2.cell? ⟨w.heap.size, 5, none⟩ = some (.slice ia im ic) := B1.cell 5
                 have q5 : w2.cell? ⟨w.heap.size + 1, 5, none⟩ = some (.slice ia' im' ic') := B2.cell 5
                 have p6 : w2.cell? ⟨w.heap.size, 6, none⟩ = some (.slice ta tn tc) := B1.cell 6
                 have q6 : w2.cell? ⟨w.heap.size + 1, 6, none⟩ = some (.slice ta' tn' tc') := B2.cell 6
                 clear B1 B2 hk2)
              | fail
            go_ret
            exact ⟨by rw [HE.out]; rfl, HK2.out⟩
        · skip
          have HE := hide (show eqT (.mk kd ng limbs tx nm items tail) (.mk kd' ng' limbs' tx' nm' items' tail') = false by simp only [eqT, h0, h1, h2, h3, decide_true, decide_false, Bool.and_false, Bool.false_and, Bool.true_and])
          go_enter Try.func17, Try.ntmps17
          go_wp2_with
            first
            | (go_at_call 26
               refine (tm_same_limbs la la' ln lc ln' lc' limbs limbs' _ B B' F F' (HRL.out.keep (((Keeps.refl NoB w).alloc _).alloc _) (fun _ _ => id)) (HRL'.out.keep (((Keeps.refl NoB w).alloc _).alloc _) (fun _ _ => id)) HRO.out.1).mono ?_
               rintro e w2 ⟨rfl, hk2⟩
               have B1 : Blk w2 w.heap.size 27 #[.int .u8 kd, .bool ng, .slice la ln lc, .string tx, .int .i64 nm, .slice ia im ic, .slice ta tn tc] := Blk.keep (Blk.alloc (Blk.new w _ _) _) hk2 id
               have B2 : Blk w2 (w.heap.size + 1) 27 #[.int .u8 kd', .bool ng', .slice la' ln' lc', .string tx', .int .i64 nm', .slice ia' im' ic', .slice ta' tn' tc'] := Blk.keep (Blk.new2 w _ _ _) hk2 id
               have HK2 := hide (Keeps.trans' (((Keeps.refl NoB w).alloc (.cells #[.int .u8 kd, .bool ng, .slice la ln lc, .string tx, .int .i64 nm, .slice ia im ic, .slice ta tn tc] 27)).alloc (.cells #[.int .u8 kd', .bool ng', .slice la' ln' lc', .string tx', .int .i64 nm', .slice ia' im' ic', .slice ta' tn' tc'] 27)) hk2 (fun _ _ => id) (fun _ _ => id))
               have HB1 := hide B1; have HB2 := hide B2
               have p3 : w2.cell? ⟨w.heap.size, 3, none⟩ = some (.string tx) := B1.cell 3
               have q3 : w2.cell? ⟨w.heap.size + 1, 3, none⟩ = some (.string tx') := B2.cell 3
               have p4 : w2.cell? ⟨w.heap.size, 4, none⟩ = some (.int .i64 nm) := B1.cell 4
               have q4 : w2.cell? ⟨w.heap.size + 1, 4, none⟩ = some (.int .i64 nm') := B2.cell 4
               have p5 : w2.cell? ⟨w.heap.size, 5, none⟩ = some (.slice ia im ic) := B1.cell 5
               have q5 : w2.cell? ⟨w.heap.size + 1, 5, none⟩ = some (.slice ia' im' ic') := B2.cell 5
               have p6 : w2.cell? ⟨w.heap.size, 6, none⟩ = some (.slice ta tn tc) := B1.cell 6
               have q6 : w2.cell? ⟨w.heap.size + 1, 6, none⟩ = some (.slice ta' tn' tc') := B2.cell 6
               clear B1 B2 hk2)
            | fail
          go_ret
          exact ⟨by rw [HE.out]; rfl, HK2.out⟩
      · skip
        have g2 : eqL limbs limbs' = false := by simpa using h2
        have HE := hide (show eqT (.mk kd ng limbs tx nm items tail) (.mk kd' ng' limbs' tx' nm' items' tail') = false by simp only [eqT, h0, h1, g2, decide_true, decide_false, Bool.and_false, Bool.false_and, Bool.true_and])
        clear h2
        go_enter Try.func17, Try.ntmps17
        go_wp2_with
          first
          | (go_at_call 26
             refine (tm_same_limbs la la' ln lc ln' lc' limbs limbs' _ B B' F F' (HRL.out.keep (((Keeps.refl NoB w).alloc _).alloc _) (fun _ _ => id)) (HRL'.out.keep (((Keeps.refl NoB w).alloc _).alloc _) (fun _ _ => id)) HRO.out.1).mono ?_
             rintro e w2 ⟨rfl, hk2⟩
             have B1 : Blk w2 w.heap.size 27 #[.int .u8 kd, .bool ng, .slice la ln lc, .string tx, .int .i64 nm, .slice ia im ic, .slice ta tn tc] := Blk.keep (Blk.alloc (Blk.new w _ _) _) hk2 id
             have B2 : Blk w2 (w.heap.size + 1) 27 #[.int .u8 kd', .bool ng', .slice la' ln' lc', .string tx', .int .i64 nm', .slice ia' im' ic', .slice ta' tn' tc'] := Blk.keep (Blk.new2 w _ _ _) hk2 id
             have HK2 := hide (Keeps.trans' (((Keeps.refl NoB w).alloc (.cells #[.int .u8 kd, .bool ng, .slice la ln lc, .string tx, .int .i64 nm, .slice ia im ic, .slice ta tn tc] 27)).alloc (.cells #[.int .u8 kd', .bool ng', .slice la' ln' lc', .string tx', .int .i64 nm', .slice ia' im' ic', .slice ta' tn' tc'] 27)) hk2 (fun _ _ => id) (fun _ _ => id))
             have HB1 := hide B1; have HB2 := hide B2
             have p3 : w2.cell? ⟨w.heap.size, 3, none⟩ = some (.string tx) := B1.cell 3
             have q3 : w2.cell? ⟨w.heap.size + 1, 3, none⟩ = some (.string tx') := B2.cell 3
             have p4 : w2.cell? ⟨w.heap.size, 4, none⟩ = some (.int .i64 nm) := B1.cell 4
             have q4 : w2.cell? ⟨w.heap.size + 1, 4, none⟩ = some (.int .i64 nm') := B2.cell 4
             have p5 : w2.cell? ⟨w.heap.size, 5, none⟩ = some (.slice ia im ic) := B1.cell 5
             have q5 : w2.cell? ⟨w.heap.size + 1, 5, none⟩ = some (.slice ia' im' ic') := B2.cell 5
             have p6 : w2.cell? ⟨w.heap.size, 6, none⟩ = some (.slice ta tn tc) := B1.cell 6
             have q6 : w2.cell? ⟨w.heap.size + 1, 6, none⟩ = some (.slice ta' tn' tc') := B2.cell 6
             clear B1 B2 hk2)
          | fail
        go_ret
        exact ⟨by rw [HE.out]; rfl, HK2.out⟩
    · skip
      have g1 : ((ng == ng')) = false := by simpa using h1
      have HE := hide (show eqT (.mk kd ng limbs tx nm items tail) (.mk kd' ng' limbs' tx' nm' items' tail') = false by simp only [eqT, h0, g1, decide_true, decide_false, Bool.and_false, Bool.false_and, Bool.true_and])
      clear h1
      go_enter Try.func17, Try.ntmps17
      go_wp2_with
        first
        | fail
      go_ret
      exact ⟨by rw [HE.out]; rfl, ((Keeps.refl NoB w).alloc (.cells #[.int .u8 kd, .bool ng, .slice la ln lc, .string tx, .int .i64 nm, .slice ia im ic, .slice ta tn tc] 27)).alloc (.cells #[.int .u8 kd', .bool ng', .slice la' ln' lc', .string tx', .int .i64 nm', .slice ia' im' ic', .slice ta' tn' tc'] 27)⟩
  · skip
    have g0 : ((kd == kd')) = false := by simpa using h0
    have HE := hide (show eqT (.mk kd ng limbs tx nm items tail) (.mk kd' ng' limbs' tx' nm' items' tail') = false by simp only [eqT, g0, decide_true, decide_false, Bool.and_false, Bool.false_and, Bool.true_and])
    clear h0
    go_enter Try.func17, Try.ntmps17
    go_wp2_with
      first
      | fail
    go_ret
    exact ⟨by rw [HE.out]; rfl, ((Keeps.refl NoB w).alloc (.cells #[.int .u8 kd, .bool ng, .slice la ln lc, .string tx, .int .i64 nm, .slice ia im ic, .slice ta tn tc] 27)).alloc (.cells #[.int .u8 kd', .bool ng', .slice la' ln' lc', .string tx', .int .i64 nm', .slice ia' im' ic', .slice ta' tn' tc'] 27)⟩


theorem eqTs_step {ts us : List Tm} {k : Nat} {t u : Tm} (h1 : ts[k]? = some t) (h2 : us[k]? = some u) : eqTs (ts.drop k) (us.drop k) = (eqT t u && eqTs (ts.drop (k + 1)) (us.drop (k + 1))) := by
  obtain ⟨a1, e1⟩ := List.getElem?_eq_some_iff.1 h1
  obtain ⟨a2, e2⟩ := List.getElem?_eq_some_iff.1 h2
  rw [List.drop_eq_getElem_cons a1, List.drop_eq_getElem_cons a2, e1, e2, eqTs]

theorem eqTs_len : ∀ {ts us : List Tm}, ts.length ≠ us.length → eqTs ts us = false
  | [], [], h => absurd rfl h
  | [], _ :: _, _ => by unfold eqTs; rfl
  | _ :: _, [], _ => by unfold eqTs; rfl
  | t :: ts, u :: us, h => by unfold eqTs; rw [eqTs_len (ts := ts) (us := us) (by simpa using h), Bool.and_false]

theorem Tm.size_pos (t : Tm) : 0 < t.size := by cases t; simp only [Tm.size]; omega

def TsInv (w : World) (ts us : List Tm) (k : Nat) (wr : World) : Prop := Keeps NoB w wr ∧ eqTs ts us = eqTs (ts.drop k) (us.drop k)

/-- The cells of the k-th, where they lie. -/
theorem cells_at {w : World} {B : Nat → Prop} {F : Bool} {ts : List Tm} {css : List (List Value)} {A : Option Addr} {n : Nat} (hr : Reads w B F 7 A n css.flatten) (ht : TermsIn w B F css ts) (k : Nat) (hk : k < n) :
    ∃ b o kd ng la ln lc tx nm ia im ic ta tn tc t, A = some ⟨b, o, none⟩ ∧ ts[k]? = some t ∧ TermIn w B F [.int .u8 kd, .bool ng, .slice la ln lc, .string tx, .int .i64 nm, .slice ia im ic, .slice ta tn tc] t ∧ t.size ≤ Tm.size.sizes ts ∧
      w.cell? ⟨b, o + k * 7, none⟩ = some (.int .u8 kd) ∧ w.cell? ⟨b, o + k * 7 + 1, none⟩ = some (.bool ng) ∧ w.cell? ⟨b, o + k * 7 + 2, none⟩ = some (.slice la ln lc) ∧ w.cell? ⟨b, o + k * 7 + 3, none⟩ = some (.string tx) ∧
      w.cell? ⟨b, o + k * 7 + 4, none⟩ = some (.int .i64 nm) ∧ w.cell? ⟨b, o + k * 7 + 5, none⟩ = some (.slice ia im ic) ∧ w.cell? ⟨b, o + k * 7 + 6, none⟩ = some (.slice ta tn tc) := by
  obtain ⟨hl, h7⟩ := ht.lens
  have hn : css.length = n := by have h1 := hr.1; rw [flat_len h7] at h1; omega
  obtain ⟨kd, ng, la, ln, lc, tx, nm, ia, im, ic, ta, tn, tc, limbs, items, tail, dss, ess, hcs, htk, hroom, hrl, hri, hti, hrt, htt, hsz⟩ := TermsIn.at ht k (by omega)
  have hg := TermsIn.get ht k (by omega) (by omega)
  obtain ⟨_, e1⟩ := List.getElem?_eq_some_iff.1 hcs
  obtain ⟨_, e2⟩ := List.getElem?_eq_some_iff.1 htk
  rw [e1, e2] at hg
  obtain ⟨⟨b, o, sp⟩, hA, hs, _, _, hc⟩ := hr.2 (by omega)
  simp only at hs
  subst hs hA
  obtain ⟨g0, g1, g2, g3, g4, g5, g6⟩ := flat_cells h7 hcs
  exact ⟨b, o, kd, ng, la, ln, lc, tx, nm, ia, im, ic, ta, tn, tc, _, rfl, htk, hg, by simp only [Tm.size]; omega, (hc _ _ g0).1, (hc _ _ g1).1, (hc _ _ g2).1, (hc _ _ g3).1, (hc _ _ g4).1, (hc _ _ g5).1, (hc _ _ g6).1⟩

set_option maxRecDepth 100000 in
set_option maxHeartbeats 2000000 in
theorem tm_same_terms (M : Nat) : SamesSaid M := by
  induction M using Nat.strongRecOn with
  | ind M IH =>
  intro ts us hM css dss A A' n c n' c' w B B' F F' hr ht hr' ht' hroom
  have hln : ts.length = n := by have h1 := hr.1; rw [flat_len ht.lens.2, ht.lens.1] at h1; omega
  have hln' : us.length = n' := by have h1 := hr'.1; rw [flat_len ht'.lens.2, ht'.lens.1] at h1; omega
  have hnm : n ≤ 9223372036854775807 := by have := hroom.len (by omega); unfold maxLen at this; exact this
  have HR := hide hr; have HT := hide ht; have HR' := hide hr'; have HT' := hide ht'; have HLN := hide hln; have HLN' := hide hln'; have HM := hide hM; have HIH := hide IH
  clear hr ht hr' ht' hln hln' hM IH hroom
  by_cases hne : n = n'
  · have HN := hide hne
    have hb : ((n : Int) != (n' : Int)) = false := by simp [hne]
    clear hne
    go_enter Try.func11, Try.ntmps11
    go_wp2
    go_loopw [5] (fun i wr => ∃ k : Nat, k ≤ n ∧ i = .int .i64 k ∧ TsInv w ts us k wr) (fun i _ => n - (intOf i).toNat)
    case atStart => exact ⟨0, Nat.zero_le _, rfl, Keeps.refl _ _, rfl⟩
    case round =>
      obtain ⟨k, hk, rfl, hinv⟩ := hrel
      have HI := hide hinv; clear hinv
      by_cases hlt : k < n
      · obtain ⟨b, o, kd, ng, la, ln, lc, tx, nm, ia, im, ic, ta, tn, tc, t, hA, h1, h2, h3, f0, f1, f2, f3, f4, f5, f6⟩ := cells_at (HR.out.keep HI.out.1 (fun _ _ => id)) (TermsIn.keep HI.out.1 (fun _ _ => id) _ _ HT.out) k hlt
        obtain ⟨b', o', kd', ng', la', ln', lc', tx', nm', ia', im', ic', ta', tn', tc', t', hA', h1', h2', h3', f0', f1', f2', f3', f4', f5', f6'⟩ := cells_at (HR'.out.keep HI.out.1 (fun _ _ => id)) (TermsIn.keep HI.out.1 (fun _ _ => id) _ _ HT'.out) k (by have := HN.out; omega)
        subst hA hA'
        have hk1 : (k : Int) < (n : Int) := by omega
        have hk2 : (k : Int) < (n' : Int) := by have := HN.out; omega
        have hk0 : (0 : Int) ≤ (k : Int) := by omega
        have HE := hide h1; have HE' := hide h1'; have HT2 := hide h2; have HT2' := hide h2'; have HZ := hide h3
        clear h1 h1' h2 h2' h3 h3'
        have HC := hide (And.intro f0 (And.intro f1 (And.intro f2 (And.intro f3 (And.intro f4 (And.intro f5 f6))))))
        have HC' := hide (And.intro f0' (And.intro f1' (And.intro f2' (And.intro f3' (And.intro f4' (And.intro f5' f6'))))))
        clear f0 f1 f2 f3 f4 f5 f6 f0' f1' f2' f3' f4' f5' f6'
        go_wp2_with fail
        refine order_begin (fun W => Keeps NoB wr W) (fun _ => true) (by kernel_rfl) 10 rfl ?_
        have HS : Keeps NoB wr wr.drew := (Keeps.refl NoB wr).drew
        generalize wr.drew = W0 at *
        refine order_pure (i := 0) rfl (by kernel_rfl) (fun _ _ _ h => h) (.inl ⟨rfl, fun _ => by go_simp; rfl⟩) ?_
        try simp only [Act.put, List.setIfInBounds_toArray, List.set_cons_succ, List.set_cons_zero]
        refine order_pure (i := 1) rfl (by kernel_rfl) (fun _ _ _ h => h) (.inl ⟨rfl, fun _ => by go_simp; rfl⟩) ?_
        try simp only [Act.put, List.setIfInBounds_toArray, List.set_cons_succ, List.set_cons_zero]
        refine order_pure (i := 2) rfl (by kernel_rfl) (fun _ _ _ h => h) (.inl ⟨rfl, fun _ => by go_simp; rfl⟩) ?_
        try simp only [Act.put, List.setIfInBounds_toArray, List.set_cons_succ, List.set_cons_zero]
        refine order_held (i := 3) rfl (by kernel_rfl) (fun _ _ _ h => h) (.inl ⟨rfl, fun W hW => by
          have q0 : W.cell? ⟨b, o + k * 7, none⟩ = some (.int .u8 kd) := hW.cell id HC.out.1
          have q1 : W.cell? ⟨b, o + k * 7 + 1, none⟩ = some (.bool ng) := hW.cell id HC.out.2.1
          have q2 : W.cell? ⟨b, o + k * 7 + 2, none⟩ = some (.slice la ln lc) := hW.cell id HC.out.2.2.1
          have q3 : W.cell? ⟨b, o + k * 7 + 3, none⟩ = some (.string tx) := hW.cell id HC.out.2.2.2.1
          have q4 : W.cell? ⟨b, o + k * 7 + 4, none⟩ = some (.int .i64 nm) := hW.cell id HC.out.2.2.2.2.1
          have q5 : W.cell? ⟨b, o + k * 7 + 5, none⟩ = some (.slice ia im ic) := hW.cell id HC.out.2.2.2.2.2.1
          have q6 : W.cell? ⟨b, o + k * 7 + 6, none⟩ = some (.slice ta tn tc) := hW.cell id HC.out.2.2.2.2.2.2
          go_simp; rfl⟩) HS ?_
        try simp only [Act.put, List.setIfInBounds_toArray, List.set_cons_succ, List.set_cons_zero]
        refine order_pure (i := 4) rfl (by kernel_rfl) (fun _ _ _ h => h) (.inl ⟨rfl, fun _ => by go_simp; rfl⟩) ?_
        try simp only [Act.put, List.setIfInBounds_toArray, List.set_cons_succ, List.set_cons_zero]
        refine order_pure (i := 5) rfl (by kernel_rfl) (fun _ _ _ h => h) (.inl ⟨rfl, fun _ => by go_simp; rfl⟩) ?_
        try simp only [Act.put, List.setIfInBounds_toArray, List.set_cons_succ, List.set_cons_zero]
        refine order_pure (i := 6) rfl (by kernel_rfl) (fun _ _ _ h => h) (.inl ⟨rfl, fun _ => by go_simp; rfl⟩) ?_
        try simp only [Act.put, List.setIfInBounds_toArray, List.set_cons_succ, List.set_cons_zero]
        refine order_held (i := 7) rfl (by kernel_rfl) (fun _ _ _ h => h) (.inl ⟨rfl, fun W hW => by
          have q0 : W.cell? ⟨b', o' + k * 7, none⟩ = some (.int .u8 kd') := hW.cell id HC'.out.1
          have q1 : W.cell? ⟨b', o' + k * 7 + 1, none⟩ = some (.bool ng') := hW.cell id HC'.out.2.1
          have q2 : W.cell? ⟨b', o' + k * 7 + 2, none⟩ = some (.slice la' ln' lc') := hW.cell id HC'.out.2.2.1
          have q3 : W.cell? ⟨b', o' + k * 7 + 3, none⟩ = some (.string tx') := hW.cell id HC'.out.2.2.2.1
          have q4 : W.cell? ⟨b', o' + k * 7 + 4, none⟩ = some (.int .i64 nm') := hW.cell id HC'.out.2.2.2.2.1
          have q5 : W.cell? ⟨b', o' + k * 7 + 5, none⟩ = some (.slice ia' im' ic') := hW.cell id HC'.out.2.2.2.2.2.1
          have q6 : W.cell? ⟨b', o' + k * 7 + 6, none⟩ = some (.slice ta' tn' tc') := hW.cell id HC'.out.2.2.2.2.2.2
          go_simp; rfl⟩) HS ?_
        try simp only [Act.put, List.setIfInBounds_toArray, List.set_cons_succ, List.set_cons_zero]
        refine order_one (i := 8) rfl (by kernel_rfl) (fun K hK => ?_)
        go_simp
        refine (same_term_of (M - 1) (hide (HIH.out (M - 1) (by have := HM.out; have := HZ.out; have := Tm.size_pos t; omega))) t t' (by have := HM.out; have := HZ.out; omega) W0 B B' F F' kd ng la ln lc tx nm ia im ic ta tn tc kd' ng' la' ln' lc' tx' nm' ia' im' ic' ta' tn' tc' (TermIn.keep HS (fun _ _ => id) _ _ HT2.out) (TermIn.keep HS (fun _ _ => id) _ _ HT2'.out)).mono ?_
        rintro e w2 ⟨rfl, hk3⟩
        refine hK _ _ (fun _ hS => hS.trans' hk3 (fun _ _ => id) (fun _ _ => id)) ?_
        clear hK
        have HK3 := hide (HI.out.1.trans' (HS.trans' hk3 (fun _ _ => id) (fun _ _ => id) : Keeps NoB wr w2) (fun _ _ => id) (fun _ _ => id) : Keeps NoB w w2)
        clear hk3 HS
        try simp only [Act.put, List.setIfInBounds_toArray, List.set_cons_succ, List.set_cons_zero]
        refine order_pure (i := 9) rfl (by kernel_rfl) (fun _ _ _ h => h) (.inl ⟨rfl, fun _ => by go_simp; rfl⟩) ?_
        try simp only [Act.put, List.setIfInBounds_toArray, List.set_cons_succ, List.set_cons_zero]
        refine order_done (by kernel_rfl) ?_
        have HST := hide (eqTs_step HE.out HE'.out)
        cases hq : eqT t t' with
        | true =>
          have HQ := hide hq; clear hq
          go_wp2
          go_roundw
          case rel => exact ⟨k + 1, by omega, by go_num, HK3.out, by rw [HI.out.2, HST.out, HQ.out, Bool.true_and]⟩
          case measure => simp [intOf]; omega
        | false =>
          have HQ := hide hq; clear hq
          go_wp2
          go_ret
          refine ⟨?_, HK3.out⟩
          rw [HI.out.2, HST.out, HQ.out, Bool.false_and]; rfl
      · go_wp2
        go_ret
        refine ⟨?_, HI.out.1⟩
        have h3 := HLN.out; have h4 := HLN'.out; have h5 := HN.out
        rw [HI.out.2, List.drop_eq_nil_of_le (by omega), List.drop_eq_nil_of_le (by omega)]
        unfold eqTs; rfl
  · have hb : ((n : Int) != (n' : Int)) = true := by simp; omega
    have HE := hide (eqTs_len (ts := ts) (us := us) (by have := HLN.out; have := HLN'.out; omega))
    clear hne
    go_enter Try.func11, Try.ntmps11
    go_wp2
    go_ret
    exact ⟨by rw [HE.out]; rfl, Keeps.refl _ _⟩

theorem tm_same_term (t u : Tm) (w : World) (B B' : Nat → Prop) (F F' : Bool)
    (kd : Int) (ng : Bool) (la : Option Addr) (ln lc : Nat) (tx : ByteArray) (nm : Int) (ia : Option Addr) (im ic : Nat) (ta : Option Addr) (tn tc : Nat)
    (kd' : Int) (ng' : Bool) (la' : Option Addr) (ln' lc' : Nat) (tx' : ByteArray) (nm' : Int) (ia' : Option Addr) (im' ic' : Nat) (ta' : Option Addr) (tn' tc' : Nat)
    (ht : TermIn w B F [.int .u8 kd, .bool ng, .slice la ln lc, .string tx, .int .i64 nm, .slice ia im ic, .slice ta tn tc] t)
    (hu : TermIn w B' F' [.int .u8 kd', .bool ng', .slice la' ln' lc', .string tx', .int .i64 nm', .slice ia' im' ic', .slice ta' tn' tc'] u) :
    Calls Try.prog 17 #[.agg #[.int .u8 kd, .bool ng, .slice la ln lc, .string tx, .int .i64 nm, .slice ia im ic, .slice ta tn tc], .agg #[.int .u8 kd', .bool ng', .slice la' ln' lc', .string tx', .int .i64 nm', .slice ia' im' ic', .slice ta' tn' tc']] w (SamesPost w (eqT t u)) :=
  same_term_of t.size (hide (tm_same_terms _)) t u (Nat.le_succ _) w B B' F F' _ _ _ _ _ _ _ _ _ _ _ _ _ _ _ _ _ _ _ _ _ _ _ _ _ _ ht hu
mutual
theorem eqT_self : ∀ t : Tm, eqT t t = true
  | .mk k ng limbs tx nm items tail => by
    unfold eqT eqL
    simp [eqTs_self items, eqTs_self tail]
theorem eqTs_self : ∀ ts : List Tm, eqTs ts ts = true
  | [] => by unfold eqTs; rfl
  | t :: ts => by unfold eqTs; simp [eqT_self t, eqTs_self ts]
end

theorem tm_same_self (t : Tm) (w : World) (B B' : Nat → Prop) (F F' : Bool) (cs ds : List Value) (ht : TermIn w B F cs t) (hu : TermIn w B' F' ds t) :
    Calls Try.prog 17 #[.agg cs.toArray, .agg ds.toArray] w fun e w' => e = .returned (.bool true) ∧ Keeps NoB w w' := by
  obtain ⟨kd, ng, la, ln, lc, tx, nm, ia, im, ic, ta, tn, tc, rfl, _⟩ := ht.cells
  obtain ⟨kd', ng', la', ln', lc', tx', nm', ia', im', ic', ta', tn', tc', rfl, _⟩ := hu.cells
  have h := tm_same_term t t w B B' F F' _ _ _ _ _ _ _ _ _ _ _ _ _ _ _ _ _ _ _ _ _ _ _ _ _ _ ht hu
  rw [eqT_self] at h
  exact h

theorem tm_sames_self (ts : List Tm) (css dss : List (List Value)) (A A' : Option Addr) (n c n' c' : Nat) (w : World) (B B' : Nat → Prop) (F F' : Bool) (h1 : Reads w B F 7 A n css.flatten) (h2 : TermsIn w B F css ts) (h3 : Reads w B' F' 7 A' n' dss.flatten) (h4 : TermsIn w B' F' dss ts) (hr : Roomy n 104) :
    Calls Try.prog 11 #[.slice A n c, .slice A' n' c'] w fun e w' => e = .returned (.bool true) ∧ Keeps NoB w w' := by
  have h := tm_same_terms (Tm.size.sizes ts) ts ts (Nat.le_refl _) css dss A A' n c n' c' w B B' F F' h1 h2 h3 h4 hr
  rw [eqTs_self] at h
  exact h
end Go.Proofs.Ytdmldipnalklgaa
