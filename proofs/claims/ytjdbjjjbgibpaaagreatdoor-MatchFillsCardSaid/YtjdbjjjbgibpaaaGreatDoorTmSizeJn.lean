/- term.size, walked, and term.Right. -/
import Derived.Test.YtjdbjjjbgibpaaaGreatDoorTmAddJn
import Derived.Test.YtjdbjjjbgibpaaaGreatDoorSeq3Jn
import Derived.Deep.CutRange
import Derived.Deep.CutBlock
import Derived.Deep.DeepCutAuto
namespace Go.Proofs.YtjdbjjjbgibpaaaGreatDoor
open Go.RowKit

theorem head2 (ng : Bool) (limbs : List Int) (tx : ByteArray) (nm : Int) (items tail : List Tm) :
    headT 2 ng limbs tx nm items tail = (bareB ng limbs.length tx nm items.length tail.length true false false false && decide (tx.size ≤ 40)) := by
  rw [Bool.eq_iff_iff]; simp [headT, bareB]; grind
theorem head35 (k : Int) (hk : k = 3 ∨ k = 5) (ng : Bool) (limbs : List Int) (tx : ByteArray) (nm : Int) (items tail : List Tm) :
    headT k ng limbs tx nm items tail = (bareB ng limbs.length tx nm items.length tail.length false true false false && (decide (0 ≤ nm) && decide (nm ≤ 1099511627776))) := by
  rw [Bool.eq_iff_iff]; rcases hk with rfl | rfl <;> (simp [headT, bareB]; grind)
theorem head4 (ng : Bool) (limbs : List Int) (tx : ByteArray) (nm : Int) (items tail : List Tm) :
    headT 4 ng limbs tx nm items tail = (bareB ng limbs.length tx nm items.length tail.length false true true false && (decide (0 ≤ nm) && decide (nm ≤ 16384))) := by
  rw [Bool.eq_iff_iff]; simp [headT, bareB]; grind
theorem head6 (ng : Bool) (limbs : List Int) (tx : ByteArray) (nm : Int) (items tail : List Tm) :
    headT 6 ng limbs tx nm items tail = bareB ng limbs.length tx nm items.length tail.length false false true false := by
  rw [Bool.eq_iff_iff]; simp [headT, bareB]; grind
theorem head7 (ng : Bool) (limbs : List Int) (tx : ByteArray) (nm : Int) (items tail : List Tm) :
    headT 7 ng limbs tx nm items tail = ((bareB ng limbs.length tx nm items.length tail.length false false true true && decide (tail.length ≤ min 1 items.length)) && tail.all (fun x => decide (x.kind ≠ 7))) := by
  rw [Bool.eq_iff_iff]; simp [headT, bareB]; grind
theorem head0 (k : Int) (h : k ≠ 2 ∧ k ≠ 3 ∧ k ≠ 4 ∧ k ≠ 5 ∧ k ≠ 6 ∧ k ≠ 7) (ng : Bool) (limbs : List Int) (tx : ByteArray) (nm : Int) (items tail : List Tm) :
    headT k ng limbs tx nm items tail = false := by
  obtain ⟨h2, h3, h4, h5, h6, h7⟩ := h
  unfold headT; simp [h2, h3, h4, h5, h6, h7]
theorem size_of_adds {kd : Int} (hk : kd ≠ 1) {ng : Bool} {limbs : List Int} {tx : ByteArray} {nm : Int} {items tail : List Tm} {h f f' : Bool} {N N' : Int} (hh : headT kd ng limbs tx nm items tail = h)
    (h1 : addS h (baseT kd) (eachT kd) items = addS f N (eachT kd) []) (h2 : addS f N 0 tail = addS f' N' 0 []) :
    sizeT (.mk kd ng limbs tx nm items tail) = if f' = true then N' else 0 := by
  unfold sizeT
  rw [if_neg hk, hh]
  cases h with
  | false =>
    cases f with
    | true => simp [addS, addT] at h1
    | false =>
      cases f' with
      | true => simp [addS, addT] at h2
      | false => simp
  | true =>
    have e1 : addT (baseT kd) (eachT kd) items = addS f N (eachT kd) [] := by rw [← h1]; unfold addS; simp
    rw [if_pos rfl, e1]
    cases f with
    | false =>
      cases f' with
      | true => simp [addS, addT] at h2
      | false => simp [addS]
    | true =>
      have e2 : addT N 0 tail = addS f' N' 0 [] := by rw [← h2]; unfold addS; simp
      have e3 : addS true N (eachT kd) [] = some N := by simp [addS, addT]
      rw [e3]; simp only
      rw [e2]
      cases f' <;> simp [addS, addT]
/-- Where the kinds meet. -/
def MidAt (w1 : World) (gb gn gf : Nat) (cs : Array Value) (k : Int) (h : Bool) (w : World) : Prop :=
  Keeps (GF gf gn) w1 w ∧ Blk w gb 26 cs ∧ Blk w gn 3 #[.int .i64 (baseT k)] ∧ Blk w gf 4 #[.bool h]

def isNo7 (t : Tm) : Bool := decide (t.kind ≠ 7)
/-- Behind so many of the tail. -/
def KindAt (w1 : World) (gb gn gf : Nat) (cs : Array Value) (f : Bool) (w : World) : Prop :=
  Keeps (GF gf gn) w1 w ∧ Blk w gb 26 cs ∧ Blk w gn 3 #[.int .i64 1] ∧ Blk w gf 4 #[.bool f]
theorem TermIn.kindOf {w : World} {B : Nat → Prop} {F : Bool} {kd : Int} {cs : List Value} {t : Tm} (h : TermIn w B F (.int .u8 kd :: cs) t) : t.kind = kd := by
  cases t
  unfold TermIn at h
  obtain ⟨_, _, _, _, _, _, _, _, _, css, dss, e, _⟩ := h
  simp only [List.cons.injEq, Value.int.injEq, true_and] at e
  exact e.1.symm

set_option maxRecDepth 100000 in
set_option maxHeartbeats 2000000 in
theorem tm_size (M : Nat) : SizeSaid M := by
  induction M using Nat.strongRecOn with
  | ind M IH =>
  intro t hM w B F kd ng la ln lc tx nm ia im ic ta tn tc ht
  obtain ⟨limbs, items, tail, css, dss, rfl, hroom, hrl, hri, hti, hrt, htt⟩ : ∃ limbs items tail css dss, t = .mk kd ng limbs tx nm items tail ∧ (Roomy ln 4 ∧ Roomy im 104 ∧ Roomy tn 104) ∧ Reads w B F 1 la ln (limbs.map (Value.int .u32)) ∧ Reads w B F 7 ia im (List.flatten css) ∧ TermsIn w B F css items ∧ Reads w B F 7 ta tn (List.flatten dss) ∧ TermsIn w B F dss tail := by
    cases t
    unfold TermIn at ht
    obtain ⟨_, _, _, _, _, _, _, _, _, css, dss, e, hb, h1, h2, h3, h4, h5⟩ := ht
    simp only [List.cons.injEq, Value.int.injEq, Value.bool.injEq, Value.slice.injEq, Value.string.injEq, true_and, and_true] at e
    obtain ⟨rfl, rfl, ⟨rfl, rfl, rfl⟩, rfl, rfl, ⟨rfl, rfl, rfl⟩, rfl, rfl, rfl⟩ := e
    exact ⟨_, _, _, css, dss, rfl, ⟨hb.1.1, hb.2.1.1, hb.2.2.1⟩, h1, h2, h3, h4, h5⟩
  have hsz : Tm.size.sizes items < M ∧ Tm.size.sizes tail < M := by
    have := hM; simp only [Tm.size] at this; omega
  have hlens : limbs.length = ln ∧ items.length = im ∧ tail.length = tn := by
    have h1 := hrl.1; have h2 := hri.1; have h3 := hrt.1
    rw [flat_len hti.lens.2, hti.lens.1] at h2
    rw [flat_len htt.lens.2, htt.lens.1] at h3
    simp only [List.length_map] at h1
    omega
  clear ht hM
  have HRL := hide hrl; have HRI := hide hri; have HTI := hide hti; have HRT := hide hrt; have HTT := hide htt; have HRO := hide hroom; have HSZ := hide hsz; have HIH := hide IH; have HLEN := hide hlens
  clear hrl hri hti hrt htt hroom hsz IH hlens
  go_enter Tryz.func24, Tryz.ntmps24
  go_upto_block 0 with fail
  have HK1 : Hid (Keeps NoB w (((w.alloc (.cells #[.int .u8 kd, .bool ng, .slice la ln lc, .string tx, .int .i64 nm, .slice ia im ic, .slice ta tn tc] 26)).alloc (.cells #[.int .i64 1] 3)).alloc (.cells #[.bool false] 4))) := hide ((((Keeps.refl NoB w).alloc _).alloc _).alloc _)
  have HT1 : Hid (Blk (((w.alloc (.cells #[.int .u8 kd, .bool ng, .slice la ln lc, .string tx, .int .i64 nm, .slice ia im ic, .slice ta tn tc] 26)).alloc (.cells #[.int .i64 1] 3)).alloc (.cells #[.bool false] 4)) w.heap.size 26 #[.int .u8 kd, .bool ng, .slice la ln lc, .string tx, .int .i64 nm, .slice ia im ic, .slice ta tn tc]) := hide (((Blk.new w _ _).alloc _).alloc _)
  have HN1 : Hid (Blk (((w.alloc (.cells #[.int .u8 kd, .bool ng, .slice la ln lc, .string tx, .int .i64 nm, .slice ia im ic, .slice ta tn tc] 26)).alloc (.cells #[.int .i64 1] 3)).alloc (.cells #[.bool false] 4)) (w.heap.size + 1) 3 #[.int .i64 1]) := hide ((Blk.new2 w _ _ _).alloc _)
  have HF1 : Hid (Blk (((w.alloc (.cells #[.int .u8 kd, .bool ng, .slice la ln lc, .string tx, .int .i64 nm, .slice ia im ic, .slice ta tn tc] 26)).alloc (.cells #[.int .i64 1] 3)).alloc (.cells #[.bool false] 4)) (w.heap.size + 1 + 1) 4 #[.bool false]) := hide (by
    have h := Blk.new2 (w.alloc (.cells #[.int .u8 kd, .bool ng, .slice la ln lc, .string tx, .int .i64 nm, .slice ia im ic, .slice ta tn tc] 26)) (.cells #[.int .i64 1] 3) 4 #[.bool false]
    have e : (w.alloc (.cells #[.int .u8 kd, .bool ng, .slice la ln lc, .string tx, .int .i64 nm, .slice ia im ic, .slice ta tn tc] 26)).heap.size = w.heap.size + 1 := by unfold World.alloc; exact Array.size_push ..
    rw [e] at h; exact h)
  have HG : Hid (w.heap.size ≤ w.heap.size ∧ w.heap.size < w.heap.size + 1 ∧ w.heap.size + 1 < w.heap.size + 1 + 1) := hide (by omega)
  have HRI2 := hide (HRI.out.more (B' := fun k => k < w.heap.size) (fun k h _ => h))
  have HRT2 := hide (HRT.out.more (B' := fun k => k < w.heap.size) (fun k h _ => h))
  have HTI2 := hide (TermsIn.more (B' := fun k => k < w.heap.size) (fun k h _ => h) _ _ HTI.out)
  have HTT2 := hide (TermsIn.more (B' := fun k => k < w.heap.size) (fun k h _ => h) _ _ HTT.out)
  generalize (((w.alloc (.cells #[.int .u8 kd, .bool ng, .slice la ln lc, .string tx, .int .i64 nm, .slice ia im ic, .slice ta tn tc] 26)).alloc (.cells #[.int .i64 1] 3)).alloc (.cells #[.bool false] 4)) = w1 at *
  generalize w.heap.size + 1 + 1 = gf at *
  generalize w.heap.size + 1 = gn at *
  generalize hgb : w.heap.size = gb at HT1 HG ⊢
  have HGB := hide hgb; clear hgb
  generalize hh : headT kd ng limbs tx nm items tail = h
  have HH := hide hh; clear hh
  go_cut [4] (fun v4 wx => v4 = .int .i64 (eachT kd) ∧ kd ≠ 1 ∧ MidAt w1 gb gn gf #[.int .u8 kd, .bool ng, .slice la ln lc, .string tx, .int .i64 nm, .slice ia im ic, .slice ta tn tc] kd h wx)
  case first =>
    have hgbf : gb ≠ gf := by have := HG.out; omega
    have hgbn : gb ≠ gn := by have := HG.out; omega
    have hgnf : gn ≠ gf := by have := HG.out; omega
    have hgfn : gf ≠ gn := by have := HG.out; omega
    have p0 := HT1.out.cell 0
    have p1 := HT1.out.cell 1
    have p2 := HT1.out.cell 2
    have p3 := HT1.out.cell 3
    have p4 := HT1.out.cell 4
    have p5 := HT1.out.cell 5
    have p6 := HT1.out.cell 6
    by_cases h1 : kd = 1
    · subst h1
      cases hb : intT 1 ng limbs tx nm im tn with
      | true =>
        have HB := hide hb
        have hln : ln ≤ 32 := by
          unfold intT at hb
          simp only [Bool.and_eq_true, decide_eq_true_eq] at hb
          have := hb.1.2; have := HLEN.out.1; omega
        have hw : wrap64 (1 + (ln : Int)) = 1 + (ln : Int) := by unfold wrap64; omega
        clear hb
        go_wp2_with
          first
          | (go_at_call 37
             refine (wright_any 1 nm ng la ia ta ln lc im ic tn tc tx limbs _ B F (HRL.out.keep HK1.out (fun _ _ => id)) HRO.out).mono ?_
             rintro x w4 ⟨rfl, hk4⟩
             rw [HB.out]
             clear p0 p1 p2 p3 p4 p5 p6
             have HK4 := hide (HK1.out.trans' hk4 (fun _ _ => id) (fun _ _ => id) : Keeps NoB w w4)
             have p2 := (HT1.out.keep hk4 id).cell 2
             clear hk4)
          | fail
        go_ret
        refine ⟨?_, HK4.out⟩
        unfold sizeT
        rw [if_pos rfl, HLEN.out.2.1, HLEN.out.2.2, HB.out, if_pos rfl, HLEN.out.1]
        rfl
      | false =>
        have HB := hide hb
        clear hb
        go_wp2_with
          first
          | (go_at_call 37
             refine (wright_any 1 nm ng la ia ta ln lc im ic tn tc tx limbs _ B F (HRL.out.keep HK1.out (fun _ _ => id)) HRO.out).mono ?_
             rintro x w4 ⟨rfl, hk4⟩
             rw [HB.out]
             have HK4 := hide (HK1.out.trans' hk4 (fun _ _ => id) (fun _ _ => id) : Keeps NoB w w4)
             clear hk4)
          | fail
        go_ret
        refine ⟨?_, HK4.out⟩
        unfold sizeT
        rw [if_pos rfl, HLEN.out.2.1, HLEN.out.2.2, HB.out, if_neg (by simp)]
        rfl
    · by_cases h2 : kd = 2
      · subst h2
        cases hb : bareB ng ln tx nm im tn true false false false with
        | false =>
          have HB := hide hb; clear hb
          obtain rfl : h = false := by rw [← HH.out, head2, HLEN.out.1, HLEN.out.2.1, HLEN.out.2.2, HB.out, Bool.false_and]
          go_wp2_with
            first
            | (go_at_call 38
               refine (bare_tfff 2 nm ng la ia ta ln lc im ic tn tc tx _).mono ?_
               rintro x w4 ⟨rfl, hk4⟩
               rw [HB.out]
               clear p0 p1 p2 p3 p4 p5 p6
               have HK4 := hide hk4
               have HT4 : Hid (Blk w4 gb 26 #[.int .u8 2, .bool ng, .slice la ln lc, .string tx, .int .i64 nm, .slice ia im ic, .slice ta tn tc]) := hide (HT1.out.keep hk4 id); have HN4 := hide (HN1.out.keep hk4 id); have HF4 := hide (HF1.out.keep hk4 id)
               have p3 := HT4.out.cell 3
               have p4 := HT4.out.cell 4
               have qf : w4.frozen? ⟨gf, 0, none⟩ = false := HF4.out.free 0
               have pf := HF4.out.cell 0
               clear hk4)
            | fail
          go_meet
          exact ⟨by simp [eachT], by omega, (HK4.out.mono (fun _ _ h => h.elim)).setCell (p := ⟨gf, 0, none⟩) (Or.inl (Or.inl rfl)) _, HT4.out.far (p := ⟨gf, 0, none⟩) hgbf _, (by rw [show baseT 2 = 1 from rfl]; exact HN4.out.far (p := ⟨gf, 0, none⟩) hgnf _), HF4.out.put 0 _⟩
        | true =>
          have HB := hide hb; clear hb
          by_cases hc : tx.size ≤ 40
          · obtain rfl : h = true := by rw [← HH.out, head2, HLEN.out.1, HLEN.out.2.1, HLEN.out.2.2, HB.out]; simp [hc]
            have c1 : decide ((tx.size : Int) ≤ 40) = true := by simp; omega
            clear hc
            go_wp2_with
              first
              | (go_at_call 38
                 refine (bare_tfff 2 nm ng la ia ta ln lc im ic tn tc tx _).mono ?_
                 rintro x w4 ⟨rfl, hk4⟩
                 rw [HB.out]
                 clear p0 p1 p2 p3 p4 p5 p6
                 have HK4 := hide hk4
                 have HT4 : Hid (Blk w4 gb 26 #[.int .u8 2, .bool ng, .slice la ln lc, .string tx, .int .i64 nm, .slice ia im ic, .slice ta tn tc]) := hide (HT1.out.keep hk4 id); have HN4 := hide (HN1.out.keep hk4 id); have HF4 := hide (HF1.out.keep hk4 id)
                 have p3 := HT4.out.cell 3
                 have p4 := HT4.out.cell 4
                 have qf : w4.frozen? ⟨gf, 0, none⟩ = false := HF4.out.free 0
                 have pf := HF4.out.cell 0
                 clear hk4)
              | fail
            go_meet
            exact ⟨by simp [eachT], by omega, (HK4.out.mono (fun _ _ h => h.elim)).setCell (p := ⟨gf, 0, none⟩) (Or.inl (Or.inl rfl)) _, HT4.out.far (p := ⟨gf, 0, none⟩) hgbf _, (by rw [show baseT 2 = 1 from rfl]; exact HN4.out.far (p := ⟨gf, 0, none⟩) hgnf _), HF4.out.put 0 _⟩
          · obtain rfl : h = false := by rw [← HH.out, head2, HLEN.out.1, HLEN.out.2.1, HLEN.out.2.2, HB.out]; simp [hc]
            have c1 : decide ((tx.size : Int) ≤ 40) = false := by simp; omega
            clear hc
            go_wp2_with
              first
              | (go_at_call 38
                 refine (bare_tfff 2 nm ng la ia ta ln lc im ic tn tc tx _).mono ?_
                 rintro x w4 ⟨rfl, hk4⟩
                 rw [HB.out]
                 clear p0 p1 p2 p3 p4 p5 p6
                 have HK4 := hide hk4
                 have HT4 : Hid (Blk w4 gb 26 #[.int .u8 2, .bool ng, .slice la ln lc, .string tx, .int .i64 nm, .slice ia im ic, .slice ta tn tc]) := hide (HT1.out.keep hk4 id); have HN4 := hide (HN1.out.keep hk4 id); have HF4 := hide (HF1.out.keep hk4 id)
                 have p3 := HT4.out.cell 3
                 have p4 := HT4.out.cell 4
                 have qf : w4.frozen? ⟨gf, 0, none⟩ = false := HF4.out.free 0
                 have pf := HF4.out.cell 0
                 clear hk4)
              | fail
            go_meet
            exact ⟨by simp [eachT], by omega, (HK4.out.mono (fun _ _ h => h.elim)).setCell (p := ⟨gf, 0, none⟩) (Or.inl (Or.inl rfl)) _, HT4.out.far (p := ⟨gf, 0, none⟩) hgbf _, (by rw [show baseT 2 = 1 from rfl]; exact HN4.out.far (p := ⟨gf, 0, none⟩) hgnf _), HF4.out.put 0 _⟩
      · by_cases h6 : kd = 6
        · subst h6
          cases hb : bareB ng ln tx nm im tn false false true false with
          | false =>
            have HB := hide hb; clear hb
            obtain rfl : h = false := by rw [← HH.out, head6, HLEN.out.1, HLEN.out.2.1, HLEN.out.2.2, HB.out]
            go_wp2_with
              first
              | (go_at_call 38
                 refine (bare_fftf 6 nm ng la ia ta ln lc im ic tn tc tx _).mono ?_
                 rintro x w4 ⟨rfl, hk4⟩
                 rw [HB.out]
                 clear p0 p1 p2 p3 p4 p5 p6
                 have HK4 := hide hk4
                 have HT4 : Hid (Blk w4 gb 26 #[.int .u8 6, .bool ng, .slice la ln lc, .string tx, .int .i64 nm, .slice ia im ic, .slice ta tn tc]) := hide (HT1.out.keep hk4 id); have HN4 := hide (HN1.out.keep hk4 id); have HF4 := hide (HF1.out.keep hk4 id)
                 have p3 := HT4.out.cell 3
                 have p4 := HT4.out.cell 4
                 have qf : w4.frozen? ⟨gf, 0, none⟩ = false := HF4.out.free 0
                 have pf := HF4.out.cell 0
                 clear hk4)
              | fail
            go_meet
            exact ⟨by simp [eachT], by omega, (HK4.out.mono (fun _ _ h => h.elim)).setCell (p := ⟨gf, 0, none⟩) (Or.inl (Or.inl rfl)) _, HT4.out.far (p := ⟨gf, 0, none⟩) hgbf _, (by rw [show baseT 6 = 1 from rfl]; exact HN4.out.far (p := ⟨gf, 0, none⟩) hgnf _), HF4.out.put 0 _⟩
          | true =>
            have HB := hide hb; clear hb
            obtain rfl : h = true := by rw [← HH.out, head6, HLEN.out.1, HLEN.out.2.1, HLEN.out.2.2, HB.out]
            go_wp2_with
              first
              | (go_at_call 38
                 refine (bare_fftf 6 nm ng la ia ta ln lc im ic tn tc tx _).mono ?_
                 rintro x w4 ⟨rfl, hk4⟩
                 rw [HB.out]
                 clear p0 p1 p2 p3 p4 p5 p6
                 have HK4 := hide hk4
                 have HT4 : Hid (Blk w4 gb 26 #[.int .u8 6, .bool ng, .slice la ln lc, .string tx, .int .i64 nm, .slice ia im ic, .slice ta tn tc]) := hide (HT1.out.keep hk4 id); have HN4 := hide (HN1.out.keep hk4 id); have HF4 := hide (HF1.out.keep hk4 id)
                 have p3 := HT4.out.cell 3
                 have p4 := HT4.out.cell 4
                 have qf : w4.frozen? ⟨gf, 0, none⟩ = false := HF4.out.free 0
                 have pf := HF4.out.cell 0
                 clear hk4)
              | fail
            go_meet
            exact ⟨by simp [eachT], by omega, (HK4.out.mono (fun _ _ h => h.elim)).setCell (p := ⟨gf, 0, none⟩) (Or.inl (Or.inl rfl)) _, HT4.out.far (p := ⟨gf, 0, none⟩) hgbf _, (by rw [show baseT 6 = 1 from rfl]; exact HN4.out.far (p := ⟨gf, 0, none⟩) hgnf _), HF4.out.put 0 _⟩
        · by_cases h35 : kd = 3 ∨ kd = 5
          · skip
            rcases h35 with rfl | rfl
            · skip
              cases hb : bareB ng ln tx nm im tn false true false false with
              | false =>
                have HB := hide hb; clear hb
                obtain rfl : h = false := by rw [← HH.out, head35 3 (.inl rfl), HLEN.out.1, HLEN.out.2.1, HLEN.out.2.2, HB.out, Bool.false_and]
                go_wp2_with
                  first
                  | (go_at_call 38
                     refine (bare_ftff 3 nm ng la ia ta ln lc im ic tn tc tx _).mono ?_
                     rintro x w4 ⟨rfl, hk4⟩
                     rw [HB.out]
                     clear p0 p1 p2 p3 p4 p5 p6
                     have HK4 := hide hk4
                     have HT4 : Hid (Blk w4 gb 26 #[.int .u8 3, .bool ng, .slice la ln lc, .string tx, .int .i64 nm, .slice ia im ic, .slice ta tn tc]) := hide (HT1.out.keep hk4 id); have HN4 := hide (HN1.out.keep hk4 id); have HF4 := hide (HF1.out.keep hk4 id)
                     have p3 := HT4.out.cell 3
                     have p4 := HT4.out.cell 4
                     have qf : w4.frozen? ⟨gf, 0, none⟩ = false := HF4.out.free 0
                     have pf := HF4.out.cell 0
                     clear hk4)
                  | fail
                go_meet
                exact ⟨by simp [eachT], by omega, (HK4.out.mono (fun _ _ h => h.elim)).setCell (p := ⟨gf, 0, none⟩) (Or.inl (Or.inl rfl)) _, HT4.out.far (p := ⟨gf, 0, none⟩) hgbf _, (by rw [show baseT 3 = 1 from rfl]; exact HN4.out.far (p := ⟨gf, 0, none⟩) hgnf _), HF4.out.put 0 _⟩
              | true =>
                have HB := hide hb; clear hb
                by_cases hc : 0 ≤ nm
                · have c1 : decide (0 ≤ nm) = true := by simp; omega
                  by_cases hc2 : nm ≤ 1099511627776
                  · obtain rfl : h = true := by rw [← HH.out, head35 3 (.inl rfl), HLEN.out.1, HLEN.out.2.1, HLEN.out.2.2, HB.out]; simp [hc, hc2]
                    have c2 : decide (nm ≤ 1099511627776) = true := by simp; omega
                    clear hc hc2
                    go_wp2_with
                      first
                      | (go_at_call 38
                         refine (bare_ftff 3 nm ng la ia ta ln lc im ic tn tc tx _).mono ?_
                         rintro x w4 ⟨rfl, hk4⟩
                         rw [HB.out]
                         clear p0 p1 p2 p3 p4 p5 p6
                         have HK4 := hide hk4
                         have HT4 : Hid (Blk w4 gb 26 #[.int .u8 3, .bool ng, .slice la ln lc, .string tx, .int .i64 nm, .slice ia im ic, .slice ta tn tc]) := hide (HT1.out.keep hk4 id); have HN4 := hide (HN1.out.keep hk4 id); have HF4 := hide (HF1.out.keep hk4 id)
                         have p3 := HT4.out.cell 3
                         have p4 := HT4.out.cell 4
                         have qf : w4.frozen? ⟨gf, 0, none⟩ = false := HF4.out.free 0
                         have pf := HF4.out.cell 0
                         clear hk4)
                      | fail
                    go_meet
                    exact ⟨by simp [eachT], by omega, (HK4.out.mono (fun _ _ h => h.elim)).setCell (p := ⟨gf, 0, none⟩) (Or.inl (Or.inl rfl)) _, HT4.out.far (p := ⟨gf, 0, none⟩) hgbf _, (by rw [show baseT 3 = 1 from rfl]; exact HN4.out.far (p := ⟨gf, 0, none⟩) hgnf _), HF4.out.put 0 _⟩
                  · obtain rfl : h = false := by rw [← HH.out, head35 3 (.inl rfl), HLEN.out.1, HLEN.out.2.1, HLEN.out.2.2, HB.out]; simp [hc2]
                    have c2 : decide (nm ≤ 1099511627776) = false := by simp; omega
                    clear hc hc2
                    go_wp2_with
                      first
                      | (go_at_call 38
                         refine (bare_ftff 3 nm ng la ia ta ln lc im ic tn tc tx _).mono ?_
                         rintro x w4 ⟨rfl, hk4⟩
                         rw [HB.out]
                         clear p0 p1 p2 p3 p4 p5 p6
                         have HK4 := hide hk4
                         have HT4 : Hid (Blk w4 gb 26 #[.int .u8 3, .bool ng, .slice la ln lc, .string tx, .int .i64 nm, .slice ia im ic, .slice ta tn tc]) := hide (HT1.out.keep hk4 id); have HN4 := hide (HN1.out.keep hk4 id); have HF4 := hide (HF1.out.keep hk4 id)
                         have p3 := HT4.out.cell 3
                         have p4 := HT4.out.cell 4
                         have qf : w4.frozen? ⟨gf, 0, none⟩ = false := HF4.out.free 0
                         have pf := HF4.out.cell 0
                         clear hk4)
                      | fail
                    go_meet
                    exact ⟨by simp [eachT], by omega, (HK4.out.mono (fun _ _ h => h.elim)).setCell (p := ⟨gf, 0, none⟩) (Or.inl (Or.inl rfl)) _, HT4.out.far (p := ⟨gf, 0, none⟩) hgbf _, (by rw [show baseT 3 = 1 from rfl]; exact HN4.out.far (p := ⟨gf, 0, none⟩) hgnf _), HF4.out.put 0 _⟩
                · obtain rfl : h = false := by rw [← HH.out, head35 3 (.inl rfl), HLEN.out.1, HLEN.out.2.1, HLEN.out.2.2, HB.out]; simp [hc]
                  have c1 : decide (0 ≤ nm) = false := by simp; omega
                  clear hc
                  go_wp2_with
                    first
                    | (go_at_call 38
                       refine (bare_ftff 3 nm ng la ia ta ln lc im ic tn tc tx _).mono ?_
                       rintro x w4 ⟨rfl, hk4⟩
                       rw [HB.out]
                       clear p0 p1 p2 p3 p4 p5 p6
                       have HK4 := hide hk4
                       have HT4 : Hid (Blk w4 gb 26 #[.int .u8 3, .bool ng, .slice la ln lc, .string tx, .int .i64 nm, .slice ia im ic, .slice ta tn tc]) := hide (HT1.out.keep hk4 id); have HN4 := hide (HN1.out.keep hk4 id); have HF4 := hide (HF1.out.keep hk4 id)
                       have p3 := HT4.out.cell 3
                       have p4 := HT4.out.cell 4
                       have qf : w4.frozen? ⟨gf, 0, none⟩ = false := HF4.out.free 0
                       have pf := HF4.out.cell 0
                       clear hk4)
                    | fail
                  go_meet
                  exact ⟨by simp [eachT], by omega, (HK4.out.mono (fun _ _ h => h.elim)).setCell (p := ⟨gf, 0, none⟩) (Or.inl (Or.inl rfl)) _, HT4.out.far (p := ⟨gf, 0, none⟩) hgbf _, (by rw [show baseT 3 = 1 from rfl]; exact HN4.out.far (p := ⟨gf, 0, none⟩) hgnf _), HF4.out.put 0 _⟩
            · skip
              cases hb : bareB ng ln tx nm im tn false true false false with
              | false =>
                have HB := hide hb; clear hb
                obtain rfl : h = false := by rw [← HH.out, head35 5 (.inr rfl), HLEN.out.1, HLEN.out.2.1, HLEN.out.2.2, HB.out, Bool.false_and]
                go_wp2_with
                  first
                  | (go_at_call 38
                     refine (bare_ftff 5 nm ng la ia ta ln lc im ic tn tc tx _).mono ?_
                     rintro x w4 ⟨rfl, hk4⟩
                     rw [HB.out]
                     clear p0 p1 p2 p3 p4 p5 p6
                     have HK4 := hide hk4
                     have HT4 : Hid (Blk w4 gb 26 #[.int .u8 5, .bool ng, .slice la ln lc, .string tx, .int .i64 nm, .slice ia im ic, .slice ta tn tc]) := hide (HT1.out.keep hk4 id); have HN4 := hide (HN1.out.keep hk4 id); have HF4 := hide (HF1.out.keep hk4 id)
                     have p3 := HT4.out.cell 3
                     have p4 := HT4.out.cell 4
                     have qf : w4.frozen? ⟨gf, 0, none⟩ = false := HF4.out.free 0
                     have pf := HF4.out.cell 0
                     clear hk4)
                  | fail
                go_meet
                exact ⟨by simp [eachT], by omega, (HK4.out.mono (fun _ _ h => h.elim)).setCell (p := ⟨gf, 0, none⟩) (Or.inl (Or.inl rfl)) _, HT4.out.far (p := ⟨gf, 0, none⟩) hgbf _, (by rw [show baseT 5 = 1 from rfl]; exact HN4.out.far (p := ⟨gf, 0, none⟩) hgnf _), HF4.out.put 0 _⟩
              | true =>
                have HB := hide hb; clear hb
                by_cases hc : 0 ≤ nm
                · have c1 : decide (0 ≤ nm) = true := by simp; omega
                  by_cases hc2 : nm ≤ 1099511627776
                  · obtain rfl : h = true := by rw [← HH.out, head35 5 (.inr rfl), HLEN.out.1, HLEN.out.2.1, HLEN.out.2.2, HB.out]; simp [hc, hc2]
                    have c2 : decide (nm ≤ 1099511627776) = true := by simp; omega
                    clear hc hc2
                    go_wp2_with
                      first
                      | (go_at_call 38
                         refine (bare_ftff 5 nm ng la ia ta ln lc im ic tn tc tx _).mono ?_
                         rintro x w4 ⟨rfl, hk4⟩
                         rw [HB.out]
                         clear p0 p1 p2 p3 p4 p5 p6
                         have HK4 := hide hk4
                         have HT4 : Hid (Blk w4 gb 26 #[.int .u8 5, .bool ng, .slice la ln lc, .string tx, .int .i64 nm, .slice ia im ic, .slice ta tn tc]) := hide (HT1.out.keep hk4 id); have HN4 := hide (HN1.out.keep hk4 id); have HF4 := hide (HF1.out.keep hk4 id)
                         have p3 := HT4.out.cell 3
                         have p4 := HT4.out.cell 4
                         have qf : w4.frozen? ⟨gf, 0, none⟩ = false := HF4.out.free 0
                         have pf := HF4.out.cell 0
                         clear hk4)
                      | fail
                    go_meet
                    exact ⟨by simp [eachT], by omega, (HK4.out.mono (fun _ _ h => h.elim)).setCell (p := ⟨gf, 0, none⟩) (Or.inl (Or.inl rfl)) _, HT4.out.far (p := ⟨gf, 0, none⟩) hgbf _, (by rw [show baseT 5 = 1 from rfl]; exact HN4.out.far (p := ⟨gf, 0, none⟩) hgnf _), HF4.out.put 0 _⟩
                  · obtain rfl : h = false := by rw [← HH.out, head35 5 (.inr rfl), HLEN.out.1, HLEN.out.2.1, HLEN.out.2.2, HB.out]; simp [hc2]
                    have c2 : decide (nm ≤ 1099511627776) = false := by simp; omega
                    clear hc hc2
                    go_wp2_with
                      first
                      | (go_at_call 38
                         refine (bare_ftff 5 nm ng la ia ta ln lc im ic tn tc tx _).mono ?_
                         rintro x w4 ⟨rfl, hk4⟩
                         rw [HB.out]
                         clear p0 p1 p2 p3 p4 p5 p6
                         have HK4 := hide hk4
                         have HT4 : Hid (Blk w4 gb 26 #[.int .u8 5, .bool ng, .slice la ln lc, .string tx, .int .i64 nm, .slice ia im ic, .slice ta tn tc]) := hide (HT1.out.keep hk4 id); have HN4 := hide (HN1.out.keep hk4 id); have HF4 := hide (HF1.out.keep hk4 id)
                         have p3 := HT4.out.cell 3
                         have p4 := HT4.out.cell 4
                         have qf : w4.frozen? ⟨gf, 0, none⟩ = false := HF4.out.free 0
                         have pf := HF4.out.cell 0
                         clear hk4)
                      | fail
                    go_meet
                    exact ⟨by simp [eachT], by omega, (HK4.out.mono (fun _ _ h => h.elim)).setCell (p := ⟨gf, 0, none⟩) (Or.inl (Or.inl rfl)) _, HT4.out.far (p := ⟨gf, 0, none⟩) hgbf _, (by rw [show baseT 5 = 1 from rfl]; exact HN4.out.far (p := ⟨gf, 0, none⟩) hgnf _), HF4.out.put 0 _⟩
                · obtain rfl : h = false := by rw [← HH.out, head35 5 (.inr rfl), HLEN.out.1, HLEN.out.2.1, HLEN.out.2.2, HB.out]; simp [hc]
                  have c1 : decide (0 ≤ nm) = false := by simp; omega
                  clear hc
                  go_wp2_with
                    first
                    | (go_at_call 38
                       refine (bare_ftff 5 nm ng la ia ta ln lc im ic tn tc tx _).mono ?_
                       rintro x w4 ⟨rfl, hk4⟩
                       rw [HB.out]
                       clear p0 p1 p2 p3 p4 p5 p6
                       have HK4 := hide hk4
                       have HT4 : Hid (Blk w4 gb 26 #[.int .u8 5, .bool ng, .slice la ln lc, .string tx, .int .i64 nm, .slice ia im ic, .slice ta tn tc]) := hide (HT1.out.keep hk4 id); have HN4 := hide (HN1.out.keep hk4 id); have HF4 := hide (HF1.out.keep hk4 id)
                       have p3 := HT4.out.cell 3
                       have p4 := HT4.out.cell 4
                       have qf : w4.frozen? ⟨gf, 0, none⟩ = false := HF4.out.free 0
                       have pf := HF4.out.cell 0
                       clear hk4)
                    | fail
                  go_meet
                  exact ⟨by simp [eachT], by omega, (HK4.out.mono (fun _ _ h => h.elim)).setCell (p := ⟨gf, 0, none⟩) (Or.inl (Or.inl rfl)) _, HT4.out.far (p := ⟨gf, 0, none⟩) hgbf _, (by rw [show baseT 5 = 1 from rfl]; exact HN4.out.far (p := ⟨gf, 0, none⟩) hgnf _), HF4.out.put 0 _⟩
          · by_cases h4 : kd = 4
            · subst h4
              have HS : Blk w1.drew gb 26 #[.int .u8 4, .bool ng, .slice la ln lc, .string tx, .int .i64 nm, .slice ia im ic, .slice ta tn tc] := HT1.out
              have HKD : Hid (Keeps (GF gf gn) w1 w1.drew) := hide (Keeps.refl _ _).drew
              have HND : Hid (Blk w1.drew gn 3 #[.int .i64 1]) := hide HN1.out
              have HFD : Hid (Blk w1.drew gf 4 #[.bool false]) := hide HF1.out
              clear p0 p1 p2 p3 p4 p5 p6
              cases hb : bareB ng ln tx nm im tn false true true false with
              | false =>
                have HB := hide hb; clear hb
                obtain rfl : h = false := by rw [← HH.out, head4, HLEN.out.1, HLEN.out.2.1, HLEN.out.2.2, HB.out, Bool.false_and]
                go_wp2_with fail
                refine order_begin (fun W => Blk W gb 26 #[.int .u8 4, .bool ng, .slice la ln lc, .string tx, .int .i64 nm, .slice ia im ic, .slice ta tn tc]) (fun i => !(i == 13)) (by kernel_rfl) 14 rfl ?_
                generalize w1.drew = W0 at *
                refine order_held (i := 0) rfl (by kernel_rfl) (fun _ _ _ h => h) (.inl ⟨rfl, fun W hW => by
                  have q0 := hW.cell 0
                  have q1 := hW.cell 1
                  have q2 := hW.cell 2
                  have q3 := hW.cell 3
                  have q4 := hW.cell 4
                  have q5 := hW.cell 5
                  have q6 := hW.cell 6
                  go_simp; rfl⟩) HS ?_
                try simp only [Act.put, List.setIfInBounds_toArray, List.set_cons_succ, List.set_cons_zero]
                refine order_one (i := 1) rfl (by kernel_rfl) (fun K hK => ?_)
                go_simp
                refine (bare_fttf 4 nm ng la ia ta ln lc im ic tn tc tx W0).mono ?_
                rintro e w4 ⟨rfl, hk4⟩
                rw [HB.out]
                refine hK _ _ (fun _ hS => hS.keep hk4 id) ?_
                clear hK
                have HK4 : Hid (Keeps (GF gf gn) w1 w4) := hide (HKD.out.trans' hk4 (fun _ _ => id) (fun _ _ h => h.elim))
                have HT4 : Blk w4 gb 26 #[.int .u8 4, .bool ng, .slice la ln lc, .string tx, .int .i64 nm, .slice ia im ic, .slice ta tn tc] := HS.keep hk4 id
                have HN4 := hide (HND.out.keep hk4 id); have HF4 := hide (HFD.out.keep hk4 id)
                have qf : w4.frozen? ⟨gf, 0, none⟩ = false := HF4.out.free 0
                have pf := HF4.out.cell 0
                have qn : w4.frozen? ⟨gn, 0, none⟩ = false := HN4.out.free 0
                have pn := HN4.out.cell 0
                clear HS hk4
                have HS := HT4
                try simp only [Act.put, List.setIfInBounds_toArray, List.set_cons_succ, List.set_cons_zero]
                refine order_pure (i := 2) rfl (by kernel_rfl) (fun _ _ _ h => h) (.inl ⟨rfl, fun _ => by go_simp; rfl⟩) ?_
                try simp only [Act.put, List.setIfInBounds_toArray, List.set_cons_succ, List.set_cons_zero]
                refine order_skip (i := 3) rfl (by kernel_rfl) (fun _ _ _ h => h) (by kernel_rfl) ?_
                try simp only [Act.put, List.setIfInBounds_toArray, List.set_cons_succ, List.set_cons_zero]
                refine order_skip (i := 4) rfl (by kernel_rfl) (fun _ _ _ h => h) (by kernel_rfl) ?_
                try simp only [Act.put, List.setIfInBounds_toArray, List.set_cons_succ, List.set_cons_zero]
                refine order_skip (i := 5) rfl (by kernel_rfl) (fun _ _ _ h => h) (by kernel_rfl) ?_
                try simp only [Act.put, List.setIfInBounds_toArray, List.set_cons_succ, List.set_cons_zero]
                refine order_pure (i := 6) rfl (by kernel_rfl) (fun _ _ _ h => h) (.inl ⟨rfl, fun _ => by go_simp; rfl⟩) ?_
                try simp only [Act.put, List.setIfInBounds_toArray, List.set_cons_succ, List.set_cons_zero]
                refine order_pure (i := 7) rfl (by kernel_rfl) (fun _ _ _ h => h) (.inl ⟨rfl, fun _ => by go_simp; rfl⟩) ?_
                try simp only [Act.put, List.setIfInBounds_toArray, List.set_cons_succ, List.set_cons_zero]
                refine order_skip (i := 8) rfl (by kernel_rfl) (fun _ _ _ h => h) (by kernel_rfl) ?_
                try simp only [Act.put, List.setIfInBounds_toArray, List.set_cons_succ, List.set_cons_zero]
                refine order_skip (i := 9) rfl (by kernel_rfl) (fun _ _ _ h => h) (by kernel_rfl) ?_
                try simp only [Act.put, List.setIfInBounds_toArray, List.set_cons_succ, List.set_cons_zero]
                refine order_skip (i := 10) rfl (by kernel_rfl) (fun _ _ _ h => h) (by kernel_rfl) ?_
                try simp only [Act.put, List.setIfInBounds_toArray, List.set_cons_succ, List.set_cons_zero]
                refine order_pure (i := 11) rfl (by kernel_rfl) (fun _ _ _ h => h) (.inl ⟨rfl, fun _ => by go_simp; rfl⟩) ?_
                try simp only [Act.put, List.setIfInBounds_toArray, List.set_cons_succ, List.set_cons_zero]
                refine order_one (i := 12) rfl (by kernel_rfl) (fun K hK => ?_)
                go_simp
                refine hK _ _ (fun _ hS => hS.far (p := ⟨gn, 0, none⟩) hgbn _) ?_
                clear hK
                try simp only [Act.put, List.setIfInBounds_toArray, List.set_cons_succ, List.set_cons_zero]
                refine order_one (i := 13) rfl (by kernel_rfl) (fun K hK => ?_)
                go_simp
                refine hK _ _ (fun h => absurd h (by decide)) ?_
                clear hK
                try simp only [Act.put, List.setIfInBounds_toArray, List.set_cons_succ, List.set_cons_zero]
                refine order_done (by kernel_rfl) ?_
                go_wp2_with fail
                go_meet
                exact ⟨by simp [eachT], by omega, (HK4.out.setCell (p := ⟨gn, 0, none⟩) (Or.inl (Or.inr rfl)) _).setCell (p := ⟨gf, 0, none⟩) (Or.inl (Or.inl rfl)) _, (HT4.far (p := ⟨gn, 0, none⟩) hgbn _).far (p := ⟨gf, 0, none⟩) hgbf _, (by rw [show baseT 4 = 2 from rfl]; exact (HN4.out.put 0 _).far (p := ⟨gf, 0, none⟩) hgnf _), (HF4.out.far (p := ⟨gn, 0, none⟩) hgfn _).put 0 _⟩
              | true =>
                have HB := hide hb; clear hb
                by_cases hc : 0 ≤ nm
                · have c1 : decide (0 ≤ nm) = true := by simp; omega
                  by_cases hc2 : nm ≤ 16384
                  · obtain rfl : h = true := by rw [← HH.out, head4, HLEN.out.1, HLEN.out.2.1, HLEN.out.2.2, HB.out]; simp [hc, hc2]
                    have c2 : decide (nm ≤ 16384) = true := by simp; omega
                    clear hc hc2
                    go_wp2_with fail
                    refine order_begin (fun W => Blk W gb 26 #[.int .u8 4, .bool ng, .slice la ln lc, .string tx, .int .i64 nm, .slice ia im ic, .slice ta tn tc]) (fun i => !(i == 13)) (by kernel_rfl) 14 rfl ?_
                    generalize w1.drew = W0 at *
                    refine order_held (i := 0) rfl (by kernel_rfl) (fun _ _ _ h => h) (.inl ⟨rfl, fun W hW => by
                      have q0 := hW.cell 0
                      have q1 := hW.cell 1
                      have q2 := hW.cell 2
                      have q3 := hW.cell 3
                      have q4 := hW.cell 4
                      have q5 := hW.cell 5
                      have q6 := hW.cell 6
                      go_simp; rfl⟩) HS ?_
                    try simp only [Act.put, List.setIfInBounds_toArray, List.set_cons_succ, List.set_cons_zero]
                    refine order_one (i := 1) rfl (by kernel_rfl) (fun K hK => ?_)
                    go_simp
                    refine (bare_fttf 4 nm ng la ia ta ln lc im ic tn tc tx W0).mono ?_
                    rintro e w4 ⟨rfl, hk4⟩
                    rw [HB.out]
                    refine hK _ _ (fun _ hS => hS.keep hk4 id) ?_
                    clear hK
                    have HK4 : Hid (Keeps (GF gf gn) w1 w4) := hide (HKD.out.trans' hk4 (fun _ _ => id) (fun _ _ h => h.elim))
                    have HT4 : Blk w4 gb 26 #[.int .u8 4, .bool ng, .slice la ln lc, .string tx, .int .i64 nm, .slice ia im ic, .slice ta tn tc] := HS.keep hk4 id
                    have HN4 := hide (HND.out.keep hk4 id); have HF4 := hide (HFD.out.keep hk4 id)
                    have qf : w4.frozen? ⟨gf, 0, none⟩ = false := HF4.out.free 0
                    have pf := HF4.out.cell 0
                    have qn : w4.frozen? ⟨gn, 0, none⟩ = false := HN4.out.free 0
                    have pn := HN4.out.cell 0
                    clear HS hk4
                    have HS := HT4
                    try simp only [Act.put, List.setIfInBounds_toArray, List.set_cons_succ, List.set_cons_zero]
                    refine order_pure (i := 2) rfl (by kernel_rfl) (fun _ _ _ h => h) (.inl ⟨rfl, fun _ => by go_simp; rfl⟩) ?_
                    try simp only [Act.put, List.setIfInBounds_toArray, List.set_cons_succ, List.set_cons_zero]
                    refine order_pure (i := 3) rfl (by kernel_rfl) (fun _ _ _ h => h) (.inl ⟨rfl, fun _ => by go_simp; rfl⟩) ?_
                    try simp only [Act.put, List.setIfInBounds_toArray, List.set_cons_succ, List.set_cons_zero]
                    refine order_held (i := 4) rfl (by kernel_rfl) (fun _ _ _ h => h) (.inl ⟨rfl, fun W hW => by
                      have q0 := hW.cell 4
                      go_simp; rfl⟩) HS ?_
                    try simp only [Act.put, List.setIfInBounds_toArray, List.set_cons_succ, List.set_cons_zero]
                    refine order_pure (i := 5) rfl (by kernel_rfl) (fun _ _ _ h => h) (.inl ⟨rfl, fun _ => by go_simp; rfl⟩) ?_
                    try simp only [Act.put, List.setIfInBounds_toArray, List.set_cons_succ, List.set_cons_zero]
                    refine order_pure (i := 6) rfl (by kernel_rfl) (fun _ _ _ h => h) (.inl ⟨rfl, fun _ => by go_simp; rfl⟩) ?_
                    try simp only [Act.put, List.setIfInBounds_toArray, List.set_cons_succ, List.set_cons_zero]
                    refine order_pure (i := 7) rfl (by kernel_rfl) (fun _ _ _ h => h) (.inl ⟨rfl, fun _ => by go_simp; rfl⟩) ?_
                    try simp only [Act.put, List.setIfInBounds_toArray, List.set_cons_succ, List.set_cons_zero]
                    refine order_pure (i := 8) rfl (by kernel_rfl) (fun _ _ _ h => h) (.inl ⟨rfl, fun _ => by go_simp; rfl⟩) ?_
                    try simp only [Act.put, List.setIfInBounds_toArray, List.set_cons_succ, List.set_cons_zero]
                    refine order_held (i := 9) rfl (by kernel_rfl) (fun _ _ _ h => h) (.inl ⟨rfl, fun W hW => by
                      have q0 := hW.cell 4
                      go_simp; rfl⟩) HS ?_
                    try simp only [Act.put, List.setIfInBounds_toArray, List.set_cons_succ, List.set_cons_zero]
                    refine order_pure (i := 10) rfl (by kernel_rfl) (fun _ _ _ h => h) (.inl ⟨rfl, fun _ => by go_simp; rfl⟩) ?_
                    try simp only [Act.put, List.setIfInBounds_toArray, List.set_cons_succ, List.set_cons_zero]
                    refine order_pure (i := 11) rfl (by kernel_rfl) (fun _ _ _ h => h) (.inl ⟨rfl, fun _ => by go_simp; rfl⟩) ?_
                    try simp only [Act.put, List.setIfInBounds_toArray, List.set_cons_succ, List.set_cons_zero]
                    refine order_one (i := 12) rfl (by kernel_rfl) (fun K hK => ?_)
                    go_simp
                    refine hK _ _ (fun _ hS => hS.far (p := ⟨gn, 0, none⟩) hgbn _) ?_
                    clear hK
                    try simp only [Act.put, List.setIfInBounds_toArray, List.set_cons_succ, List.set_cons_zero]
                    refine order_one (i := 13) rfl (by kernel_rfl) (fun K hK => ?_)
                    go_simp
                    refine hK _ _ (fun h => absurd h (by decide)) ?_
                    clear hK
                    try simp only [Act.put, List.setIfInBounds_toArray, List.set_cons_succ, List.set_cons_zero]
                    refine order_done (by kernel_rfl) ?_
                    go_wp2_with fail
                    go_meet
                    exact ⟨by simp [eachT], by omega, (HK4.out.setCell (p := ⟨gn, 0, none⟩) (Or.inl (Or.inr rfl)) _).setCell (p := ⟨gf, 0, none⟩) (Or.inl (Or.inl rfl)) _, (HT4.far (p := ⟨gn, 0, none⟩) hgbn _).far (p := ⟨gf, 0, none⟩) hgbf _, (by rw [show baseT 4 = 2 from rfl]; exact (HN4.out.put 0 _).far (p := ⟨gf, 0, none⟩) hgnf _), (HF4.out.far (p := ⟨gn, 0, none⟩) hgfn _).put 0 _⟩
                  · obtain rfl : h = false := by rw [← HH.out, head4, HLEN.out.1, HLEN.out.2.1, HLEN.out.2.2, HB.out]; simp [hc2]
                    have c2 : decide (nm ≤ 16384) = false := by simp; omega
                    clear hc hc2
                    go_wp2_with fail
                    refine order_begin (fun W => Blk W gb 26 #[.int .u8 4, .bool ng, .slice la ln lc, .string tx, .int .i64 nm, .slice ia im ic, .slice ta tn tc]) (fun i => !(i == 13)) (by kernel_rfl) 14 rfl ?_
                    generalize w1.drew = W0 at *
                    refine order_held (i := 0) rfl (by kernel_rfl) (fun _ _ _ h => h) (.inl ⟨rfl, fun W hW => by
                      have q0 := hW.cell 0
                      have q1 := hW.cell 1
                      have q2 := hW.cell 2
                      have q3 := hW.cell 3
                      have q4 := hW.cell 4
                      have q5 := hW.cell 5
                      have q6 := hW.cell 6
                      go_simp; rfl⟩) HS ?_
                    try simp only [Act.put, List.setIfInBounds_toArray, List.set_cons_succ, List.set_cons_zero]
                    refine order_one (i := 1) rfl (by kernel_rfl) (fun K hK => ?_)
                    go_simp
                    refine (bare_fttf 4 nm ng la ia ta ln lc im ic tn tc tx W0).mono ?_
                    rintro e w4 ⟨rfl, hk4⟩
                    rw [HB.out]
                    refine hK _ _ (fun _ hS => hS.keep hk4 id) ?_
                    clear hK
                    have HK4 : Hid (Keeps (GF gf gn) w1 w4) := hide (HKD.out.trans' hk4 (fun _ _ => id) (fun _ _ h => h.elim))
                    have HT4 : Blk w4 gb 26 #[.int .u8 4, .bool ng, .slice la ln lc, .string tx, .int .i64 nm, .slice ia im ic, .slice ta tn tc] := HS.keep hk4 id
                    have HN4 := hide (HND.out.keep hk4 id); have HF4 := hide (HFD.out.keep hk4 id)
                    have qf : w4.frozen? ⟨gf, 0, none⟩ = false := HF4.out.free 0
                    have pf := HF4.out.cell 0
                    have qn : w4.frozen? ⟨gn, 0, none⟩ = false := HN4.out.free 0
                    have pn := HN4.out.cell 0
                    clear HS hk4
                    have HS := HT4
                    try simp only [Act.put, List.setIfInBounds_toArray, List.set_cons_succ, List.set_cons_zero]
                    refine order_pure (i := 2) rfl (by kernel_rfl) (fun _ _ _ h => h) (.inl ⟨rfl, fun _ => by go_simp; rfl⟩) ?_
                    try simp only [Act.put, List.setIfInBounds_toArray, List.set_cons_succ, List.set_cons_zero]
                    refine order_pure (i := 3) rfl (by kernel_rfl) (fun _ _ _ h => h) (.inl ⟨rfl, fun _ => by go_simp; rfl⟩) ?_
                    try simp only [Act.put, List.setIfInBounds_toArray, List.set_cons_succ, List.set_cons_zero]
                    refine order_held (i := 4) rfl (by kernel_rfl) (fun _ _ _ h => h) (.inl ⟨rfl, fun W hW => by
                      have q0 := hW.cell 4
                      go_simp; rfl⟩) HS ?_
                    try simp only [Act.put, List.setIfInBounds_toArray, List.set_cons_succ, List.set_cons_zero]
                    refine order_pure (i := 5) rfl (by kernel_rfl) (fun _ _ _ h => h) (.inl ⟨rfl, fun _ => by go_simp; rfl⟩) ?_
                    try simp only [Act.put, List.setIfInBounds_toArray, List.set_cons_succ, List.set_cons_zero]
                    refine order_pure (i := 6) rfl (by kernel_rfl) (fun _ _ _ h => h) (.inl ⟨rfl, fun _ => by go_simp; rfl⟩) ?_
                    try simp only [Act.put, List.setIfInBounds_toArray, List.set_cons_succ, List.set_cons_zero]
                    refine order_pure (i := 7) rfl (by kernel_rfl) (fun _ _ _ h => h) (.inl ⟨rfl, fun _ => by go_simp; rfl⟩) ?_
                    try simp only [Act.put, List.setIfInBounds_toArray, List.set_cons_succ, List.set_cons_zero]
                    refine order_pure (i := 8) rfl (by kernel_rfl) (fun _ _ _ h => h) (.inl ⟨rfl, fun _ => by go_simp; rfl⟩) ?_
                    try simp only [Act.put, List.setIfInBounds_toArray, List.set_cons_succ, List.set_cons_zero]
                    refine order_held (i := 9) rfl (by kernel_rfl) (fun _ _ _ h => h) (.inl ⟨rfl, fun W hW => by
                      have q0 := hW.cell 4
                      go_simp; rfl⟩) HS ?_
                    try simp only [Act.put, List.setIfInBounds_toArray, List.set_cons_succ, List.set_cons_zero]
                    refine order_pure (i := 10) rfl (by kernel_rfl) (fun _ _ _ h => h) (.inl ⟨rfl, fun _ => by go_simp; rfl⟩) ?_
                    try simp only [Act.put, List.setIfInBounds_toArray, List.set_cons_succ, List.set_cons_zero]
                    refine order_pure (i := 11) rfl (by kernel_rfl) (fun _ _ _ h => h) (.inl ⟨rfl, fun _ => by go_simp; rfl⟩) ?_
                    try simp only [Act.put, List.setIfInBounds_toArray, List.set_cons_succ, List.set_cons_zero]
                    refine order_one (i := 12) rfl (by kernel_rfl) (fun K hK => ?_)
                    go_simp
                    refine hK _ _ (fun _ hS => hS.far (p := ⟨gn, 0, none⟩) hgbn _) ?_
                    clear hK
                    try simp only [Act.put, List.setIfInBounds_toArray, List.set_cons_succ, List.set_cons_zero]
                    refine order_one (i := 13) rfl (by kernel_rfl) (fun K hK => ?_)
                    go_simp
                    refine hK _ _ (fun h => absurd h (by decide)) ?_
                    clear hK
                    try simp only [Act.put, List.setIfInBounds_toArray, List.set_cons_succ, List.set_cons_zero]
                    refine order_done (by kernel_rfl) ?_
                    go_wp2_with fail
                    go_meet
                    exact ⟨by simp [eachT], by omega, (HK4.out.setCell (p := ⟨gn, 0, none⟩) (Or.inl (Or.inr rfl)) _).setCell (p := ⟨gf, 0, none⟩) (Or.inl (Or.inl rfl)) _, (HT4.far (p := ⟨gn, 0, none⟩) hgbn _).far (p := ⟨gf, 0, none⟩) hgbf _, (by rw [show baseT 4 = 2 from rfl]; exact (HN4.out.put 0 _).far (p := ⟨gf, 0, none⟩) hgnf _), (HF4.out.far (p := ⟨gn, 0, none⟩) hgfn _).put 0 _⟩
                · obtain rfl : h = false := by rw [← HH.out, head4, HLEN.out.1, HLEN.out.2.1, HLEN.out.2.2, HB.out]; simp [hc]
                  have c1 : decide (0 ≤ nm) = false := by simp; omega
                  clear hc
                  go_wp2_with fail
                  refine order_begin (fun W => Blk W gb 26 #[.int .u8 4, .bool ng, .slice la ln lc, .string tx, .int .i64 nm, .slice ia im ic, .slice ta tn tc]) (fun i => !(i == 13)) (by kernel_rfl) 14 rfl ?_
                  generalize w1.drew = W0 at *
                  refine order_held (i := 0) rfl (by kernel_rfl) (fun _ _ _ h => h) (.inl ⟨rfl, fun W hW => by
                    have q0 := hW.cell 0
                    have q1 := hW.cell 1
                    have q2 := hW.cell 2
                    have q3 := hW.cell 3
                    have q4 := hW.cell 4
                    have q5 := hW.cell 5
                    have q6 := hW.cell 6
                    go_simp; rfl⟩) HS ?_
                  try simp only [Act.put, List.setIfInBounds_toArray, List.set_cons_succ, List.set_cons_zero]
                  refine order_one (i := 1) rfl (by kernel_rfl) (fun K hK => ?_)
                  go_simp
                  refine (bare_fttf 4 nm ng la ia ta ln lc im ic tn tc tx W0).mono ?_
                  rintro e w4 ⟨rfl, hk4⟩
                  rw [HB.out]
                  refine hK _ _ (fun _ hS => hS.keep hk4 id) ?_
                  clear hK
                  have HK4 : Hid (Keeps (GF gf gn) w1 w4) := hide (HKD.out.trans' hk4 (fun _ _ => id) (fun _ _ h => h.elim))
                  have HT4 : Blk w4 gb 26 #[.int .u8 4, .bool ng, .slice la ln lc, .string tx, .int .i64 nm, .slice ia im ic, .slice ta tn tc] := HS.keep hk4 id
                  have HN4 := hide (HND.out.keep hk4 id); have HF4 := hide (HFD.out.keep hk4 id)
                  have qf : w4.frozen? ⟨gf, 0, none⟩ = false := HF4.out.free 0
                  have pf := HF4.out.cell 0
                  have qn : w4.frozen? ⟨gn, 0, none⟩ = false := HN4.out.free 0
                  have pn := HN4.out.cell 0
                  clear HS hk4
                  have HS := HT4
                  try simp only [Act.put, List.setIfInBounds_toArray, List.set_cons_succ, List.set_cons_zero]
                  refine order_pure (i := 2) rfl (by kernel_rfl) (fun _ _ _ h => h) (.inl ⟨rfl, fun _ => by go_simp; rfl⟩) ?_
                  try simp only [Act.put, List.setIfInBounds_toArray, List.set_cons_succ, List.set_cons_zero]
                  refine order_pure (i := 3) rfl (by kernel_rfl) (fun _ _ _ h => h) (.inl ⟨rfl, fun _ => by go_simp; rfl⟩) ?_
                  try simp only [Act.put, List.setIfInBounds_toArray, List.set_cons_succ, List.set_cons_zero]
                  refine order_held (i := 4) rfl (by kernel_rfl) (fun _ _ _ h => h) (.inl ⟨rfl, fun W hW => by
                    have q0 := hW.cell 4
                    go_simp; rfl⟩) HS ?_
                  try simp only [Act.put, List.setIfInBounds_toArray, List.set_cons_succ, List.set_cons_zero]
                  refine order_pure (i := 5) rfl (by kernel_rfl) (fun _ _ _ h => h) (.inl ⟨rfl, fun _ => by go_simp; rfl⟩) ?_
                  try simp only [Act.put, List.setIfInBounds_toArray, List.set_cons_succ, List.set_cons_zero]
                  refine order_pure (i := 6) rfl (by kernel_rfl) (fun _ _ _ h => h) (.inl ⟨rfl, fun _ => by go_simp; rfl⟩) ?_
                  try simp only [Act.put, List.setIfInBounds_toArray, List.set_cons_succ, List.set_cons_zero]
                  refine order_pure (i := 7) rfl (by kernel_rfl) (fun _ _ _ h => h) (.inl ⟨rfl, fun _ => by go_simp; rfl⟩) ?_
                  try simp only [Act.put, List.setIfInBounds_toArray, List.set_cons_succ, List.set_cons_zero]
                  refine order_skip (i := 8) rfl (by kernel_rfl) (fun _ _ _ h => h) (by kernel_rfl) ?_
                  try simp only [Act.put, List.setIfInBounds_toArray, List.set_cons_succ, List.set_cons_zero]
                  refine order_skip (i := 9) rfl (by kernel_rfl) (fun _ _ _ h => h) (by kernel_rfl) ?_
                  try simp only [Act.put, List.setIfInBounds_toArray, List.set_cons_succ, List.set_cons_zero]
                  refine order_skip (i := 10) rfl (by kernel_rfl) (fun _ _ _ h => h) (by kernel_rfl) ?_
                  try simp only [Act.put, List.setIfInBounds_toArray, List.set_cons_succ, List.set_cons_zero]
                  refine order_pure (i := 11) rfl (by kernel_rfl) (fun _ _ _ h => h) (.inl ⟨rfl, fun _ => by go_simp; rfl⟩) ?_
                  try simp only [Act.put, List.setIfInBounds_toArray, List.set_cons_succ, List.set_cons_zero]
                  refine order_one (i := 12) rfl (by kernel_rfl) (fun K hK => ?_)
                  go_simp
                  refine hK _ _ (fun _ hS => hS.far (p := ⟨gn, 0, none⟩) hgbn _) ?_
                  clear hK
                  try simp only [Act.put, List.setIfInBounds_toArray, List.set_cons_succ, List.set_cons_zero]
                  refine order_one (i := 13) rfl (by kernel_rfl) (fun K hK => ?_)
                  go_simp
                  refine hK _ _ (fun h => absurd h (by decide)) ?_
                  clear hK
                  try simp only [Act.put, List.setIfInBounds_toArray, List.set_cons_succ, List.set_cons_zero]
                  refine order_done (by kernel_rfl) ?_
                  go_wp2_with fail
                  go_meet
                  exact ⟨by simp [eachT], by omega, (HK4.out.setCell (p := ⟨gn, 0, none⟩) (Or.inl (Or.inr rfl)) _).setCell (p := ⟨gf, 0, none⟩) (Or.inl (Or.inl rfl)) _, (HT4.far (p := ⟨gn, 0, none⟩) hgbn _).far (p := ⟨gf, 0, none⟩) hgbf _, (by rw [show baseT 4 = 2 from rfl]; exact (HN4.out.put 0 _).far (p := ⟨gf, 0, none⟩) hgnf _), (HF4.out.far (p := ⟨gn, 0, none⟩) hgfn _).put 0 _⟩
            · by_cases h7 : kd = 7
              · subst h7
                obtain ⟨x, hx⟩ : ∃ x, (bareB ng ln tx nm im tn false false true true && decide (tn ≤ min 1 im)) = x := ⟨_, rfl⟩
                have HX := hide hx; clear hx
                have HS : Blk w1.drew gb 26 #[.int .u8 7, .bool ng, .slice la ln lc, .string tx, .int .i64 nm, .slice ia im ic, .slice ta tn tc] := HT1.out
                have HKD : Hid (Keeps (GF gf gn) w1 w1.drew) := hide (Keeps.refl _ _).drew
                have HND : Hid (Blk w1.drew gn 3 #[.int .i64 1]) := hide HN1.out
                have HFD : Hid (Blk w1.drew gf 4 #[.bool false]) := hide HF1.out
                go_upto_region 17 with fail
                go_cut [4] (fun v4 wx => v4 = .int .i64 1 ∧ Keeps (GF gf gn) w1 wx ∧ Blk wx gb 26 #[.int .u8 7, .bool ng, .slice la ln lc, .string tx, .int .i64 nm, .slice ia im ic, .slice ta tn tc] ∧ Blk wx gn 3 #[.int .i64 1] ∧ Blk wx gf 4 #[.bool x])
                case first =>
                  clear p0 p1 p2 p3 p4 p5 p6
                  cases hb : bareB ng ln tx nm im tn false false true true with
                  | false =>
                    have HB := hide hb
                    obtain rfl : x = false := by rw [← HX.out, hb, Bool.false_and]
                    clear hb
                    go_wp2_with fail
                    refine order_begin (fun W => Blk W gb 26 #[.int .u8 7, .bool ng, .slice la ln lc, .string tx, .int .i64 nm, .slice ia im ic, .slice ta tn tc]) (fun i => !(i == 13)) (by kernel_rfl) 14 rfl ?_
                    generalize w1.drew = W0 at *
                    refine order_held (i := 0) rfl (by kernel_rfl) (fun _ _ _ h => h) (.inl ⟨rfl, fun W hW => by
                      have q0 := hW.cell 0
                      have q1 := hW.cell 1
                      have q2 := hW.cell 2
                      have q3 := hW.cell 3
                      have q4 := hW.cell 4
                      have q5 := hW.cell 5
                      have q6 := hW.cell 6
                      go_simp; rfl⟩) HS ?_
                    try simp only [Act.put, List.setIfInBounds_toArray, List.set_cons_succ, List.set_cons_zero]
                    refine order_one (i := 1) rfl (by kernel_rfl) (fun K hK => ?_)
                    go_simp
                    refine (bare_fftt 7 nm ng la ia ta ln lc im ic tn tc tx W0).mono ?_
                    rintro e w4 ⟨rfl, hk4⟩
                    rw [HB.out]
                    refine hK _ _ (fun _ hS => hS.keep hk4 id) ?_
                    clear hK
                    have HK4 : Hid (Keeps (GF gf gn) w1 w4) := hide (HKD.out.trans' hk4 (fun _ _ => id) (fun _ _ h => h.elim))
                    have HT4 : Blk w4 gb 26 #[.int .u8 7, .bool ng, .slice la ln lc, .string tx, .int .i64 nm, .slice ia im ic, .slice ta tn tc] := HS.keep hk4 id
                    have HN4 := hide (HND.out.keep hk4 id); have HF4 := hide (HFD.out.keep hk4 id)
                    have qf : w4.frozen? ⟨gf, 0, none⟩ = false := HF4.out.free 0
                    have pf := HF4.out.cell 0
                    clear HS hk4
                    have HS := HT4
                    try simp only [Act.put, List.setIfInBounds_toArray, List.set_cons_succ, List.set_cons_zero]
                    refine order_pure (i := 2) rfl (by kernel_rfl) (fun _ _ _ h => h) (.inl ⟨rfl, fun _ => by go_simp; rfl⟩) ?_
                    try simp only [Act.put, List.setIfInBounds_toArray, List.set_cons_succ, List.set_cons_zero]
                    refine order_skip (i := 3) rfl (by kernel_rfl) (fun _ _ _ h => h) (by kernel_rfl) ?_
                    try simp only [Act.put, List.setIfInBounds_toArray, List.set_cons_succ, List.set_cons_zero]
                    refine order_skip (i := 4) rfl (by kernel_rfl) (fun _ _ _ h => h) (by kernel_rfl) ?_
                    try simp only [Act.put, List.setIfInBounds_toArray, List.set_cons_succ, List.set_cons_zero]
                    refine order_skip (i := 5) rfl (by kernel_rfl) (fun _ _ _ h => h) (by kernel_rfl) ?_
                    try simp only [Act.put, List.setIfInBounds_toArray, List.set_cons_succ, List.set_cons_zero]
                    refine order_skip (i := 6) rfl (by kernel_rfl) (fun _ _ _ h => h) (by kernel_rfl) ?_
                    try simp only [Act.put, List.setIfInBounds_toArray, List.set_cons_succ, List.set_cons_zero]
                    refine order_skip (i := 7) rfl (by kernel_rfl) (fun _ _ _ h => h) (by kernel_rfl) ?_
                    try simp only [Act.put, List.setIfInBounds_toArray, List.set_cons_succ, List.set_cons_zero]
                    refine order_skip (i := 8) rfl (by kernel_rfl) (fun _ _ _ h => h) (by kernel_rfl) ?_
                    try simp only [Act.put, List.setIfInBounds_toArray, List.set_cons_succ, List.set_cons_zero]
                    refine order_skip (i := 9) rfl (by kernel_rfl) (fun _ _ _ h => h) (by kernel_rfl) ?_
                    try simp only [Act.put, List.setIfInBounds_toArray, List.set_cons_succ, List.set_cons_zero]
                    refine order_skip (i := 10) rfl (by kernel_rfl) (fun _ _ _ h => h) (by kernel_rfl) ?_
                    try simp only [Act.put, List.setIfInBounds_toArray, List.set_cons_succ, List.set_cons_zero]
                    refine order_pure (i := 11) rfl (by kernel_rfl) (fun _ _ _ h => h) (.inl ⟨rfl, fun _ => by go_simp; rfl⟩) ?_
                    try simp only [Act.put, List.setIfInBounds_toArray, List.set_cons_succ, List.set_cons_zero]
                    refine order_pure (i := 12) rfl (by kernel_rfl) (fun _ _ _ h => h) (.inl ⟨rfl, fun _ => by go_simp; rfl⟩) ?_
                    try simp only [Act.put, List.setIfInBounds_toArray, List.set_cons_succ, List.set_cons_zero]
                    refine order_one (i := 13) rfl (by kernel_rfl) (fun K hK => ?_)
                    go_simp
                    refine hK _ _ (fun h => absurd h (by decide)) ?_
                    clear hK
                    try simp only [Act.put, List.setIfInBounds_toArray, List.set_cons_succ, List.set_cons_zero]
                    refine order_done (by kernel_rfl) ?_
                    go_wp2_with fail
                    go_meet
                    exact ⟨rfl, HK4.out.setCell (p := ⟨gf, 0, none⟩) (Or.inl (Or.inl rfl)) _, HT4.far (p := ⟨gf, 0, none⟩) hgbf _, HN4.out.far (p := ⟨gf, 0, none⟩) hgnf _, HF4.out.put 0 _⟩
                  | true =>
                    have HB := hide hb
                    by_cases hi : im < 1
                    · have c0 : (im : Int) < 1 := by omega
                      by_cases hc : tn ≤ im
                      · obtain rfl : x = true := by rw [← HX.out, hb, decide_eq_true (by omega)]; rfl
                        have c1 : decide (tn ≤ im) = true := decide_eq_true hc
                        clear hb hc hi
                        go_wp2_with fail
                        refine order_begin (fun W => Blk W gb 26 #[.int .u8 7, .bool ng, .slice la ln lc, .string tx, .int .i64 nm, .slice ia im ic, .slice ta tn tc]) (fun i => !(i == 13)) (by kernel_rfl) 14 rfl ?_
                        generalize w1.drew = W0 at *
                        refine order_held (i := 0) rfl (by kernel_rfl) (fun _ _ _ h => h) (.inl ⟨rfl, fun W hW => by
                          have q0 := hW.cell 0
                          have q1 := hW.cell 1
                          have q2 := hW.cell 2
                          have q3 := hW.cell 3
                          have q4 := hW.cell 4
                          have q5 := hW.cell 5
                          have q6 := hW.cell 6
                          go_simp; rfl⟩) HS ?_
                        try simp only [Act.put, List.setIfInBounds_toArray, List.set_cons_succ, List.set_cons_zero]
                        refine order_one (i := 1) rfl (by kernel_rfl) (fun K hK => ?_)
                        go_simp
                        refine (bare_fftt 7 nm ng la ia ta ln lc im ic tn tc tx W0).mono ?_
                        rintro e w4 ⟨rfl, hk4⟩
                        rw [HB.out]
                        refine hK _ _ (fun _ hS => hS.keep hk4 id) ?_
                        clear hK
                        have HK4 : Hid (Keeps (GF gf gn) w1 w4) := hide (HKD.out.trans' hk4 (fun _ _ => id) (fun _ _ h => h.elim))
                        have HT4 : Blk w4 gb 26 #[.int .u8 7, .bool ng, .slice la ln lc, .string tx, .int .i64 nm, .slice ia im ic, .slice ta tn tc] := HS.keep hk4 id
                        have HN4 := hide (HND.out.keep hk4 id); have HF4 := hide (HFD.out.keep hk4 id)
                        have qf : w4.frozen? ⟨gf, 0, none⟩ = false := HF4.out.free 0
                        have pf := HF4.out.cell 0
                        clear HS hk4
                        have HS := HT4
                        try simp only [Act.put, List.setIfInBounds_toArray, List.set_cons_succ, List.set_cons_zero]
                        refine order_pure (i := 2) rfl (by kernel_rfl) (fun _ _ _ h => h) (.inl ⟨rfl, fun _ => by go_simp; rfl⟩) ?_
                        try simp only [Act.put, List.setIfInBounds_toArray, List.set_cons_succ, List.set_cons_zero]
                        refine order_pure (i := 3) rfl (by kernel_rfl) (fun _ _ _ h => h) (.inl ⟨rfl, fun _ => by go_simp; rfl⟩) ?_
                        try simp only [Act.put, List.setIfInBounds_toArray, List.set_cons_succ, List.set_cons_zero]
                        refine order_held (i := 4) rfl (by kernel_rfl) (fun _ _ _ h => h) (.inl ⟨rfl, fun W hW => by
                          have q0 := hW.cell 6
                          go_simp; rfl⟩) HS ?_
                        try simp only [Act.put, List.setIfInBounds_toArray, List.set_cons_succ, List.set_cons_zero]
                        refine order_pure (i := 5) rfl (by kernel_rfl) (fun _ _ _ h => h) (.inl ⟨rfl, fun _ => by go_simp; rfl⟩) ?_
                        try simp only [Act.put, List.setIfInBounds_toArray, List.set_cons_succ, List.set_cons_zero]
                        refine order_pure (i := 6) rfl (by kernel_rfl) (fun _ _ _ h => h) (.inl ⟨rfl, fun _ => by go_simp; rfl⟩) ?_
                        try simp only [Act.put, List.setIfInBounds_toArray, List.set_cons_succ, List.set_cons_zero]
                        refine order_held (i := 7) rfl (by kernel_rfl) (fun _ _ _ h => h) (.inl ⟨rfl, fun W hW => by
                          have q0 := hW.cell 5
                          go_simp; rfl⟩) HS ?_
                        try simp only [Act.put, List.setIfInBounds_toArray, List.set_cons_succ, List.set_cons_zero]
                        refine order_pure (i := 8) rfl (by kernel_rfl) (fun _ _ _ h => h) (.inl ⟨rfl, fun _ => by go_simp; rfl⟩) ?_
                        try simp only [Act.put, List.setIfInBounds_toArray, List.set_cons_succ, List.set_cons_zero]
                        refine order_pure (i := 9) rfl (by kernel_rfl) (fun _ _ _ h => h) (.inl ⟨rfl, fun _ => by go_simp; rfl⟩) ?_
                        try simp only [Act.put, List.setIfInBounds_toArray, List.set_cons_succ, List.set_cons_zero]
                        refine order_pure (i := 10) rfl (by kernel_rfl) (fun _ _ _ h => h) (.inl ⟨rfl, fun _ => by go_simp; rfl⟩) ?_
                        try simp only [Act.put, List.setIfInBounds_toArray, List.set_cons_succ, List.set_cons_zero]
                        refine order_pure (i := 11) rfl (by kernel_rfl) (fun _ _ _ h => h) (.inl ⟨rfl, fun _ => by go_simp; rfl⟩) ?_
                        try simp only [Act.put, List.setIfInBounds_toArray, List.set_cons_succ, List.set_cons_zero]
                        refine order_pure (i := 12) rfl (by kernel_rfl) (fun _ _ _ h => h) (.inl ⟨rfl, fun _ => by go_simp; rfl⟩) ?_
                        try simp only [Act.put, List.setIfInBounds_toArray, List.set_cons_succ, List.set_cons_zero]
                        refine order_one (i := 13) rfl (by kernel_rfl) (fun K hK => ?_)
                        go_simp
                        refine hK _ _ (fun h => absurd h (by decide)) ?_
                        clear hK
                        try simp only [Act.put, List.setIfInBounds_toArray, List.set_cons_succ, List.set_cons_zero]
                        refine order_done (by kernel_rfl) ?_
                        go_wp2_with fail
                        go_meet
                        exact ⟨rfl, HK4.out.setCell (p := ⟨gf, 0, none⟩) (Or.inl (Or.inl rfl)) _, HT4.far (p := ⟨gf, 0, none⟩) hgbf _, HN4.out.far (p := ⟨gf, 0, none⟩) hgnf _, HF4.out.put 0 _⟩
                      · obtain rfl : x = false := by rw [← HX.out, hb, decide_eq_false (by omega)]; rfl
                        have c1 : decide (tn ≤ im) = false := decide_eq_false hc
                        clear hb hc hi
                        go_wp2_with fail
                        refine order_begin (fun W => Blk W gb 26 #[.int .u8 7, .bool ng, .slice la ln lc, .string tx, .int .i64 nm, .slice ia im ic, .slice ta tn tc]) (fun i => !(i == 13)) (by kernel_rfl) 14 rfl ?_
                        generalize w1.drew = W0 at *
                        refine order_held (i := 0) rfl (by kernel_rfl) (fun _ _ _ h => h) (.inl ⟨rfl, fun W hW => by
                          have q0 := hW.cell 0
                          have q1 := hW.cell 1
                          have q2 := hW.cell 2
                          have q3 := hW.cell 3
                          have q4 := hW.cell 4
                          have q5 := hW.cell 5
                          have q6 := hW.cell 6
                          go_simp; rfl⟩) HS ?_
                        try simp only [Act.put, List.setIfInBounds_toArray, List.set_cons_succ, List.set_cons_zero]
                        refine order_one (i := 1) rfl (by kernel_rfl) (fun K hK => ?_)
                        go_simp
                        refine (bare_fftt 7 nm ng la ia ta ln lc im ic tn tc tx W0).mono ?_
                        rintro e w4 ⟨rfl, hk4⟩
                        rw [HB.out]
                        refine hK _ _ (fun _ hS => hS.keep hk4 id) ?_
                        clear hK
                        have HK4 : Hid (Keeps (GF gf gn) w1 w4) := hide (HKD.out.trans' hk4 (fun _ _ => id) (fun _ _ h => h.elim))
                        have HT4 : Blk w4 gb 26 #[.int .u8 7, .bool ng, .slice la ln lc, .string tx, .int .i64 nm, .slice ia im ic, .slice ta tn tc] := HS.keep hk4 id
                        have HN4 := hide (HND.out.keep hk4 id); have HF4 := hide (HFD.out.keep hk4 id)
                        have qf : w4.frozen? ⟨gf, 0, none⟩ = false := HF4.out.free 0
                        have pf := HF4.out.cell 0
                        clear HS hk4
                        have HS := HT4
                        try simp only [Act.put, List.setIfInBounds_toArray, List.set_cons_succ, List.set_cons_zero]
                        refine order_pure (i := 2) rfl (by kernel_rfl) (fun _ _ _ h => h) (.inl ⟨rfl, fun _ => by go_simp; rfl⟩) ?_
                        try simp only [Act.put, List.setIfInBounds_toArray, List.set_cons_succ, List.set_cons_zero]
                        refine order_pure (i := 3) rfl (by kernel_rfl) (fun _ _ _ h => h) (.inl ⟨rfl, fun _ => by go_simp; rfl⟩) ?_
                        try simp only [Act.put, List.setIfInBounds_toArray, List.set_cons_succ, List.set_cons_zero]
                        refine order_held (i := 4) rfl (by kernel_rfl) (fun _ _ _ h => h) (.inl ⟨rfl, fun W hW => by
                          have q0 := hW.cell 6
                          go_simp; rfl⟩) HS ?_
                        try simp only [Act.put, List.setIfInBounds_toArray, List.set_cons_succ, List.set_cons_zero]
                        refine order_pure (i := 5) rfl (by kernel_rfl) (fun _ _ _ h => h) (.inl ⟨rfl, fun _ => by go_simp; rfl⟩) ?_
                        try simp only [Act.put, List.setIfInBounds_toArray, List.set_cons_succ, List.set_cons_zero]
                        refine order_pure (i := 6) rfl (by kernel_rfl) (fun _ _ _ h => h) (.inl ⟨rfl, fun _ => by go_simp; rfl⟩) ?_
                        try simp only [Act.put, List.setIfInBounds_toArray, List.set_cons_succ, List.set_cons_zero]
                        refine order_held (i := 7) rfl (by kernel_rfl) (fun _ _ _ h => h) (.inl ⟨rfl, fun W hW => by
                          have q0 := hW.cell 5
                          go_simp; rfl⟩) HS ?_
                        try simp only [Act.put, List.setIfInBounds_toArray, List.set_cons_succ, List.set_cons_zero]
                        refine order_pure (i := 8) rfl (by kernel_rfl) (fun _ _ _ h => h) (.inl ⟨rfl, fun _ => by go_simp; rfl⟩) ?_
                        try simp only [Act.put, List.setIfInBounds_toArray, List.set_cons_succ, List.set_cons_zero]
                        refine order_pure (i := 9) rfl (by kernel_rfl) (fun _ _ _ h => h) (.inl ⟨rfl, fun _ => by go_simp; rfl⟩) ?_
                        try simp only [Act.put, List.setIfInBounds_toArray, List.set_cons_succ, List.set_cons_zero]
                        refine order_pure (i := 10) rfl (by kernel_rfl) (fun _ _ _ h => h) (.inl ⟨rfl, fun _ => by go_simp; rfl⟩) ?_
                        try simp only [Act.put, List.setIfInBounds_toArray, List.set_cons_succ, List.set_cons_zero]
                        refine order_pure (i := 11) rfl (by kernel_rfl) (fun _ _ _ h => h) (.inl ⟨rfl, fun _ => by go_simp; rfl⟩) ?_
                        try simp only [Act.put, List.setIfInBounds_toArray, List.set_cons_succ, List.set_cons_zero]
                        refine order_pure (i := 12) rfl (by kernel_rfl) (fun _ _ _ h => h) (.inl ⟨rfl, fun _ => by go_simp; rfl⟩) ?_
                        try simp only [Act.put, List.setIfInBounds_toArray, List.set_cons_succ, List.set_cons_zero]
                        refine order_one (i := 13) rfl (by kernel_rfl) (fun K hK => ?_)
                        go_simp
                        refine hK _ _ (fun h => absurd h (by decide)) ?_
                        clear hK
                        try simp only [Act.put, List.setIfInBounds_toArray, List.set_cons_succ, List.set_cons_zero]
                        refine order_done (by kernel_rfl) ?_
                        go_wp2_with fail
                        go_meet
                        exact ⟨rfl, HK4.out.setCell (p := ⟨gf, 0, none⟩) (Or.inl (Or.inl rfl)) _, HT4.far (p := ⟨gf, 0, none⟩) hgbf _, HN4.out.far (p := ⟨gf, 0, none⟩) hgnf _, HF4.out.put 0 _⟩
                    · have c0 : ¬ (im : Int) < 1 := by omega
                      by_cases hc : tn ≤ 1
                      · obtain rfl : x = true := by rw [← HX.out, hb, decide_eq_true (by omega)]; rfl
                        have c1 : decide ((tn : Int) ≤ 1) = true := by simp only [decide_eq_true_eq]; omega
                        clear hb hc hi
                        go_wp2_with fail
                        refine order_begin (fun W => Blk W gb 26 #[.int .u8 7, .bool ng, .slice la ln lc, .string tx, .int .i64 nm, .slice ia im ic, .slice ta tn tc]) (fun i => !(i == 13)) (by kernel_rfl) 14 rfl ?_
                        generalize w1.drew = W0 at *
                        refine order_held (i := 0) rfl (by kernel_rfl) (fun _ _ _ h => h) (.inl ⟨rfl, fun W hW => by
                          have q0 := hW.cell 0
                          have q1 := hW.cell 1
                          have q2 := hW.cell 2
                          have q3 := hW.cell 3
                          have q4 := hW.cell 4
                          have q5 := hW.cell 5
                          have q6 := hW.cell 6
                          go_simp; rfl⟩) HS ?_
                        try simp only [Act.put, List.setIfInBounds_toArray, List.set_cons_succ, List.set_cons_zero]
                        refine order_one (i := 1) rfl (by kernel_rfl) (fun K hK => ?_)
                        go_simp
                        refine (bare_fftt 7 nm ng la ia ta ln lc im ic tn tc tx W0).mono ?_
                        rintro e w4 ⟨rfl, hk4⟩
                        rw [HB.out]
                        refine hK _ _ (fun _ hS => hS.keep hk4 id) ?_
                        clear hK
                        have HK4 : Hid (Keeps (GF gf gn) w1 w4) := hide (HKD.out.trans' hk4 (fun _ _ => id) (fun _ _ h => h.elim))
                        have HT4 : Blk w4 gb 26 #[.int .u8 7, .bool ng, .slice la ln lc, .string tx, .int .i64 nm, .slice ia im ic, .slice ta tn tc] := HS.keep hk4 id
                        have HN4 := hide (HND.out.keep hk4 id); have HF4 := hide (HFD.out.keep hk4 id)
                        have qf : w4.frozen? ⟨gf, 0, none⟩ = false := HF4.out.free 0
                        have pf := HF4.out.cell 0
                        clear HS hk4
                        have HS := HT4
                        try simp only [Act.put, List.setIfInBounds_toArray, List.set_cons_succ, List.set_cons_zero]
                        refine order_pure (i := 2) rfl (by kernel_rfl) (fun _ _ _ h => h) (.inl ⟨rfl, fun _ => by go_simp; rfl⟩) ?_
                        try simp only [Act.put, List.setIfInBounds_toArray, List.set_cons_succ, List.set_cons_zero]
                        refine order_pure (i := 3) rfl (by kernel_rfl) (fun _ _ _ h => h) (.inl ⟨rfl, fun _ => by go_simp; rfl⟩) ?_
                        try simp only [Act.put, List.setIfInBounds_toArray, List.set_cons_succ, List.set_cons_zero]
                        refine order_held (i := 4) rfl (by kernel_rfl) (fun _ _ _ h => h) (.inl ⟨rfl, fun W hW => by
                          have q0 := hW.cell 6
                          go_simp; rfl⟩) HS ?_
                        try simp only [Act.put, List.setIfInBounds_toArray, List.set_cons_succ, List.set_cons_zero]
                        refine order_pure (i := 5) rfl (by kernel_rfl) (fun _ _ _ h => h) (.inl ⟨rfl, fun _ => by go_simp; rfl⟩) ?_
                        try simp only [Act.put, List.setIfInBounds_toArray, List.set_cons_succ, List.set_cons_zero]
                        refine order_pure (i := 6) rfl (by kernel_rfl) (fun _ _ _ h => h) (.inl ⟨rfl, fun _ => by go_simp; rfl⟩) ?_
                        try simp only [Act.put, List.setIfInBounds_toArray, List.set_cons_succ, List.set_cons_zero]
                        refine order_held (i := 7) rfl (by kernel_rfl) (fun _ _ _ h => h) (.inl ⟨rfl, fun W hW => by
                          have q0 := hW.cell 5
                          go_simp; rfl⟩) HS ?_
                        try simp only [Act.put, List.setIfInBounds_toArray, List.set_cons_succ, List.set_cons_zero]
                        refine order_pure (i := 8) rfl (by kernel_rfl) (fun _ _ _ h => h) (.inl ⟨rfl, fun _ => by go_simp; rfl⟩) ?_
                        try simp only [Act.put, List.setIfInBounds_toArray, List.set_cons_succ, List.set_cons_zero]
                        refine order_pure (i := 9) rfl (by kernel_rfl) (fun _ _ _ h => h) (.inl ⟨rfl, fun _ => by go_simp; rfl⟩) ?_
                        try simp only [Act.put, List.setIfInBounds_toArray, List.set_cons_succ, List.set_cons_zero]
                        refine order_pure (i := 10) rfl (by kernel_rfl) (fun _ _ _ h => h) (.inl ⟨rfl, fun _ => by go_simp; rfl⟩) ?_
                        try simp only [Act.put, List.setIfInBounds_toArray, List.set_cons_succ, List.set_cons_zero]
                        refine order_pure (i := 11) rfl (by kernel_rfl) (fun _ _ _ h => h) (.inl ⟨rfl, fun _ => by go_simp; rfl⟩) ?_
                        try simp only [Act.put, List.setIfInBounds_toArray, List.set_cons_succ, List.set_cons_zero]
                        refine order_pure (i := 12) rfl (by kernel_rfl) (fun _ _ _ h => h) (.inl ⟨rfl, fun _ => by go_simp; rfl⟩) ?_
                        try simp only [Act.put, List.setIfInBounds_toArray, List.set_cons_succ, List.set_cons_zero]
                        refine order_one (i := 13) rfl (by kernel_rfl) (fun K hK => ?_)
                        go_simp
                        refine hK _ _ (fun h => absurd h (by decide)) ?_
                        clear hK
                        try simp only [Act.put, List.setIfInBounds_toArray, List.set_cons_succ, List.set_cons_zero]
                        refine order_done (by kernel_rfl) ?_
                        go_wp2_with fail
                        go_meet
                        exact ⟨rfl, HK4.out.setCell (p := ⟨gf, 0, none⟩) (Or.inl (Or.inl rfl)) _, HT4.far (p := ⟨gf, 0, none⟩) hgbf _, HN4.out.far (p := ⟨gf, 0, none⟩) hgnf _, HF4.out.put 0 _⟩
                      · obtain rfl : x = false := by rw [← HX.out, hb, decide_eq_false (by omega)]; rfl
                        have c1 : decide ((tn : Int) ≤ 1) = false := by simp only [decide_eq_false_iff_not]; omega
                        clear hb hc hi
                        go_wp2_with fail
                        refine order_begin (fun W => Blk W gb 26 #[.int .u8 7, .bool ng, .slice la ln lc, .string tx, .int .i64 nm, .slice ia im ic, .slice ta tn tc]) (fun i => !(i == 13)) (by kernel_rfl) 14 rfl ?_
                        generalize w1.drew = W0 at *
                        refine order_held (i := 0) rfl (by kernel_rfl) (fun _ _ _ h => h) (.inl ⟨rfl, fun W hW => by
                          have q0 := hW.cell 0
                          have q1 := hW.cell 1
                          have q2 := hW.cell 2
                          have q3 := hW.cell 3
                          have q4 := hW.cell 4
                          have q5 := hW.cell 5
                          have q6 := hW.cell 6
                          go_simp; rfl⟩) HS ?_
                        try simp only [Act.put, List.setIfInBounds_toArray, List.set_cons_succ, List.set_cons_zero]
                        refine order_one (i := 1) rfl (by kernel_rfl) (fun K hK => ?_)
                        go_simp
                        refine (bare_fftt 7 nm ng la ia ta ln lc im ic tn tc tx W0).mono ?_
                        rintro e w4 ⟨rfl, hk4⟩
                        rw [HB.out]
                        refine hK _ _ (fun _ hS => hS.keep hk4 id) ?_
                        clear hK
                        have HK4 : Hid (Keeps (GF gf gn) w1 w4) := hide (HKD.out.trans' hk4 (fun _ _ => id) (fun _ _ h => h.elim))
                        have HT4 : Blk w4 gb 26 #[.int .u8 7, .bool ng, .slice la ln lc, .string tx, .int .i64 nm, .slice ia im ic, .slice ta tn tc] := HS.keep hk4 id
                        have HN4 := hide (HND.out.keep hk4 id); have HF4 := hide (HFD.out.keep hk4 id)
                        have qf : w4.frozen? ⟨gf, 0, none⟩ = false := HF4.out.free 0
                        have pf := HF4.out.cell 0
                        clear HS hk4
                        have HS := HT4
                        try simp only [Act.put, List.setIfInBounds_toArray, List.set_cons_succ, List.set_cons_zero]
                        refine order_pure (i := 2) rfl (by kernel_rfl) (fun _ _ _ h => h) (.inl ⟨rfl, fun _ => by go_simp; rfl⟩) ?_
                        try simp only [Act.put, List.setIfInBounds_toArray, List.set_cons_succ, List.set_cons_zero]
                        refine order_pure (i := 3) rfl (by kernel_rfl) (fun _ _ _ h => h) (.inl ⟨rfl, fun _ => by go_simp; rfl⟩) ?_
                        try simp only [Act.put, List.setIfInBounds_toArray, List.set_cons_succ, List.set_cons_zero]
                        refine order_held (i := 4) rfl (by kernel_rfl) (fun _ _ _ h => h) (.inl ⟨rfl, fun W hW => by
                          have q0 := hW.cell 6
                          go_simp; rfl⟩) HS ?_
                        try simp only [Act.put, List.setIfInBounds_toArray, List.set_cons_succ, List.set_cons_zero]
                        refine order_pure (i := 5) rfl (by kernel_rfl) (fun _ _ _ h => h) (.inl ⟨rfl, fun _ => by go_simp; rfl⟩) ?_
                        try simp only [Act.put, List.setIfInBounds_toArray, List.set_cons_succ, List.set_cons_zero]
                        refine order_pure (i := 6) rfl (by kernel_rfl) (fun _ _ _ h => h) (.inl ⟨rfl, fun _ => by go_simp; rfl⟩) ?_
                        try simp only [Act.put, List.setIfInBounds_toArray, List.set_cons_succ, List.set_cons_zero]
                        refine order_held (i := 7) rfl (by kernel_rfl) (fun _ _ _ h => h) (.inl ⟨rfl, fun W hW => by
                          have q0 := hW.cell 5
                          go_simp; rfl⟩) HS ?_
                        try simp only [Act.put, List.setIfInBounds_toArray, List.set_cons_succ, List.set_cons_zero]
                        refine order_pure (i := 8) rfl (by kernel_rfl) (fun _ _ _ h => h) (.inl ⟨rfl, fun _ => by go_simp; rfl⟩) ?_
                        try simp only [Act.put, List.setIfInBounds_toArray, List.set_cons_succ, List.set_cons_zero]
                        refine order_pure (i := 9) rfl (by kernel_rfl) (fun _ _ _ h => h) (.inl ⟨rfl, fun _ => by go_simp; rfl⟩) ?_
                        try simp only [Act.put, List.setIfInBounds_toArray, List.set_cons_succ, List.set_cons_zero]
                        refine order_pure (i := 10) rfl (by kernel_rfl) (fun _ _ _ h => h) (.inl ⟨rfl, fun _ => by go_simp; rfl⟩) ?_
                        try simp only [Act.put, List.setIfInBounds_toArray, List.set_cons_succ, List.set_cons_zero]
                        refine order_pure (i := 11) rfl (by kernel_rfl) (fun _ _ _ h => h) (.inl ⟨rfl, fun _ => by go_simp; rfl⟩) ?_
                        try simp only [Act.put, List.setIfInBounds_toArray, List.set_cons_succ, List.set_cons_zero]
                        refine order_pure (i := 12) rfl (by kernel_rfl) (fun _ _ _ h => h) (.inl ⟨rfl, fun _ => by go_simp; rfl⟩) ?_
                        try simp only [Act.put, List.setIfInBounds_toArray, List.set_cons_succ, List.set_cons_zero]
                        refine order_one (i := 13) rfl (by kernel_rfl) (fun K hK => ?_)
                        go_simp
                        refine hK _ _ (fun h => absurd h (by decide)) ?_
                        clear hK
                        try simp only [Act.put, List.setIfInBounds_toArray, List.set_cons_succ, List.set_cons_zero]
                        refine order_done (by kernel_rfl) ?_
                        go_wp2_with fail
                        go_meet
                        exact ⟨rfl, HK4.out.setCell (p := ⟨gf, 0, none⟩) (Or.inl (Or.inl rfl)) _, HT4.far (p := ⟨gf, 0, none⟩) hgbf _, HN4.out.far (p := ⟨gf, 0, none⟩) hgnf _, HF4.out.put 0 _⟩
                case rest =>
                  obtain ⟨rfl, hk7, ht7, hn7, hf7⟩ := hcut
                  clear p0 p1 p2 p3 p4 p5 p6 HS HKD HND HFD
                  have p6 := ht7.cell 6
                  have hnm : tn ≤ 9223372036854775807 := by have := HRO.out.2.2.len (by omega); unfold maxLen at this; exact this
                  have HK7 := hide hk7; have HI7 : Hid (KindAt w1 gb gn gf #[.int .u8 7, .bool ng, .slice la ln lc, .string tx, .int .i64 nm, .slice ia im ic, .slice ta tn tc] (x && (tail.take 0).all isNo7) wc) := hide ⟨hk7, ht7, hn7, by rw [List.take_zero, List.all_nil, Bool.and_true]; exact hf7⟩
                  clear hk7 ht7 hn7 hf7
                  go_wp2
                  go_loopw [80] (fun i wr => ∃ k : Nat, k ≤ tn ∧ i = .int .i64 k ∧ KindAt w1 gb gn gf #[.int .u8 7, .bool ng, .slice la ln lc, .string tx, .int .i64 nm, .slice ia im ic, .slice ta tn tc] (x && (tail.take k).all isNo7) wr) (fun i _ => tn - (intOf i).toNat)
                  case atStart => exact ⟨0, Nat.zero_le _, rfl, HI7.out⟩
                  case round =>
                    obtain ⟨k, hk, rfl, hkr, htr, hnr, hfr⟩ := hrel
                    by_cases hlt : k < tn
                    · have p6r : True := trivial
                      clear p6 p6r
                      obtain ⟨f, hf⟩ : ∃ f, (x && (tail.take k).all isNo7) = f := ⟨_, rfl⟩
                      rw [hf] at hfr
                      have HKR := hide hkr; have HTR := hide htr; have HNR := hide hnr; have HFR := hide hfr; have HF := hide hf
                      have pf := hfr.cell 0
                      have qf : wr.frozen? ⟨gf, 0, none⟩ = false := hfr.free 0
                      have HKK : Hid (Keeps (GF gf gn) w wr) := hide (HK1.out.trans' hkr (fun _ _ h => h.elim) (fun _ _ => id))
                      have HNB : Hid (∀ k, k < w.heap.size → ¬ GF gf gn k) := hide (by
                        intro k hk hc
                        have h1 := HG.out; have h2 := HGB.out
                        rcases hc with h3 | h3 <;> omega)
                      clear hkr htr hnr hfr hf
                      obtain ⟨b, o, kd', ng', la', ln', lc', tx', nm', ia', im', ic', ta', tn', tc', t, hA, h1', h2', h3', f0, f1, f2, f3, f4, f5, f6⟩ := cells_at (HRT2.out.keep HKK.out HNB.out) (TermsIn.keep HKK.out HNB.out _ _ HTT2.out) k hlt
                      subst hA
                      have hk1' : (k : Int) < (tn : Int) := by omega
                      have hk0 : (0 : Int) ≤ (k : Int) := by omega
                      have HE := hide h1'; have HKD := hide h2'.kindOf
                      have HST : Hid ((x && (tail.take (k + 1)).all isNo7) = (f && decide (kd' ≠ 7))) := hide (by
                        rw [List.take_add_one, HE.out, List.all_append, ← Bool.and_assoc, HF.out]
                        simp [isNo7, HKD.out])
                      clear h1' h2' h3'
                      have HKA : Hid (Keeps NoB wr (wr.alloc (.cells #[.int .u8 kd', .bool ng', .slice la' ln' lc', .string tx', .int .i64 nm', .slice ia' im' ic', .slice ta' tn' tc'] 26))) := hide ((Keeps.refl _ _).alloc _)
                      have HFA : Hid (Blk (wr.alloc (.cells #[.int .u8 kd', .bool ng', .slice la' ln' lc', .string tx', .int .i64 nm', .slice ia' im' ic', .slice ta' tn' tc'] 26)) gf 4 #[.bool f]) := hide (HFR.out.alloc _)
                      have pf' : (wr.alloc (.cells #[.int .u8 kd', .bool ng', .slice la' ln' lc', .string tx', .int .i64 nm', .slice ia' im' ic', .slice ta' tn' tc'] 26)).cell? ⟨gf, 0, none⟩ = some (.bool f) := HFA.out.cell 0
                      have qf' : (wr.alloc (.cells #[.int .u8 kd', .bool ng', .slice la' ln' lc', .string tx', .int .i64 nm', .slice ia' im' ic', .slice ta' tn' tc'] 26)).frozen? ⟨gf, 0, none⟩ = false := HFA.out.free 0
                      have hgl : gf < wr.heap.size := HFR.out.lt
                      cases f with
                      | false =>
                        go_wp2_with fail
                        have hst : (x && (tail.take (k + 1)).all isNo7) = false := by rw [HST.out]; rfl
                        refine ⟨⟨k + 1, by omega, by go_num, (HKR.out.setCell (p := ⟨gf, 0, none⟩) (Or.inl (Or.inl rfl)) _).alloc _, (HTR.out.far (p := ⟨gf, 0, none⟩) hgbf _).alloc _, (HNR.out.far (p := ⟨gf, 0, none⟩) hgnf _).alloc _, ?_⟩, by simp [intOf]; omega⟩
                        rw [hst]
                        exact (HFR.out.put 0 _).alloc _
                      | true =>
                        by_cases hk7 : kd' = 7
                        · subst hk7
                          go_wp2_with fail
                          have hst : (x && (tail.take (k + 1)).all isNo7) = false := by rw [HST.out]; simp
                          refine ⟨⟨k + 1, by omega, by go_num, (HKR.out.setCell (p := ⟨gf, 0, none⟩) (Or.inl (Or.inl rfl)) _).alloc _, (HTR.out.far (p := ⟨gf, 0, none⟩) hgbf _).alloc _, (HNR.out.far (p := ⟨gf, 0, none⟩) hgnf _).alloc _, ?_⟩, by simp [intOf]; omega⟩
                          rw [hst]
                          exact (HFR.out.put 0 _).alloc _
                        · have b7 : (kd' != 7) = true := by simp [hk7]
                          have HK7' := hide hk7; clear hk7
                          go_wp2_with fail
                          have hst : (x && (tail.take (k + 1)).all isNo7) = true := by rw [HST.out]; simp [HK7'.out]
                          refine ⟨⟨k + 1, by omega, by go_num, (HKR.out.setCell (p := ⟨gf, 0, none⟩) (Or.inl (Or.inl rfl)) _).alloc _, (HTR.out.far (p := ⟨gf, 0, none⟩) hgbf _).alloc _, (HNR.out.far (p := ⟨gf, 0, none⟩) hgnf _).alloc _, ?_⟩, by simp [intOf]; omega⟩
                          rw [hst]
                          exact (HFR.out.put 0 _).alloc _
                    · go_wp2_with fail
                      go_meet
                      rw [List.take_of_length_le (by have := HLEN.out.2.2; omega)] at hfr
                      have hhx : h = (x && tail.all isNo7) := by
                        rw [← HH.out, head7, HLEN.out.1, HLEN.out.2.1, HLEN.out.2.2, HX.out]; rfl
                      rw [hhx]
                      exact ⟨by simp [eachT], by omega, hkr, htr, (by rw [show baseT 7 = 1 from rfl]; exact hnr), hfr⟩
              · have b1 : (kd == 1) = false := by simp [h1]
                have b2 : (kd == 2) = false := by simp [h2]
                have b3 : (kd == 3) = false := by simp; omega
                have b4 : (kd == 4) = false := by simp [h4]
                have b5 : (kd == 5) = false := by simp; omega
                have b6 : (kd == 6) = false := by simp [h6]
                have b7 : (kd == 7) = false := by simp [h7]
                obtain rfl : h = false := by rw [← HH.out]; exact head0 kd ⟨h2, by omega, h4, by omega, h6, h7⟩ ..
                have hbk : baseT kd = 1 := by unfold baseT; rw [if_neg h4]
                have hek : eachT kd = 0 := by unfold eachT; rw [if_neg h7]
                have HBK := hide hbk; have HEK := hide hek; have HN1K := hide h1
                clear hbk hek h1 h2 h35 h4 h6 h7
                go_wp2_with fail
                go_meet
                exact ⟨by rw [HEK.out], HN1K.out, Keeps.refl _ _, HT1.out, (by rw [HBK.out]; exact HN1.out), HF1.out⟩
  case rest =>
    obtain ⟨rfl, hk1, hkm, hbt, hbn, hbf⟩ := hcut
    have HNB : Hid (∀ k, k < w.heap.size → ¬ GF gf gn k) := hide (by
      intro k hk hc
      have h1 := HG.out; have h2 := HGB.out
      rcases hc with h3 | h3 <;> omega)
    have hgfn : gf ≠ gn := by have := HG.out; omega
    have hgbn : ¬ GF gf gn gb := by have := HG.out; rintro (h | h) <;> omega
    have HGN := hide hgbn
    have hb0 : 0 ≤ baseT kd ∧ baseT kd ≤ 2 := by unfold baseT; split <;> omega
    have he0 : 0 ≤ eachT kd ∧ eachT kd ≤ 1 := by unfold eachT; split <;> omega
    have HA1 : Hid (AddAt wc gf gn (eachT kd) (addS h (baseT kd) (eachT kd) items) items wc) := hide ⟨Keeps.refl _ _, h, baseT kd, hbf, hbn, by omega, by omega, by omega, rfl⟩
    have HKW : Hid (Keeps (GF gf gn) w wc) := hide (HK1.out.trans' hkm (fun _ _ h => h.elim) (fun _ _ => id))
    have p5 := hbt.cell 5
    have HBT := hide hbt; have HK1 := hide hk1; have HE0 := hide he0
    clear hbt hk1 hkm hbn hbf hb0 hgbn he0
    have HS := hide (fun (f f' : Bool) (N N' : Int) => size_of_adds (items := items) (tail := tail) (f := f) (f' := f') (N := N) (N' := N') HK1.out HH.out)
    generalize eachT kd = ek at *
    generalize baseT kd = bk at *
    go_wp2_with
      first
      | (go_at_call 39
         clear p5
         refine (add_of (Tm.size.sizes items) (hide (HIH.out _ HSZ.out.1)) items (Nat.le_refl _) css ia im ic ek gf gn _ _ (fun k => k < w.heap.size) F (HRI2.out.keep HKW.out HNB.out) (TermsIn.keep HKW.out HNB.out _ _ HTI2.out) HRO.out.2.1 HE0.out.1 HE0.out.2 HNB.out hgfn HA1.out).mono ?_
         rintro x w5 ⟨rfl, hk5, f, N, h1f, h1n, h2, h3, h4, h5⟩
         have HKW5 : Hid (Keeps (GF gf gn) w w5) := hide (HKW.out.trans' hk5 (fun _ _ => id) (fun _ _ => id))
         have HA2 : Hid (AddAt w5 gf gn 0 (addS f N 0 tail) tail w5) := hide ⟨Keeps.refl _ _, f, N, h1f, h1n, h2, h3, h4, rfl⟩
         have HR5 := hide h5
         have p6 := (HBT.out.keep hk5 HGN.out).cell 6
         clear hk5 h1f h1n h2 h3 h4 h5)
      | (go_at_call 39
         refine (add_of (Tm.size.sizes tail) (hide (HIH.out _ HSZ.out.2)) tail (Nat.le_refl _) dss ta tn tc 0 gf gn _ _ (fun k => k < w.heap.size) F (HRT2.out.keep HKW5.out HNB.out) (TermsIn.keep HKW5.out HNB.out _ _ HTT2.out) HRO.out.2.2 (by omega) (by omega) HNB.out hgfn HA2.out).mono ?_
         rintro x w6 ⟨rfl, hk6, f', N', h1f, h1n, _, _, _, h5⟩
         have HKW6 : Hid (Keeps NoB w w6) := hide ((HKW5.out.trans' hk6 (fun _ _ => id) (fun _ _ => id) : Keeps (GF gf gn) w w6).mono (fun i hi hf => (HNB.out i hi hf).elim))
         have HR6 := hide h5
         have pf := h1f.cell 0
         have pn := h1n.cell 0
         clear hk6 h1f h1n h5 p6
         cases hf' : f')
      | fail
    all_goals
      go_ret
      refine ⟨?_, HKW6.out⟩
      first
      | exact congrArg (fun i => Ending.returned (Value.int .i64 i)) (HS.out f true N N' HR5.out (hf' ▸ HR6.out)).symm
      | exact congrArg (fun i => Ending.returned (Value.int .i64 i)) (HS.out f false N N' HR5.out (hf' ▸ HR6.out)).symm

set_option maxRecDepth 100000 in
theorem tm_right (t : Tm) (w : World) (B : Nat → Prop) (F : Bool)
    (kd : Int) (ng : Bool) (la : Option Addr) (ln lc : Nat) (tx : ByteArray) (nm : Int) (ia : Option Addr) (im ic : Nat) (ta : Option Addr) (tn tc : Nat)
    (ht : TermIn w B F [.int .u8 kd, .bool ng, .slice la ln lc, .string tx, .int .i64 nm, .slice ia im ic, .slice ta tn tc] t) :
    Calls Tryz.prog 7 #[.agg #[.int .u8 kd, .bool ng, .slice la ln lc, .string tx, .int .i64 nm, .slice ia im ic, .slice ta tn tc]] w fun e w' => e = .returned (.bool (rightT t)) ∧ Keeps NoB w w' := by
  have HT := hide ht; clear ht
  go_enter Tryz.func7, Tryz.ntmps7
  go_wp2_with
    first
    | (go_at_call 24
       refine (tm_size t.size t (Nat.le_refl _) _ B F _ _ _ _ _ _ _ _ _ _ _ _ _ (TermIn.keep ((Keeps.refl NoB w).alloc _) (fun _ _ => id) _ _ HT.out)).mono ?_
       rintro e w2 ⟨rfl, hk2⟩
       have HK2 := hide ((((Keeps.refl NoB w).alloc _).trans' hk2 (fun _ _ => id) (fun _ _ => id) : Keeps NoB w w2))
       clear hk2)
    | fail
  go_ret
  exact ⟨rfl, HK2.out⟩
end Go.Proofs.YtjdbjjjbgibpaaaGreatDoor
