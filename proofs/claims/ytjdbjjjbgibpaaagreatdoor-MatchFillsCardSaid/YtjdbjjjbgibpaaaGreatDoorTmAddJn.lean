/- term.size's own function: it adds the sizes of a list, as long as all is fine. -/
import Derived.Test.YtjdbjjjbgibpaaaGreatDoorTmSmallJn
namespace Go.Proofs.YtjdbjjjbgibpaaaGreatDoor
open Go.RowKit

theorem addT_le : ∀ (l : List Tm) (n e m : Int), addT n e l = some m → 0 ≤ n → n ≤ 4096 → 0 ≤ e → n ≤ m ∧ m ≤ 4096
  | [], n, e, m, h, h0, h1, _ => by unfold addT at h; injection h with h; omega
  | x :: l, n, e, m, h, h0, h1, he => by
    unfold addT at h
    split at h
    · rename_i hc
      have := addT_le l (n + sizeT x + e) e m h (by omega) hc.2 he
      omega
    · cases h
theorem sizeT_le (t : Tm) : 0 ≤ sizeT t ∧ sizeT t ≤ 4096 := by
  cases t with
  | mk k ng limbs text num items tail =>
    unfold sizeT
    split
    · split
      · rename_i h1 h2
        unfold intT at h2
        simp only [Bool.and_eq_true, decide_eq_true_eq] at h2
        have := h2.1.2
        omega
      · omega
    · split
      · have hb : 0 ≤ baseT k ∧ baseT k ≤ 4096 := by unfold baseT; split <;> omega
        have he : 0 ≤ eachT k := by unfold eachT; split <;> omega
        split
        · omega
        · rename_i n hn
          have h1 := addT_le _ _ _ _ hn hb.1 hb.2 he
          split
          · omega
          · rename_i m hm
            have h2 := addT_le _ _ _ _ hm (by omega) h1.2 (Int.le_refl 0)
            omega
      · omega

def addS (f : Bool) (n e : Int) (l : List Tm) : Option Int := if f = true then addT n e l else none
theorem addS_step {f : Bool} {n e : Int} {l : List Tm} {k : Nat} {t : Tm} (h : l[k]? = some t) (hf : f = true) :
    addS f n e (l.drop k) = addS (decide (0 < sizeT t) && decide (n + (sizeT t + e) ≤ 4096)) (n + (sizeT t + e)) e (l.drop (k + 1)) := by
  obtain ⟨h1, h2⟩ := List.getElem?_eq_some_iff.1 h
  rw [List.drop_eq_getElem_cons h1, h2]
  unfold addS
  rw [if_pos hf]
  rw [addT]
  rw [show n + (sizeT t + e) = n + sizeT t + e by omega]
  by_cases c1 : 0 < sizeT t <;> by_cases c2 : n + sizeT t + e ≤ 4096 <;> simp [c1, c2]
theorem addS_false {n e : Int} {l : List Tm} : addS false n e l = none := by unfold addS; simp

def GF (gf gn : Nat) : Nat → Prop := fun k => k = gf ∨ k = gn
/-- What stands in the two boxes, and what is still to come. -/
def AddAt (w0 : World) (gf gn : Nat) (e : Int) (r : Option Int) (l : List Tm) (w : World) : Prop :=
  Keeps (GF gf gn) w0 w ∧ ∃ (f : Bool) (N : Int), Blk w gf 4 #[.bool f] ∧ Blk w gn 3 #[.int .i64 N] ∧ 0 ≤ N ∧ N ≤ 16384 ∧ (f = true → N ≤ 4096) ∧ r = addS f N e l

def SizeSaid (M : Nat) : Prop := ∀ (t : Tm), t.size ≤ M → ∀ (w : World) (B : Nat → Prop) (F : Bool)
    (kd : Int) (ng : Bool) (la : Option Addr) (ln lc : Nat) (tx : ByteArray) (nm : Int) (ia : Option Addr) (im ic : Nat) (ta : Option Addr) (tn tc : Nat),
    TermIn w B F [.int .u8 kd, .bool ng, .slice la ln lc, .string tx, .int .i64 nm, .slice ia im ic, .slice ta tn tc] t →
    Calls Tryz.prog 24 #[.agg #[.int .u8 kd, .bool ng, .slice la ln lc, .string tx, .int .i64 nm, .slice ia im ic, .slice ta tn tc]] w fun e w' => e = .returned (.int .i64 (sizeT t)) ∧ Keeps NoB w w'

set_option maxRecDepth 100000 in
set_option maxHeartbeats 1000000 in
theorem add_of (M : Nat) (IH : Hid (SizeSaid M)) (ts : List Tm) (hM : Tm.size.sizes ts ≤ M) (css : List (List Value)) (A : Option Addr) (n c : Nat) (e : Int) (gf gn : Nat) (r : Option Int) (w : World) (B : Nat → Prop) (F : Bool)
    (hr : Reads w B F 7 A n css.flatten) (ht : TermsIn w B F css ts) (hroom : Roomy n 104) (he0 : 0 ≤ e) (he1 : e ≤ 1) (hB : ∀ k, B k → ¬ GF gf gn k) (hg : gf ≠ gn) (hat : AddAt w gf gn e r ts w) :
    Calls Tryz.prog 39 #[.slice A n c, .int .i64 e, .pointer (some ⟨gf, 0, none⟩), .pointer (some ⟨gn, 0, none⟩)] w fun x w' => x = .returned (.tuple #[]) ∧ AddAt w gf gn e r [] w' := by
  have hln : ts.length = n := by have h1 := hr.1; rw [flat_len ht.lens.2, ht.lens.1] at h1; omega
  have hnm : n ≤ 9223372036854775807 := by have := hroom.len (by omega); unfold maxLen at this; exact this
  have HR := hide hr; have HT := hide ht; have HLN := hide hln; have HM := hide hM; have HB := hide hB; have HAT := hide hat; have HG := hide hg
  clear hr ht hln hM hroom hB hat
  go_enter Tryz.func39, Tryz.ntmps39
  go_wp2
  go_loopw [6] (fun i wr => ∃ k : Nat, k ≤ n ∧ i = .int .i64 k ∧ AddAt w gf gn e r (ts.drop k) wr) (fun i _ => n - (intOf i).toNat)
  case atStart => exact ⟨0, Nat.zero_le _, rfl, by rw [List.drop_zero]; exact HAT.out⟩
  case round =>
    obtain ⟨k, hk, rfl, hinv⟩ := hrel
    obtain ⟨hkw, f, N, hbf, hbn, hN0, hN1, hfN, hrr⟩ := hinv
    have HKW := hide hkw; have HBF := hide hbf; have HBN := hide hbn; have HFN := hide hfN; have HRR := hide hrr
    have pf := hbf.cell 0
    have pn := hbn.cell 0
    clear hkw hbf hbn hfN hrr
    by_cases hlt : k < n
    · cases f with
      | false =>
        go_wp2
        go_end0
        refine ⟨rfl, HKW.out, false, N, HBF.out, HBN.out, hN0, hN1, HFN.out, ?_⟩
        rw [HRR.out, addS_false, addS_false]
      | true =>
        obtain ⟨b, o, kd, ng, la, ln, lc, tx, nm, ia, im, ic, ta, tn, tc, t, hA, h1, h2, h3, f0, f1, f2, f3, f4, f5, f6⟩ := cells_at (HR.out.keep HKW.out HB.out) (TermsIn.keep HKW.out HB.out _ _ HT.out) k hlt
        subst hA
        have hk1 : (k : Int) < (n : Int) := by omega
        have hk0 : (0 : Int) ≤ (k : Int) := by omega
        have hNN : N ≤ 4096 := HFN.out rfl
        have HE := hide h1; have HT2 := hide h2; have HZ := hide h3
        clear h1 h2 h3
        go_wp2_with
          first
          | (go_at_call 24
             refine (IH.out t (by have := HM.out; have := HZ.out; omega) _ _ _ _ _ _ _ _ _ _ _ _ _ _ _ _ HT2.out).mono ?_
             rintro x w2 ⟨rfl, hk2⟩
             have hb2f := HBF.out.keep hk2 id
             have hb2n := HBN.out.keep hk2 id
             have HK2 := hide hk2; have HF2 := hide hb2f; have HN2 := hide hb2n
             clear pf pn f0 f1 f2 f3 f4 f5 f6
             have pf := hb2f.cell 0
             have pn := hb2n.cell 0
             have qf : w2.frozen? ⟨gf, 0, none⟩ = false := hb2f.free 0
             have qn : w2.frozen? ⟨gn, 0, none⟩ = false := hb2n.free 0
             have hs0 := (sizeT_le t).1
             have hs1 := (sizeT_le t).2
             have HST := hide (addS_step (n := N) (e := e) HE.out rfl)
             clear hk2 hb2f hb2n
             generalize sizeT t = s at *
             have hw1 : wrap64 (s + e) = s + e := by unfold wrap64; omega
             have hw2 : wrap64 (N + (s + e)) = N + (s + e) := by unfold wrap64; omega)
          | fail
        all_goals
          have hgn : gn ≠ gf := fun h => HG.out h.symm
          refine ⟨⟨k + 1, by omega, by go_num, ?_, ?_⟩, by simp [intOf]; omega⟩
        · exact ((HKW.out.trans' HK2.out (fun _ _ => id) (fun _ _ h => h.elim)).setCell (p := ⟨gn, 0, none⟩) (Or.inl (Or.inr rfl)) _).setCell (p := ⟨gf, 0, none⟩) (Or.inl (Or.inl rfl)) _
        · refine ⟨decide (N + (s + e) ≤ 4096), N + (s + e), (HF2.out.far (p := ⟨gn, 0, none⟩) hg _).put 0 _, (HN2.out.put 0 _).far (p := ⟨gf, 0, none⟩) hgn _, by omega, by omega, by simp, ?_⟩
          rw [HRR.out, HST.out]
          simp [*]
        · exact ((HKW.out.trans' HK2.out (fun _ _ => id) (fun _ _ h => h.elim)).setCell (p := ⟨gn, 0, none⟩) (Or.inl (Or.inr rfl)) _).setCell (p := ⟨gf, 0, none⟩) (Or.inl (Or.inl rfl)) _
        · refine ⟨false, N + (s + e), (HF2.out.far (p := ⟨gn, 0, none⟩) hg _).put 0 _, (HN2.out.put 0 _).far (p := ⟨gf, 0, none⟩) hgn _, by omega, by omega, by simp, ?_⟩
          rw [HRR.out, HST.out]
          simp [*]
    · go_wp2
      go_end0
      refine ⟨rfl, HKW.out, f, N, HBF.out, HBN.out, hN0, hN1, HFN.out, ?_⟩
      rw [HRR.out, List.drop_eq_nil_of_le (by have := HLN.out; omega)]
end Go.Proofs.YtjdbjjjbgibpaaaGreatDoor
