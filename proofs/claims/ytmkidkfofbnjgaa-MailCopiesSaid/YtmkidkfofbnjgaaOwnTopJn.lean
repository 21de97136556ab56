/- mail.own: terms in memory of their own. mail.own$1, walked: it copies terms, however deep, into memory of their own. mail.own: it hands back terms in memory of their own. -/
import Derived.Test.YtmkidkfofbnjgaaSeqJn
import Derived.Deep.LoopGhost
import Derived.Laws.EntriesVeiled
namespace Go.Proofs.Ytmkidkfofbnjgaa
open Go.RowKit

/-- What own hands back: a row of its own, and below it terms of their own, made behind the row. -/
def OwnPost (w : World) (n : Nat) (ts : List Tm) (e : Ending) (w' : World) : Prop :=
  ∃ A' c' css' m, e = .returned (.slice A' n c') ∧ n ≤ c' ∧ m ≤ w'.heap.size ∧ w.heap.size ≤ m ∧ Reads w' (fun k => w.heap.size ≤ k ∧ k < m) true 7 A' n (List.flatten css') ∧ TermsIn w' (fun k => m ≤ k ∧ k < w'.heap.size) true css' ts ∧ Below w.heap.size w w'

def EachAt (w : World) (eB : Nat) : Prop := w.cell? ⟨eB, 0, none⟩ = some (.func (.func 42) #[] #[.pointer (some ⟨eB, 0, none⟩)])

/-- The loop's state: the first k rows are own copies by now. -/
def OwnInv (w w1 : World) (A' : Option Addr) (n : Nat) (css : List (List Value)) (ts : List Tm) (k : Nat) (wr : World) : Prop :=
  ∃ css', css'.length = k ∧ Reads wr (Fresh w w1) true 7 A' n (List.flatten (css' ++ css.drop k)) ∧ TermsIn wr (Fresh w1 wr) true css' (ts.take k) ∧ Keeps NoB w wr ∧ w1.heap.size ≤ wr.heap.size

theorem own_step {w w1 wr W5 : World} {gb go n k : Nat} {css css' : List (List Value)} {ts : List Tm} {t : Tm} {v0 v1 v2 v3 v4 v5 v6 : Value}
    (hk' : css'.length = k) (hr : Reads wr (Fresh w w1) true 7 (some ⟨gb, go, none⟩) n (List.flatten (css' ++ css.drop k))) (ht : TermsIn wr (Fresh w1 wr) true css' (ts.take k)) (hb : Keeps NoB w wr) (h1 : w1.heap.size ≤ wr.heap.size)
    (hlt : k < css.length) (hcl : css.length = n) (h7 : ∀ c ∈ css, c.length = 7) (hww : w.heap.size ≤ gb) (hgw : gb < w1.heap.size)
    (h5 : Keeps NoB wr W5) (htk : ts[k]? = some t) (htm : TermIn W5 (Fresh wr W5) true [v0, v1, v2, v3, v4, v5, v6] t) :
    OwnInv w w1 (some ⟨gb, go, none⟩) n css ts (k + 1) (((((((W5.setCell ⟨gb, go + k * 7, none⟩ v0).setCell ⟨gb, go + k * 7 + 1, none⟩ v1).setCell ⟨gb, go + k * 7 + 2, none⟩ v2).setCell ⟨gb, go + k * 7 + 3, none⟩ v3).setCell ⟨gb, go + k * 7 + 4, none⟩ v4).setCell ⟨gb, go + k * 7 + 5, none⟩ v5).setCell ⟨gb, go + k * 7 + 6, none⟩ v6) := by
  have hl7 : ∀ c ∈ css' ++ css.drop k, c.length = 7 := by
    intro c hc
    rcases List.mem_append.1 hc with hc | hc
    · exact ht.lens.2 c hc
    · exact h7 c (List.mem_of_mem_drop hc)
  have hlen : (css' ++ css.drop k).flatten.length = n * 7 := hr.1
  have hkn : k * 7 + 6 < n * 7 := by omega
  have hK : Keeps (fun x => x = gb) W5 (((((((W5.setCell ⟨gb, go + k * 7, none⟩ v0).setCell ⟨gb, go + k * 7 + 1, none⟩ v1).setCell ⟨gb, go + k * 7 + 2, none⟩ v2).setCell ⟨gb, go + k * 7 + 3, none⟩ v3).setCell ⟨gb, go + k * 7 + 4, none⟩ v4).setCell ⟨gb, go + k * 7 + 5, none⟩ v5).setCell ⟨gb, go + k * 7 + 6, none⟩ v6) :=
    ((((((((Keeps.refl (fun x => x = gb) W5).setCell (p := ⟨gb, go + k * 7, none⟩) (.inl rfl) v0).setCell (p := ⟨gb, go + k * 7 + 1, none⟩) (.inl rfl) v1).setCell (p := ⟨gb, go + k * 7 + 2, none⟩) (.inl rfl) v2).setCell (p := ⟨gb, go + k * 7 + 3, none⟩) (.inl rfl) v3).setCell (p := ⟨gb, go + k * 7 + 4, none⟩) (.inl rfl) v4).setCell (p := ⟨gb, go + k * 7 + 5, none⟩) (.inl rfl) v5).setCell (p := ⟨gb, go + k * 7 + 6, none⟩) (.inl rfl) v6)
  have hr5 := hr.keep h5 (fun _ _ => id)
  have q0 := hr5.put1 (j := k * 7) (by omega) v0
  have q1 := q0.put1 (j := k * 7 + 1) (by simp only [List.length_set]; omega) v1
  have q2 := q1.put1 (j := k * 7 + 2) (by simp only [List.length_set]; omega) v2
  have q3 := q2.put1 (j := k * 7 + 3) (by simp only [List.length_set]; omega) v3
  have q4 := q3.put1 (j := k * 7 + 4) (by simp only [List.length_set]; omega) v4
  have q5 := q4.put1 (j := k * 7 + 5) (by simp only [List.length_set]; omega) v5
  have q6 := q5.put1 (j := k * 7 + 6) (by simp only [List.length_set]; omega) v6
  rw [flat_set7 hl7 k (by rw [List.length_append, List.length_drop]; omega)] at q6
  have eset : (css' ++ css.drop k).set k [v0, v1, v2, v3, v4, v5, v6] = css' ++ [[v0, v1, v2, v3, v4, v5, v6]] ++ css.drop (k + 1) := by
    rw [List.set_append_right _ _ (by omega), hk', Nat.sub_self, List.drop_eq_getElem_cons hlt, List.set_cons_zero]
    simp
  rw [eset] at q6
  refine ⟨css' ++ [[v0, v1, v2, v3, v4, v5, v6]], by simp [hk'], q6, ?_, ?_, ?_⟩
  · have e : ts.take (k + 1) = ts.take k ++ [t] := by
      rw [List.take_add_one, htk]; rfl
    rw [e]
    have hsz : W5.heap.size = (((((((W5.setCell ⟨gb, go + k * 7, none⟩ v0).setCell ⟨gb, go + k * 7 + 1, none⟩ v1).setCell ⟨gb, go + k * 7 + 2, none⟩ v2).setCell ⟨gb, go + k * 7 + 3, none⟩ v3).setCell ⟨gb, go + k * 7 + 4, none⟩ v4).setCell ⟨gb, go + k * 7 + 5, none⟩ v5).setCell ⟨gb, go + k * 7 + 6, none⟩ v6).heap.size := by simp [World.setCell]
    have a1 := TermsIn.keep hK (fun x hx e => by have := hx.1; omega) _ _ (TermsIn.keep h5 (fun _ _ => id) _ _ ht)
    have a2 := TermIn.keep hK (fun x hx e => by have := hx.1; omega) _ _ htm
    refine TermsIn.append (TermsIn.more (fun x hx hB => ⟨hB.1, hx⟩) _ _ a1) (TermsIn.one (TermIn.more (fun x hx hB => ⟨by have := hB.1; omega, hx⟩) _ _ a2))
  · exact (hb.trans' h5 (fun _ _ => id) (fun _ _ => id)).trans' hK (fun _ _ => id) (fun x hx e => by omega)
  · exact Nat.le_trans h1 (Nat.le_trans h5.size hK.size)

end Go.Proofs.Ytmkidkfofbnjgaa
namespace Go.Proofs.Ytmkidkfofbnjgaa
open Go.RowKit

set_option maxRecDepth 100000 in
set_option maxHeartbeats 1000000 in
theorem own1_any (N : Nat) : ∀ (ts : List Tm), Tm.size.sizes ts ≤ N → ∀ (css : List (List Value)) (A : Option Addr) (n c eB : Nat) (w : World) (B : Nat → Prop) (F : Bool),
    Reads w B F 7 A n css.flatten → TermsIn w B F css ts → Roomy n 104 → EachAt w eB →
    Calls Try.prog 42 #[.slice A n c, .pointer (some ⟨eB, 0, none⟩)] w (OwnPost w n ts) := by
  induction N using Nat.strongRecOn with
  | ind N ih =>
    intro ts hN css A n c eB w B F hr ht hb he
    have IH := hide ih; clear ih
    have HE := hide he; clear he
    have HT := hide ht
    go_enter Try.func42, Try.ntmps42
    go_wp2_with (go_at_call 43; refine (clone_terms B F A n c _ _ hr (TermsIn.ones _ _ ht) hb).mono ?_; rintro e w1 ⟨A1, c1, rfl, hown, hbel⟩)
    have hl := ht.lens
    have hcl : css.length = n := by have := hr.1; rw [flat_len hl.2] at this; omega
    have hnm : n ≤ 9223372036854775807 := by have := hb.len (by omega); unfold maxLen at this; exact this
    have HC := hide hcl; clear hcl
    have HL := hide hl; clear hl
    have HR := hide hr; clear hr
    have HO := hide hown; clear hown
    have HBel := hide hbel; clear hbel ht
    go_loopw [11] (fun i wr => ∃ k : Nat, k ≤ n ∧ i = .int .i64 k ∧ OwnInv w w1 A1 n css ts k wr) (fun i _ => n - (intOf i).toNat)
    case atStart =>
      refine ⟨0, Nat.zero_le _, rfl, [], rfl, ?_, by unfold TermsIn; simp, Keeps.of_below HBel.out _, Nat.le_refl _⟩
      exact (Reads.of_own HO.out).more (fun k _ hk => ⟨hk.1, hk.2.1⟩)
    case round =>
      obtain ⟨k, hk, rfl, hinv⟩ := hrel
      have HI := hide hinv; clear hinv
      by_cases hlt : k < n
      · obtain ⟨css', hk', hr', ht', hb', h1'⟩ := HI.out
        have hkc : k < css.length := by have := HC.out; omega
        obtain ⟨kd, ng, la, ln, lc, tx, nm, ia, im, ic, ta, tn, tc, limbs, items, tail, dss, ess, hcs, htk, hroom, hrl, hri, hti, hrt, htt, hsz⟩ := TermsIn.at HT.out k hkc
        have HRr := hide hr'
        obtain ⟨hnA, hAd⟩ := hr'
        obtain ⟨⟨gb, go, sp⟩, hA, hs, hB, hgl, hcells⟩ := hAd (by omega)
        subst hA
        simp only at hs
        subst hs
        have hl7 : ∀ c ∈ css' ++ css.drop k, c.length = 7 := by
          intro c hc
          rcases List.mem_append.1 hc with hc | hc
          · exact ht'.lens.2 c hc
          · exact HL.out.2 c (List.mem_of_mem_drop hc)
        have hat : (css' ++ css.drop k)[k]? = some [.int .u8 kd, .bool ng, .slice la ln lc, .string tx, .int .i64 nm, .slice ia im ic, .slice ta tn tc] := by
          rw [List.getElem?_append_right (by omega), hk', Nat.sub_self, List.getElem?_drop, Nat.add_zero]
          exact hcs
        obtain ⟨e0, e1, e2, e3, e4, e5, e6⟩ := flat_cells hl7 hat
        have f0 : wr.cell? ⟨gb, go + k * 7, none⟩ = some (.int .u8 kd) := (hcells _ _ e0).1
        have f1 : wr.cell? ⟨gb, go + k * 7 + 1, none⟩ = some (.bool ng) := (hcells _ _ e1).1
        have f2 : wr.cell? ⟨gb, go + k * 7 + 2, none⟩ = some (.slice la ln lc) := (hcells _ _ e2).1
        have f3 : wr.cell? ⟨gb, go + k * 7 + 3, none⟩ = some (.string tx) := (hcells _ _ e3).1
        have f4 : wr.cell? ⟨gb, go + k * 7 + 4, none⟩ = some (.int .i64 nm) := (hcells _ _ e4).1
        have f5 : wr.cell? ⟨gb, go + k * 7 + 5, none⟩ = some (.slice ia im ic) := (hcells _ _ e5).1
        have f6 : wr.cell? ⟨gb, go + k * 7 + 6, none⟩ = some (.slice ta tn tc) := (hcells _ _ e6).1
        have HZ := hide (And.intro ((hcells _ _ e0).2 rfl) (And.intro ((hcells _ _ e1).2 rfl) (And.intro ((hcells _ _ e2).2 rfl) (And.intro ((hcells _ _ e3).2 rfl) (And.intro ((hcells _ _ e4).2 rfl) (And.intro ((hcells _ _ e5).2 rfl) ((hcells _ _ e6).2 rfl)))))))
        have HF := hide (And.intro f0 (And.intro f1 (And.intro f2 (And.intro f3 (And.intro f4 (And.intro f5 f6))))))
        have HB := hide hb'
        have HKL := hide hk'; have HTr := hide ht'; have HH1 := hide h1'; have HTK := hide htk; have HBB := hide hB
        have HRo := hide hroom; have HRl := hide hrl; have HRi := hide hri; have HTi := hide hti; have HRt := hide hrt; have HTt := hide htt; have HSz := hide hsz
        clear hcells hAd hnA hb' ht' hcs hk' hB hat e0 e1 e2 e3 e4 e5 e6 hl7 htk hroom hrl hri hti hrt htt hsz h1'
        go_wp2_with fail
        clear f0 f1 f2 f3 f4 f5 f6
        have hKw : Keeps NoB w (wr.alloc (.cells #[.int .u8 kd, .bool ng, .slice la ln lc, .string tx, .int .i64 nm, .slice ia im ic, .slice ta tn tc] 33)).drew := (HB.out.alloc _).drew
        have hKr : Keeps NoB wr (wr.alloc (.cells #[.int .u8 kd, .bool ng, .slice la ln lc, .string tx, .int .i64 nm, .slice ia im ic, .slice ta tn tc] 33)).drew := ((Keeps.refl NoB wr).alloc _).drew
        have hblk : Blk (wr.alloc (.cells #[.int .u8 kd, .bool ng, .slice la ln lc, .string tx, .int .i64 nm, .slice ia im ic, .slice ta tn tc] 33)).drew wr.heap.size 33 #[.int .u8 kd, .bool ng, .slice la ln lc, .string tx, .int .i64 nm, .slice ia im ic, .slice ta tn tc] := Blk.new wr 33 _
        refine order_begin (fun W => Blk W wr.heap.size 33 #[.int .u8 kd, .bool ng, .slice la ln lc, .string tx, .int .i64 nm, .slice ia im ic, .slice ta tn tc] ∧ EachAt W eB) (fun i => !(i == 12 || i == 14 || i == 16)) (by kernel_rfl) 17 rfl ?_
        generalize (wr.alloc (.cells #[.int .u8 kd, .bool ng, .slice la ln lc, .string tx, .int .i64 nm, .slice ia im ic, .slice ta tn tc] 33)).drew = W0 at *
        have HS : Blk W0 wr.heap.size 33 #[.int .u8 kd, .bool ng, .slice la ln lc, .string tx, .int .i64 nm, .slice ia im ic, .slice ta tn tc] ∧ EachAt W0 eB := ⟨hblk, hKw.cell id HE.out⟩
        have HKw := hide hKw
        have HKr := hide hKr
        clear hKw hKr hblk
        refine order_pure (i := 0) rfl (by kernel_rfl) (fun _ _ _ h => h) (.inl ⟨rfl, fun _ => by go_simp; rfl⟩) ?_
        try simp only [Act.put, List.setIfInBounds_toArray, List.set_cons_succ, List.set_cons_zero]
        refine order_held (i := 1) rfl (by kernel_rfl) (fun _ _ _ h => h) (.inl ⟨rfl, fun W hW => by
          have q0 : W.cell? ⟨wr.heap.size, 2, none⟩ = some (.slice la ln lc) := hW.1.cell 2
          go_simp; rfl⟩) HS ?_
        try simp only [Act.put, List.setIfInBounds_toArray, List.set_cons_succ, List.set_cons_zero]
        refine order_held (i := 3) rfl (by kernel_rfl) (fun _ _ _ h => h) (.inl ⟨rfl, fun W hW => by
          have q0 : W.cell? ⟨eB, 0, none⟩ = some (.func (.func 42) #[] #[.pointer (some ⟨eB, 0, none⟩)]) := hW.2
          go_simp; rfl⟩) HS ?_
        try simp only [Act.put, List.setIfInBounds_toArray, List.set_cons_succ, List.set_cons_zero]
        refine order_pure (i := 4) rfl (by kernel_rfl) (fun _ _ _ h => h) (.inl ⟨rfl, fun _ => by go_simp; rfl⟩) ?_
        try simp only [Act.put, List.setIfInBounds_toArray, List.set_cons_succ, List.set_cons_zero]
        refine order_held (i := 5) rfl (by kernel_rfl) (fun _ _ _ h => h) (.inl ⟨rfl, fun W hW => by
          have q0 : W.cell? ⟨wr.heap.size, 5, none⟩ = some (.slice ia im ic) := hW.1.cell 5
          go_simp; rfl⟩) HS ?_
        try simp only [Act.put, List.setIfInBounds_toArray, List.set_cons_succ, List.set_cons_zero]
        refine order_held (i := 7) rfl (by kernel_rfl) (fun _ _ _ h => h) (.inl ⟨rfl, fun W hW => by
          have q0 : W.cell? ⟨eB, 0, none⟩ = some (.func (.func 42) #[] #[.pointer (some ⟨eB, 0, none⟩)]) := hW.2
          go_simp; rfl⟩) HS ?_
        try simp only [Act.put, List.setIfInBounds_toArray, List.set_cons_succ, List.set_cons_zero]
        refine order_pure (i := 8) rfl (by kernel_rfl) (fun _ _ _ h => h) (.inl ⟨rfl, fun _ => by go_simp; rfl⟩) ?_
        try simp only [Act.put, List.setIfInBounds_toArray, List.set_cons_succ, List.set_cons_zero]
        refine order_held (i := 9) rfl (by kernel_rfl) (fun _ _ _ h => h) (.inl ⟨rfl, fun W hW => by
          have q0 : W.cell? ⟨wr.heap.size, 6, none⟩ = some (.slice ta tn tc) := hW.1.cell 6
          go_simp; rfl⟩) HS ?_
        try simp only [Act.put, List.setIfInBounds_toArray, List.set_cons_succ, List.set_cons_zero]
        refine order_one (i := 2) rfl (by kernel_rfl) (fun K hK => ?_)
        go_simp
        refine (clone_limbs B F la ln lc (limbs.map (Value.int .u32)) W0 (HRl.out.keep HKw.out (fun _ _ => id)) (fun u hu => by obtain ⟨x, _, rfl⟩ := List.mem_map.1 hu; rfl) HRo.out.1).mono ?_
        rintro e w2 ⟨A2, c2, rfl, hown2, hbel2⟩
        have HO2 := hide hown2
        have HK2 := hide (Keeps.of_below hbel2 NoB)
        clear hown2 hbel2
        refine hK _ _ (fun _ hS => ⟨hS.1.keep HK2.out id, HK2.out.cell id hS.2⟩) ?_
        clear hK
        have HS2 : Blk w2 wr.heap.size 33 #[.int .u8 kd, .bool ng, .slice la ln lc, .string tx, .int .i64 nm, .slice ia im ic, .slice ta tn tc] ∧ EachAt w2 eB := ⟨HS.1.keep HK2.out id, HK2.out.cell id HS.2⟩
        have HKw2 := hide (HKw.out.trans' HK2.out (fun _ _ => id) (fun _ _ => id) : Keeps NoB w w2)
        try simp only [Act.put, List.setIfInBounds_toArray, List.set_cons_succ, List.set_cons_zero]
        refine order_pure (i := 11) rfl (by kernel_rfl) (fun _ _ _ h => h) (.inl ⟨rfl, fun _ => by go_simp; rfl⟩) ?_
        try simp only [Act.put, List.setIfInBounds_toArray, List.set_cons_succ, List.set_cons_zero]
        refine order_one (i := 6) rfl (by kernel_rfl) (fun K hK => ?_)
        go_simp
        refine (IH.out (Tm.size.sizes items) (by have := HSz.out; omega) items (Nat.le_refl _) dss ia im ic eB w2 B F (HRi.out.keep HKw2.out (fun _ _ => id)) (TermsIn.keep HKw2.out (fun _ _ => id) _ _ HTi.out) HRo.out.2.1 HS2.2).mono ?_
        rintro e w3 ⟨A3, c3, dss3, m3, rfl, hc3, hm3, hn3, hr3, ht3, hbel3⟩
        have HO3 := hide (And.intro hm3 (And.intro hn3 (And.intro hr3 ht3)))
        have HK3 := hide (Keeps.of_below hbel3 NoB)
        clear hm3 hn3 hr3 ht3 hbel3
        refine hK _ _ (fun _ hS => ⟨hS.1.keep HK3.out id, HK3.out.cell id hS.2⟩) ?_
        clear hK
        have HS3 : Blk w3 wr.heap.size 33 #[.int .u8 kd, .bool ng, .slice la ln lc, .string tx, .int .i64 nm, .slice ia im ic, .slice ta tn tc] ∧ EachAt w3 eB := ⟨HS2.1.keep HK3.out id, HK3.out.cell id HS2.2⟩
        have HKw3 := hide (HKw2.out.trans' HK3.out (fun _ _ => id) (fun _ _ => id) : Keeps NoB w w3)
        try simp only [Act.put, List.setIfInBounds_toArray, List.set_cons_succ, List.set_cons_zero]
        refine order_one (i := 10) rfl (by kernel_rfl) (fun K hK => ?_)
        go_simp
        refine (IH.out (Tm.size.sizes tail) (by have := HSz.out; omega) tail (Nat.le_refl _) ess ta tn tc eB w3 B F (HRt.out.keep HKw3.out (fun _ _ => id)) (TermsIn.keep HKw3.out (fun _ _ => id) _ _ HTt.out) HRo.out.2.2 HS3.2).mono ?_
        rintro e w4 ⟨A4, c4, ess4, m4, rfl, hc4, hm4, hn4, hr4, ht4, hbel4⟩
        have HO4 := hide (And.intro hm4 (And.intro hn4 (And.intro hr4 ht4)))
        have HK4 := hide (Keeps.of_below hbel4 NoB)
        clear hm4 hn4 hr4 ht4 hbel4
        refine hK _ _ (fun _ hS => ⟨hS.1.keep HK4.out id, HK4.out.cell id hS.2⟩) ?_
        clear hK
        have HB4 := hide (HS3.1.keep HK4.out id : Blk w4 wr.heap.size 33 #[.int .u8 kd, .bool ng, .slice la ln lc, .string tx, .int .i64 nm, .slice ia im ic, .slice ta tn tc])
        try simp only [Act.put, List.setIfInBounds_toArray, List.set_cons_succ, List.set_cons_zero]
        have s2 : w4.cell? ⟨wr.heap.size, 2, none⟩ = some (.slice la ln lc) := HB4.out.cell 2
        have t2 : w4.frozen? ⟨wr.heap.size, 2, none⟩ = false := HB4.out.free 2
        refine order_one (i := 12) rfl (by kernel_rfl) (fun K hK => ?_)
        go_simp
        refine hK _ _ (fun h => absurd h (by decide)) ?_
        clear hK
        try simp only [Act.put, List.setIfInBounds_toArray, List.set_cons_succ, List.set_cons_zero]
        clear s2 t2
        have HK5 := hide ((Keeps.refl (fun x => x = wr.heap.size) w4).setCell (p := ⟨wr.heap.size, 2, none⟩) (.inl rfl) (.slice A2 ln c2))
        have HB5 := hide (HB4.out.put 2 (.slice A2 ln c2))
        generalize w4.setCell ⟨wr.heap.size, 2, none⟩ (.slice A2 ln c2) = w5 at *
        refine order_pure (i := 13) rfl (by kernel_rfl) (fun _ _ _ h => h) (.inl ⟨rfl, fun _ => by go_simp; rfl⟩) ?_
        try simp only [Act.put, List.setIfInBounds_toArray, List.set_cons_succ, List.set_cons_zero]
        have s2 : w5.cell? ⟨wr.heap.size, 5, none⟩ = some (.slice ia im ic) := HB5.out.cell 5
        have t2 : w5.frozen? ⟨wr.heap.size, 5, none⟩ = false := HB5.out.free 5
        refine order_one (i := 14) rfl (by kernel_rfl) (fun K hK => ?_)
        go_simp
        refine hK _ _ (fun h => absurd h (by decide)) ?_
        clear hK
        try simp only [Act.put, List.setIfInBounds_toArray, List.set_cons_succ, List.set_cons_zero]
        clear s2 t2
        have HK6 := hide ((Keeps.refl (fun x => x = wr.heap.size) w5).setCell (p := ⟨wr.heap.size, 5, none⟩) (.inl rfl) (.slice A3 im c3))
        have HB6 := hide (HB5.out.put 5 (.slice A3 im c3))
        generalize w5.setCell ⟨wr.heap.size, 5, none⟩ (.slice A3 im c3) = w6 at *
        refine order_pure (i := 15) rfl (by kernel_rfl) (fun _ _ _ h => h) (.inl ⟨rfl, fun _ => by go_simp; rfl⟩) ?_
        try simp only [Act.put, List.setIfInBounds_toArray, List.set_cons_succ, List.set_cons_zero]
        have s2 : w6.cell? ⟨wr.heap.size, 6, none⟩ = some (.slice ta tn tc) := HB6.out.cell 6
        have t2 : w6.frozen? ⟨wr.heap.size, 6, none⟩ = false := HB6.out.free 6
        refine order_one (i := 16) rfl (by kernel_rfl) (fun K hK => ?_)
        go_simp
        refine hK _ _ (fun h => absurd h (by decide)) ?_
        clear hK
        try simp only [Act.put, List.setIfInBounds_toArray, List.set_cons_succ, List.set_cons_zero]
        clear s2 t2
        have HK7 := hide ((Keeps.refl (fun x => x = wr.heap.size) w6).setCell (p := ⟨wr.heap.size, 6, none⟩) (.inl rfl) (.slice A4 tn c4))
        have HB7 := hide (HB6.out.put 6 (.slice A4 tn c4))
        generalize w6.setCell ⟨wr.heap.size, 6, none⟩ (.slice A4 tn c4) = w7 at *
        refine order_done (by kernel_rfl) ?_
        have b0 : w7.cell? ⟨wr.heap.size, 0, none⟩ = some (.int .u8 kd) := HB7.out.cell 0
        have b1 : w7.cell? ⟨wr.heap.size, 1, none⟩ = some (.bool ng) := HB7.out.cell 1
        have b2 : w7.cell? ⟨wr.heap.size, 2, none⟩ = some (.slice A2 ln c2) := HB7.out.cell 2
        have b3 : w7.cell? ⟨wr.heap.size, 3, none⟩ = some (.string tx) := HB7.out.cell 3
        have b4 : w7.cell? ⟨wr.heap.size, 4, none⟩ = some (.int .i64 nm) := HB7.out.cell 4
        have b5 : w7.cell? ⟨wr.heap.size, 5, none⟩ = some (.slice A3 im c3) := HB7.out.cell 5
        have b6 : w7.cell? ⟨wr.heap.size, 6, none⟩ = some (.slice A4 tn c4) := HB7.out.cell 6
        have HKr7 : Keeps NoB wr w7 := ((((((HKr.out.trans' HK2.out (fun _ _ => id) (fun _ _ => id) : Keeps NoB wr w2).trans' HK3.out (fun _ _ => id) (fun _ _ => id) : Keeps NoB wr w3).trans' HK4.out (fun _ _ => id) (fun _ _ => id) : Keeps NoB wr w4).trans' HK5.out (fun _ _ => id) (fun x hx e => by omega) : Keeps NoB wr w5).trans' HK6.out (fun _ _ => id) (fun x hx e => by omega) : Keeps NoB wr w6).trans' HK7.out (fun _ _ => id) (fun x hx e => by omega))
        obtain ⟨g0, g1, g2, g3, g4, g5, g6⟩ := HF.out
        obtain ⟨y0, y1, y2, y3, y4, y5, y6⟩ := HZ.out
        have f0 := HKr7.cell id g0
        have f1 := HKr7.cell id g1
        have f2 := HKr7.cell id g2
        have f3 := HKr7.cell id g3
        have f4 := HKr7.cell id g4
        have f5 := HKr7.cell id g5
        have f6 := HKr7.cell id g6
        have z0 := (HKr7.frozen (p := ⟨gb, go + k * 7, none⟩) hgl id).trans y0
        have z1 := (HKr7.frozen (p := ⟨gb, go + k * 7 + 1, none⟩) hgl id).trans y1
        have z2 := (HKr7.frozen (p := ⟨gb, go + k * 7 + 2, none⟩) hgl id).trans y2
        have z3 := (HKr7.frozen (p := ⟨gb, go + k * 7 + 3, none⟩) hgl id).trans y3
        have z4 := (HKr7.frozen (p := ⟨gb, go + k * 7 + 4, none⟩) hgl id).trans y4
        have z5 := (HKr7.frozen (p := ⟨gb, go + k * 7 + 5, none⟩) hgl id).trans y5
        have z6 := (HKr7.frozen (p := ⟨gb, go + k * 7 + 6, none⟩) hgl id).trans y6
        have HKr7 := hide HKr7
        clear g0 g1 g2 g3 g4 g5 g6 y0 y1 y2 y3 y4 y5 y6
        have htm : TermIn w7 (Fresh wr w7) true [.int .u8 kd, .bool ng, .slice A2 ln c2, .string tx, .int .i64 nm, .slice A3 im c3, .slice A4 tn c4] (.mk kd ng limbs tx nm items tail) := by
          have hp0 : wr.heap.size < W0.heap.size := HS.1.lt
          have k47 : Keeps (fun x => x = wr.heap.size) w4 w7 := (HK5.out.trans' HK6.out (fun _ _ h => h) (fun _ _ h => h) : Keeps (fun x => x = wr.heap.size) w4 w6).trans' HK7.out (fun _ _ h => h) (fun _ _ h => h)
          have k37 : Keeps (fun x => x = wr.heap.size) w3 w7 := HK4.out.trans' k47 (fun _ _ h => h.elim) (fun _ _ h => h)
          have k27 : Keeps (fun x => x = wr.heap.size) w2 w7 := HK3.out.trans' k37 (fun _ _ h => h.elim) (fun _ _ h => h)
          have s0 := HKr.out.size; have s2 := HK2.out.size; have s3 := HK3.out.size; have s4 := HK4.out.size; have s47 := k47.size
          obtain ⟨hm3, hn3, hr3, ht3⟩ := HO3.out
          obtain ⟨hm4, hn4, hr4, ht4⟩ := HO4.out
          unfold TermIn
          refine ⟨A2, ln, c2, A3, im, c3, A4, tn, c4, dss3, ess4, rfl, HRo.out, ?_, ?_, ?_, ?_, ?_⟩
          · exact ((Reads.of_own HO2.out).keep k27 (fun x hx e => by have := hx.1; omega)).more (fun x _ hx => ⟨by have := hx.1; omega, by have := hx.2.1; omega⟩)
          · exact (hr3.keep k37 (fun x hx e => by have := hx.1; omega)).more (fun x _ hx => ⟨by have := hx.1; omega, by have := hx.2; omega⟩)
          · exact TermsIn.more (fun x _ hx => ⟨by have := hx.1; omega, by have := hx.2; omega⟩) _ _ (TermsIn.keep k37 (fun x hx e => by have := hx.1; omega) _ _ ht3)
          · exact (hr4.keep k47 (fun x hx e => by have := hx.1; omega)).more (fun x _ hx => ⟨by have := hx.1; omega, by have := hx.2; omega⟩)
          · exact TermsIn.more (fun x _ hx => ⟨by have := hx.1; omega, by have := hx.2; omega⟩) _ _ (TermsIn.keep k47 (fun x hx e => by have := hx.1; omega) _ _ ht4)
        have HTM := hide htm
        clear htm
        go_wp2
        go_roundw
        case rel => exact ⟨k + 1, by omega, by go_num, own_step HKL.out HRr.out HTr.out HB.out HH1.out (by have := HC.out; omega) HC.out HL.out.2 HBB.out.1 HBB.out.2 HKr7.out HTK.out HTM.out⟩
        case measure => simp [intOf]; omega
      · go_wp2
        go_ret
        obtain ⟨css', hk', hr', ht', hb', h1'⟩ := HI.out
        have hkn : k = n := by omega
        have hcl := HC.out
        rw [hkn, List.drop_of_length_le (by omega), List.append_nil] at hr'
        rw [List.take_of_length_le (by have := HL.out.1; omega)] at ht'
        obtain ⟨A9, c9, hv, hnc, _⟩ := ownsRow_mk HO.out
        injection hv with _ _ hc9
        exact ⟨A1, c1, css', w1.heap.size, rfl, by omega, h1', HBel.out.size, hr'.more (fun x _ hx => ⟨hx.1, hx.2⟩), TermsIn.more (fun x _ hx => ⟨hx.1, hx.2⟩) _ _ ht', hb'.below⟩
end Go.Proofs.Ytmkidkfofbnjgaa
namespace Go.Proofs.Ytmkidkfofbnjgaa
open Go.RowKit

theorem own_any (ts : List Tm) (css : List (List Value)) (A : Option Addr) (n c : Nat) (w : World) (B : Nat → Prop) (F : Bool)
    (hr : Reads w B F 7 A n css.flatten) (ht : TermsIn w B F css ts) (hb : Roomy n 104) :
    Calls Try.prog 33 #[.slice A n c] w (OwnPost w n ts) := by
  have HR := hide hr; have HT := hide ht
  clear hr ht
  go_enter Try.func33, Try.ntmps33
  have hK : Keeps NoB w (w.alloc (.cells #[.func (.func 42) #[] #[.pointer (some ⟨w.heap.size, 0, none⟩)]] 64)) := (Keeps.refl NoB w).alloc _
  have hE : EachAt (w.alloc (.cells #[.func (.func 42) #[] #[.pointer (some ⟨w.heap.size, 0, none⟩)]] 64)) w.heap.size := Blk.cell (Blk.new w 64 _) 0
  have HK := hide hK; have HE := hide hE
  clear hK hE
  go_wp2_with (go_at_call 42; go_must (refine (own1_any _ ts (Nat.le_refl _) css A n c w.heap.size _ B F (HR.out.keep HK.out (fun _ _ => id)) (TermsIn.keep HK.out (fun _ _ => id) _ _ HT.out) hb HE.out).mono ?_); rintro e w1 ⟨A1, c1, css1, m1, rfl, h1, h2, h3, h4, h5, h6⟩)
  have H4 := hide h4; have H5 := hide h5; have H6 := hide h6
  clear h4 h5 h6
  go_wp2
  go_ret
  exact ⟨A1, c1, css1, m1, rfl, h1, h2, by have := HK.out.size; omega, H4.out.more (fun x _ hx => ⟨by have := HK.out.size; omega, hx.2⟩), H5.out, (HK.out.trans' (Keeps.of_below H6.out NoB) (fun _ _ => id) (fun _ _ => id)).below⟩

end Go.Proofs.Ytmkidkfofbnjgaa
