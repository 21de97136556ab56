/- mail.own: it hands back terms in memory of their own, each list in a block of its own. Printed by mkowno.py. -/
import Derived.Test.YtmkidkfofbnjgaaSameTsJn
import Derived.Test.YtmkidkfofbnjgaaLentLawJn
namespace Go.Proofs.Ytmkidkfofbnjgaa
open Go.RowKit

theorem row_of_own {w : World} {base n c : Nat} {e : TypeId} {size : Nat} {A : Option Addr} {xs : List Value} (h : w.ownsRow base e size (.slice A n c) n xs) (hb : base ≤ w.heap.size) : RowO w e size base w.heap.size A n c xs := by
  obtain ⟨A', c', hv, hs⟩ := Slab.of_own h
  injection hv with h1 h2 h3
  subst h1 h3
  exact ⟨hs, fun k ⟨o, ek⟩ => h.lt k (by subst ek; rfl), hb⟩
/-- A block that is one list's room, from its first cell to its last. -/
def Whole (w : World) (e : TypeId) (sz : Nat) (A : Option Addr) (c : Nat) : Prop := A = none ∨ ∃ g cur, A = some ⟨g, 0, none⟩ ∧ Blk w g e cur ∧ cur.size = c * sz
theorem Whole.of_own {w : World} {base n c : Nat} {e : TypeId} {sz : Nat} {A : Option Addr} {xs : List Value} (h : w.ownsRow base e sz (.slice A n c) n xs) : Whole w e sz A c := by
  rcases h.2 with ⟨hv, _⟩ | ⟨g, cap, cur, hv, _, hb, _, _, hs, _⟩
  · injection hv with h1; exact .inl h1
  · injection hv with h1 h2 h3; subst h1 h3; exact .inr ⟨g, cur, rfl, hb, hs⟩
theorem Whole.fresh {w w' : World} {e : TypeId} {sz c : Nat} {A : Option Addr} (h : Whole w e sz A c) (hk : Keeps NoB w w') : Whole w' e sz A c := by
  rcases h with h | ⟨g, cur, h1, h2, h3⟩
  · exact .inl h
  · exact .inr ⟨g, cur, h1, h2.keep hk id, h3⟩
theorem Whole.put {w : World} {e : TypeId} {sz c g o : Nat} (h : Whole w e sz (some ⟨g, o, none⟩) c) (i : Nat) (v : Value) : Whole (w.setCell ⟨g, i, none⟩ v) e sz (some ⟨g, o, none⟩) c := by
  rcases h with h | ⟨g', cur, h1, h2, h3⟩
  · cases h
  · injection h1 with h1; injection h1 with h1 h4; subst h1 h4
    exact .inr ⟨_, _, rfl, h2.put i v, by rw [Array.size_setIfInBounds]; exact h3⟩
theorem Whole.own {w : World} {e : TypeId} {sz n c base : Nat} {A : Option Addr} {xs : List Value} (h : Whole w e sz A c) (hs : Slab w e sz A n c xs) (hb : ∀ k, rowB A k → base ≤ k) : w.ownsRow base e sz (.slice A n c) n xs := by
  obtain ⟨h1, h2, h3, ⟨rfl, rfl⟩ | ⟨g, o, cur, rfl, h4, h5, h6⟩⟩ := hs
  · obtain rfl : n = 0 := by omega
    exact ⟨h1, .inl ⟨rfl, rfl⟩⟩
  · rcases h with h | ⟨g', cur', e1, e2, e3⟩
    · cases h
    · injection e1 with e1; injection e1 with e1 e4; subst e1 e4
      obtain rfl : cur = cur' := by
        unfold Blk at h4 e2
        rw [h4] at e2
        injection e2 with e2; injection e2
      exact ⟨h1, .inr ⟨g, c, cur, rfl, hb g ⟨0, rfl⟩, h4, h2, h3, e3, by rw [List.drop_zero] at h6; exact h6⟩⟩
def OwnPostO (w : World) (n : Nat) (ts : List Tm) (e : Ending) (w' : World) : Prop :=
  ∃ A' c' css' m, e = .returned (.slice A' n c') ∧ RowO w' 33 7 w.heap.size m A' n c' css'.flatten ∧ OsIn w' m w'.heap.size css' ts ∧ Below w.heap.size w w' ∧ Whole w' 33 7 A' c'
def OwnInvO (w w1 : World) (A' : Option Addr) (n c : Nat) (css : List (List Value)) (ts : List Tm) (k : Nat) (wr : World) : Prop :=
  ∃ css', css'.length = k ∧ RowO wr 33 7 w.heap.size w1.heap.size A' n c (css' ++ css.drop k).flatten ∧ OsIn wr w1.heap.size wr.heap.size css' (ts.take k) ∧ Keeps NoB w wr ∧ w1.heap.size ≤ wr.heap.size ∧ Whole wr 33 7 A' c
theorem own_stepO {w w1 wr W5 : World} {gb go n c k : Nat} {css css' : List (List Value)} {ts : List Tm} {t : Tm} {v0 v1 v2 v3 v4 v5 v6 : Value}
    (hk' : css'.length = k) (hr : RowO wr 33 7 w.heap.size w1.heap.size (some ⟨gb, go, none⟩) n c (css' ++ css.drop k).flatten) (ht : OsIn wr w1.heap.size wr.heap.size css' (ts.take k)) (hb : Keeps NoB w wr) (h1 : w1.heap.size ≤ wr.heap.size) (hw : Whole wr 33 7 (some ⟨gb, go, none⟩) c)
    (hlt : k < css.length) (hcl : css.length = n) (h7 : ∀ c ∈ css, c.length = 7)
    (h5 : Keeps NoB wr W5) (htk : ts[k]? = some t) (htm : OIn W5 wr.heap.size W5.heap.size [v0, v1, v2, v3, v4, v5, v6] t) :
    OwnInvO w w1 (some ⟨gb, go, none⟩) n c css ts (k + 1) (((((((W5.setCell ⟨gb, go + k * 7, none⟩ v0).setCell ⟨gb, go + k * 7 + 1, none⟩ v1).setCell ⟨gb, go + k * 7 + 2, none⟩ v2).setCell ⟨gb, go + k * 7 + 3, none⟩ v3).setCell ⟨gb, go + k * 7 + 4, none⟩ v4).setCell ⟨gb, go + k * 7 + 5, none⟩ v5).setCell ⟨gb, go + k * 7 + 6, none⟩ v6) := by
  have hgb := hr.2.1 gb ⟨go, rfl⟩
  have hl7 : ∀ c ∈ css' ++ css.drop k, c.length = 7 := by
    intro c hc
    rcases List.mem_append.1 hc with hc | hc
    · exact ht.lens.2 c hc
    · exact h7 c (List.mem_of_mem_drop hc)
  have hlen : (css' ++ css.drop k).flatten.length = n * 7 := hr.1.1
  have hkn : k * 7 + 6 < n * 7 := by omega
  have hK : Keeps (fun x => x = gb) W5 (((((((W5.setCell ⟨gb, go + k * 7, none⟩ v0).setCell ⟨gb, go + k * 7 + 1, none⟩ v1).setCell ⟨gb, go + k * 7 + 2, none⟩ v2).setCell ⟨gb, go + k * 7 + 3, none⟩ v3).setCell ⟨gb, go + k * 7 + 4, none⟩ v4).setCell ⟨gb, go + k * 7 + 5, none⟩ v5).setCell ⟨gb, go + k * 7 + 6, none⟩ v6) := ((((((((Keeps.refl (fun x => x = gb) W5).setCell (p := ⟨gb, go + k * 7, none⟩) (.inl rfl) v0).setCell (p := ⟨gb, go + k * 7 + 1, none⟩) (.inl rfl) v1).setCell (p := ⟨gb, go + k * 7 + 2, none⟩) (.inl rfl) v2).setCell (p := ⟨gb, go + k * 7 + 3, none⟩) (.inl rfl) v3).setCell (p := ⟨gb, go + k * 7 + 4, none⟩) (.inl rfl) v4).setCell (p := ⟨gb, go + k * 7 + 5, none⟩) (.inl rfl) v5).setCell (p := ⟨gb, go + k * 7 + 6, none⟩) (.inl rfl) v6)
  have hr5 := hr.keep h5 (fun _ _ _ => id)
  have q6 := (((((((hr5.1.put1 (j := k * 7) (by omega) v0).put1 (j := k * 7 + 1) (by omega) v1).put1 (j := k * 7 + 2) (by omega) v2).put1 (j := k * 7 + 3) (by omega) v3).put1 (j := k * 7 + 4) (by omega) v4).put1 (j := k * 7 + 5) (by omega) v5).put1 (j := k * 7 + 6) (by omega) v6)
  rw [flat_set7 hl7 k (by rw [List.length_append, List.length_drop]; omega)] at q6
  have eset : (css' ++ css.drop k).set k [v0, v1, v2, v3, v4, v5, v6] = css' ++ [[v0, v1, v2, v3, v4, v5, v6]] ++ css.drop (k + 1) := by
    rw [List.set_append_right _ _ (by omega), hk', Nat.sub_self, List.drop_eq_getElem_cons hlt, List.set_cons_zero]
    simp
  rw [eset] at q6
  refine ⟨css' ++ [[v0, v1, v2, v3, v4, v5, v6]], by simp [hk'], ⟨q6, hr.2⟩, ?_, ?_, ?_, ?_⟩
  · have e : ts.take (k + 1) = ts.take k ++ [t] := by
      rw [List.take_add_one, htk]; rfl
    rw [e]
    have a1 := OsIn.keep hK (OsIn.keep h5 ht (fun _ _ _ => id)) (fun x h2 h3 e => by omega)
    have a2 := OIn.keep hK htm (fun x h2 h3 e => by omega)
    exact OsIn.snoc a1 (a2.up hK.size)
  · exact (hb.trans' h5 (fun _ _ => id) (fun _ _ => id)).trans' hK (fun _ _ => id) (fun x hx e => by omega)
  · exact Nat.le_trans h1 (Nat.le_trans h5.size hK.size)
  · exact ((((((((hw.fresh h5).put _ _).put _ _).put _ _).put _ _).put _ _).put _ _).put _ _)
set_option maxRecDepth 100000 in
set_option maxHeartbeats 1000000 in
theorem own1_o (N : Nat) : ∀ (ts : List Tm), Tm.size.sizes ts ≤ N → ∀ (css : List (List Value)) (A : Option Addr) (n c eB : Nat) (w : World) (B : Nat → Prop) (F : Bool),
    Reads w B F 7 A n css.flatten → TermsIn w B F css ts → Roomy n 104 → EachAt w eB →
    Calls Try.prog 42 #[.slice A n c, .pointer (some ⟨eB, 0, none⟩)] w (OwnPostO w n ts) := by
  induction N using Nat.strongRecOn with
  | ind N ih =>
    intro ts hN css A n c eB w B F hr ht hb he
    have IH := hide ih; clear ih
    have HE := hide he; clear he
    have HT := hide ht
    go_enter Try.func42, Try.ntmps42
    go_wp2_with (go_at_call 43; refine (clone_terms B F A n c _ _ hr (TermsIn.ones _ _ ht) hb).mono ?_; rintro e w1 ⟨A1, c1, rfl, hown, hbel⟩)
    have hl := ht.lens
    have hcl : css.length = n := by have := hr.1; rw [flat_len hl.2] at this; omega
    have hnm : n ≤ 9223372036854775807 := by have := hb.len (by omega); unfold maxLen at this; exact this
    have HC := hide hcl; clear hcl
    have HL := hide hl; clear hl
    have HR := hide hr; clear hr
    have HO := hide hown; clear hown
    have HBel := hide hbel; clear hbel ht
    go_loopw [11] (fun i wr => ∃ k : Nat, k ≤ n ∧ i = .int .i64 k ∧ OwnInvO w w1 A1 n c1 css ts k wr) (fun i _ => n - (intOf i).toNat)
    case atStart =>
      refine ⟨0, Nat.zero_le _, rfl, [], rfl, ?_, by rw [List.take_zero]; unfold OsIn; exact Nat.le_refl _, Keeps.of_below HBel.out _, Nat.le_refl _, Whole.of_own HO.out⟩
      rw [List.nil_append, List.drop_zero]
      exact row_of_own HO.out HBel.out.size
    case round =>
      obtain ⟨k, hk, rfl, hinv⟩ := hrel
      have HI := hide hinv; clear hinv
      by_cases hlt : k < n
      · obtain ⟨css', hk', hr', ht', hb', h1', hw'⟩ := HI.out
        have HWH := hide hw'; clear hw'
        have hkc : k < css.length := by have := HC.out; omega
        obtain ⟨kd, ng, la, ln, lc, tx, nm, ia, im, ic, ta, tn, tc, limbs, items, tail, dss, ess, hcs, htk, hroom, hrl, hri, hti, hrt, htt, hsz⟩ := TermsIn.at HT.out k hkc
        have HRr := hide hr'
        obtain ⟨hnA, hAd⟩ := hr'.1.reads
        obtain ⟨⟨gb, go, sp⟩, hA, hs, hB, hgl, hcells⟩ := hAd (by omega)
        subst hA
        simp only at hs
        subst hs
        have hl7 : ∀ c ∈ css' ++ css.drop k, c.length = 7 := by
          intro c hc
          rcases List.mem_append.1 hc with hc | hc
          · exact ht'.lens.2 c hc
          · exact HL.out.2 c (List.mem_of_mem_drop hc)
        have hat : (css' ++ css.drop k)[k]? = some [.int .u8 kd, .bool ng, .slice la ln lc, .string tx, .int .i64 nm, .slice ia im ic, .slice ta tn tc] := by
          rw [List.getElem?_append_right (by omega), hk', Nat.sub_self, List.getElem?_drop, Nat.add_zero]
          exact hcs
        obtain ⟨e0, e1, e2, e3, e4, e5, e6⟩ := flat_cells hl7 hat
        have f0 : wr.cell? ⟨gb, go + k * 7, none⟩ = some (.int .u8 kd) := (hcells _ _ e0).1
        have f1 : wr.cell? ⟨gb, go + k * 7 + 1, none⟩ = some (.bool ng) := (hcells _ _ e1).1
        have f2 : wr.cell? ⟨gb, go + k * 7 + 2, none⟩ = some (.slice la ln lc) := (hcells _ _ e2).1
        have f3 : wr.cell? ⟨gb, go + k * 7 + 3, none⟩ = some (.string tx) := (hcells _ _ e3).1
        have f4 : wr.cell? ⟨gb, go + k * 7 + 4, none⟩ = some (.int .i64 nm) := (hcells _ _ e4).1
        have f5 : wr.cell? ⟨gb, go + k * 7 + 5, none⟩ = some (.slice ia im ic) := (hcells _ _ e5).1
        have f6 : wr.cell? ⟨gb, go + k * 7 + 6, none⟩ = some (.slice ta tn tc) := (hcells _ _ e6).1
        have HZ := hide (And.intro ((hcells _ _ e0).2 rfl) (And.intro ((hcells _ _ e1).2 rfl) (And.intro ((hcells _ _ e2).2 rfl) (And.intro ((hcells _ _ e3).2 rfl) (And.intro ((hcells _ _ e4).2 rfl) (And.intro ((hcells _ _ e5).2 rfl) ((hcells _ _ e6).2 rfl)))))))
        have HF := hide (And.intro f0 (And.intro f1 (And.intro f2 (And.intro f3 (And.intro f4 (And.intro f5 f6))))))
        have HB := hide hb'
        have HKL := hide hk'; have HTr := hide ht'; have HH1 := hide h1'; have HTK := hide htk; have HBB := hide hB
        have HRo := hide hroom; have HRl := hide hrl; have HRi := hide hri; have HTi := hide hti; have HRt := hide hrt; have HTt := hide htt; have HSz := hide hsz
        clear hcells hAd hnA hb' ht' hcs hk' hB hat e0 e1 e2 e3 e4 e5 e6 hl7 htk hroom hrl hri hti hrt htt hsz h1'
        go_wp2_with fail
        clear f0 f1 f2 f3 f4 f5 f6
        have hKw : Keeps NoB w (wr.alloc (.cells #[.int .u8 kd, .bool ng, .slice la ln lc, .string tx, .int .i64 nm, .slice ia im ic, .slice ta tn tc] 33)).drew := (HB.out.alloc _).drew
        have hKr : Keeps NoB wr (wr.alloc (.cells #[.int .u8 kd, .bool ng, .slice la ln lc, .string tx, .int .i64 nm, .slice ia im ic, .slice ta tn tc] 33)).drew := ((Keeps.refl NoB wr).alloc _).drew
        have hblk : Blk (wr.alloc (.cells #[.int .u8 kd, .bool ng, .slice la ln lc, .string tx, .int .i64 nm, .slice ia im ic, .slice ta tn tc] 33)).drew wr.heap.size 33 #[.int .u8 kd, .bool ng, .slice la ln lc, .string tx, .int .i64 nm, .slice ia im ic, .slice ta tn tc] := Blk.new wr 33 _
        refine order_begin (fun W => Blk W wr.heap.size 33 #[.int .u8 kd, .bool ng, .slice la ln lc, .string tx, .int .i64 nm, .slice ia im ic, .slice ta tn tc] ∧ EachAt W eB) (fun i => !(i == 12 || i == 14 || i == 16)) (by kernel_rfl) 17 rfl ?_
        generalize (wr.alloc (.cells #[.int .u8 kd, .bool ng, .slice la ln lc, .string tx, .int .i64 nm, .slice ia im ic, .slice ta tn tc] 33)).drew = W0 at *
        have HS : Blk W0 wr.heap.size 33 #[.int .u8 kd, .bool ng, .slice la ln lc, .string tx, .int .i64 nm, .slice ia im ic, .slice ta tn tc] ∧ EachAt W0 eB := ⟨hblk, hKw.cell id HE.out⟩
        have HKw := hide hKw
        have HKr := hide hKr
        clear hKw hKr hblk
        refine order_pure (i := 0) rfl (by kernel_rfl) (fun _ _ _ h => h) (.inl ⟨rfl, fun _ => by go_simp; rfl⟩) ?_
        try simp only [Act.put, List.setIfInBounds_toArray, List.set_cons_succ, List.set_cons_zero]
        refine order_held (i := 1) rfl (by kernel_rfl) (fun _ _ _ h => h) (.inl ⟨rfl, fun W hW => by
          have q0 : W.cell? ⟨wr.heap.size, 2, none⟩ = some (.slice la ln lc) := hW.1.cell 2
          go_simp; rfl⟩) HS ?_
        try simp only [Act.put, List.setIfInBounds_toArray, List.set_cons_succ, List.set_cons_zero]
        refine order_held (i := 3) rfl (by kernel_rfl) (fun _ _ _ h => h) (.inl ⟨rfl, fun W hW => by
          have q0 : W.cell? ⟨eB, 0, none⟩ = some (.func (.func 42) #[] #[.pointer (some ⟨eB, 0, none⟩)]) := hW.2
          go_simp; rfl⟩) HS ?_
        try simp only [Act.put, List.setIfInBounds_toArray, List.set_cons_succ, List.set_cons_zero]
        refine order_pure (i := 4) rfl (by kernel_rfl) (fun _ _ _ h => h) (.inl ⟨rfl, fun _ => by go_simp; rfl⟩) ?_
        try simp only [Act.put, List.setIfInBounds_toArray, List.set_cons_succ, List.set_cons_zero]
        refine order_held (i := 5) rfl (by kernel_rfl) (fun _ _ _ h => h) (.inl ⟨rfl, fun W hW => by
          have q0 : W.cell? ⟨wr.heap.size, 5, none⟩ = some (.slice ia im ic) := hW.1.cell 5
          go_simp; rfl⟩) HS ?_
        try simp only [Act.put, List.setIfInBounds_toArray, List.set_cons_succ, List.set_cons_zero]
        refine order_held (i := 7) rfl (by kernel_rfl) (fun _ _ _ h => h) (.inl ⟨rfl, fun W hW => by
          have q0 : W.cell? ⟨eB, 0, none⟩ = some (.func (.func 42) #[] #[.pointer (some ⟨eB, 0, none⟩)]) := hW.2
          go_simp; rfl⟩) HS ?_
        try simp only [Act.put, List.setIfInBounds_toArray, List.set_cons_succ, List.set_cons_zero]
        refine order_pure (i := 8) rfl (by kernel_rfl) (fun _ _ _ h => h) (.inl ⟨rfl, fun _ => by go_simp; rfl⟩) ?_
        try simp only [Act.put, List.setIfInBounds_toArray, List.set_cons_succ, List.set_cons_zero]
        refine order_held (i := 9) rfl (by kernel_rfl) (fun _ _ _ h => h) (.inl ⟨rfl, fun W hW => by
          have q0 : W.cell? ⟨wr.heap.size, 6, none⟩ = some (.slice ta tn tc) := hW.1.cell 6
          go_simp; rfl⟩) HS ?_
        try simp only [Act.put, List.setIfInBounds_toArray, List.set_cons_succ, List.set_cons_zero]
        refine order_one (i := 2) rfl (by kernel_rfl) (fun K hK => ?_)
        go_simp
        refine (clone_limbs B F la ln lc (limbs.map (Value.int .u32)) W0 (HRl.out.keep HKw.out (fun _ _ => id)) (fun u hu => by obtain ⟨x, _, rfl⟩ := List.mem_map.1 hu; rfl) HRo.out.1).mono ?_
        rintro e w2 ⟨A2, c2, rfl, hown2, hbel2⟩
        have HO2 := hide hown2
        have HK2 := hide (Keeps.of_below hbel2 NoB)
        clear hown2 hbel2
        refine hK _ _ (fun _ hS => ⟨hS.1.keep HK2.out id, HK2.out.cell id hS.2⟩) ?_
        clear hK
        have HS2 : Blk w2 wr.heap.size 33 #[.int .u8 kd, .bool ng, .slice la ln lc, .string tx, .int .i64 nm, .slice ia im ic, .slice ta tn tc] ∧ EachAt w2 eB := ⟨HS.1.keep HK2.out id, HK2.out.cell id HS.2⟩
        have HKw2 := hide (HKw.out.trans' HK2.out (fun _ _ => id) (fun _ _ => id) : Keeps NoB w w2)
        try simp only [Act.put, List.setIfInBounds_toArray, List.set_cons_succ, List.set_cons_zero]
        refine order_pure (i := 11) rfl (by kernel_rfl) (fun _ _ _ h => h) (.inl ⟨rfl, fun _ => by go_simp; rfl⟩) ?_
        try simp only [Act.put, List.setIfInBounds_toArray, List.set_cons_succ, List.set_cons_zero]
        refine order_one (i := 6) rfl (by kernel_rfl) (fun K hK => ?_)
        go_simp
        refine (IH.out (Tm.size.sizes items) (by have := HSz.out; omega) items (Nat.le_refl _) dss ia im ic eB w2 B F (HRi.out.keep HKw2.out (fun _ _ => id)) (TermsIn.keep HKw2.out (fun _ _ => id) _ _ HTi.out) HRo.out.2.1 HS2.2).mono ?_
        rintro e w3 ⟨A3, c3, dss3, m3, rfl, hr3, ht3, hbel3, _⟩
        have HO3 := hide (And.intro hr3 ht3)
        have HK3 := hide (Keeps.of_below hbel3 NoB)
        clear hr3 ht3 hbel3
        refine hK _ _ (fun _ hS => ⟨hS.1.keep HK3.out id, HK3.out.cell id hS.2⟩) ?_
        clear hK
        have HS3 : Blk w3 wr.heap.size 33 #[.int .u8 kd, .bool ng, .slice la ln lc, .string tx, .int .i64 nm, .slice ia im ic, .slice ta tn tc] ∧ EachAt w3 eB := ⟨HS2.1.keep HK3.out id, HK3.out.cell id HS2.2⟩
        have HKw3 := hide (HKw2.out.trans' HK3.out (fun _ _ => id) (fun _ _ => id) : Keeps NoB w w3)
        try simp only [Act.put, List.setIfInBounds_toArray, List.set_cons_succ, List.set_cons_zero]
        refine order_one (i := 10) rfl (by kernel_rfl) (fun K hK => ?_)
        go_simp
        refine (IH.out (Tm.size.sizes tail) (by have := HSz.out; omega) tail (Nat.le_refl _) ess ta tn tc eB w3 B F (HRt.out.keep HKw3.out (fun _ _ => id)) (TermsIn.keep HKw3.out (fun _ _ => id) _ _ HTt.out) HRo.out.2.2 HS3.2).mono ?_
        rintro e w4 ⟨A4, c4, ess4, m4, rfl, hr4, ht4, hbel4, _⟩
        have HO4 := hide (And.intro hr4 ht4)
        have HK4 := hide (Keeps.of_below hbel4 NoB)
        clear hr4 ht4 hbel4
        refine hK _ _ (fun _ hS => ⟨hS.1.keep HK4.out id, HK4.out.cell id hS.2⟩) ?_
        clear hK
        have HB4 := hide (HS3.1.keep HK4.out id : Blk w4 wr.heap.size 33 #[.int .u8 kd, .bool ng, .slice la ln lc, .string tx, .int .i64 nm, .slice ia im ic, .slice ta tn tc])
        try simp only [Act.put, List.setIfInBounds_toArray, List.set_cons_succ, List.set_cons_zero]
        have s2 : w4.cell? ⟨wr.heap.size, 2, none⟩ = some (.slice la ln lc) := HB4.out.cell 2
        have t2 : w4.frozen? ⟨wr.heap.size, 2, none⟩ = false := HB4.out.free 2
        refine order_one (i := 12) rfl (by kernel_rfl) (fun K hK => ?_)
        go_simp
        refine hK _ _ (fun h => absurd h (by decide)) ?_
        clear hK
        try simp only [Act.put, List.setIfInBounds_toArray, List.set_cons_succ, List.set_cons_zero]
        clear s2 t2
        have HK5 := hide ((Keeps.refl (fun x => x = wr.heap.size) w4).setCell (p := ⟨wr.heap.size, 2, none⟩) (.inl rfl) (.slice A2 ln c2))
        have HB5 := hide (HB4.out.put 2 (.slice A2 ln c2))
        generalize w4.setCell ⟨wr.heap.size, 2, none⟩ (.slice A2 ln c2) = w5 at *
        refine order_pure (i := 13) rfl (by kernel_rfl) (fun _ _ _ h => h) (.inl ⟨rfl, fun _ => by go_simp; rfl⟩) ?_
        try simp only [Act.put, List.setIfInBounds_toArray, List.set_cons_succ, List.set_cons_zero]
        have s2 : w5.cell? ⟨wr.heap.size, 5, none⟩ = some (.slice ia im ic) := HB5.out.cell 5
        have t2 : w5.frozen? ⟨wr.heap.size, 5, none⟩ = false := HB5.out.free 5
        refine order_one (i := 14) rfl (by kernel_rfl) (fun K hK => ?_)
        go_simp
        refine hK _ _ (fun h => absurd h (by decide)) ?_
        clear hK
        try simp only [Act.put, List.setIfInBounds_toArray, List.set_cons_succ, List.set_cons_zero]
        clear s2 t2
        have HK6 := hide ((Keeps.refl (fun x => x = wr.heap.size) w5).setCell (p := ⟨wr.heap.size, 5, none⟩) (.inl rfl) (.slice A3 im c3))
        have HB6 := hide (HB5.out.put 5 (.slice A3 im c3))
        generalize w5.setCell ⟨wr.heap.size, 5, none⟩ (.slice A3 im c3) = w6 at *
        refine order_pure (i := 15) rfl (by kernel_rfl) (fun _ _ _ h => h) (.inl ⟨rfl, fun _ => by go_simp; rfl⟩) ?_
        try simp only [Act.put, List.setIfInBounds_toArray, List.set_cons_succ, List.set_cons_zero]
        have s2 : w6.cell? ⟨wr.heap.size, 6, none⟩ = some (.slice ta tn tc) := HB6.out.cell 6
        have t2 : w6.frozen? ⟨wr.heap.size, 6, none⟩ = false := HB6.out.free 6
        refine order_one (i := 16) rfl (by kernel_rfl) (fun K hK => ?_)
        go_simp
        refine hK _ _ (fun h => absurd h (by decide)) ?_
        clear hK
        try simp only [Act.put, List.setIfInBounds_toArray, List.set_cons_succ, List.set_cons_zero]
        clear s2 t2
        have HK7 := hide ((Keeps.refl (fun x => x = wr.heap.size) w6).setCell (p := ⟨wr.heap.size, 6, none⟩) (.inl rfl) (.slice A4 tn c4))
        have HB7 := hide (HB6.out.put 6 (.slice A4 tn c4))
        generalize w6.setCell ⟨wr.heap.size, 6, none⟩ (.slice A4 tn c4) = w7 at *
        refine order_done (by kernel_rfl) ?_
        have b0 : w7.cell? ⟨wr.heap.size, 0, none⟩ = some (.int .u8 kd) := HB7.out.cell 0
        have b1 : w7.cell? ⟨wr.heap.size, 1, none⟩ = some (.bool ng) := HB7.out.cell 1
        have b2 : w7.cell? ⟨wr.heap.size, 2, none⟩ = some (.slice A2 ln c2) := HB7.out.cell 2
        have b3 : w7.cell? ⟨wr.heap.size, 3, none⟩ = some (.string tx) := HB7.out.cell 3
        have b4 : w7.cell? ⟨wr.heap.size, 4, none⟩ = some (.int .i64 nm) := HB7.out.cell 4
        have b5 : w7.cell? ⟨wr.heap.size, 5, none⟩ = some (.slice A3 im c3) := HB7.out.cell 5
        have b6 : w7.cell? ⟨wr.heap.size, 6, none⟩ = some (.slice A4 tn c4) := HB7.out.cell 6
        have HKr7 : Keeps NoB wr w7 := ((((((HKr.out.trans' HK2.out (fun _ _ => id) (fun _ _ => id) : Keeps NoB wr w2).trans' HK3.out (fun _ _ => id) (fun _ _ => id) : Keeps NoB wr w3).trans' HK4.out (fun _ _ => id) (fun _ _ => id) : Keeps NoB wr w4).trans' HK5.out (fun _ _ => id) (fun x hx e => by omega) : Keeps NoB wr w5).trans' HK6.out (fun _ _ => id) (fun x hx e => by omega) : Keeps NoB wr w6).trans' HK7.out (fun _ _ => id) (fun x hx e => by omega))
        obtain ⟨g0, g1, g2, g3, g4, g5, g6⟩ := HF.out
        obtain ⟨y0, y1, y2, y3, y4, y5, y6⟩ := HZ.out
        have f0 := HKr7.cell id g0
        have f1 := HKr7.cell id g1
        have f2 := HKr7.cell id g2
        have f3 := HKr7.cell id g3
        have f4 := HKr7.cell id g4
        have f5 := HKr7.cell id g5
        have f6 := HKr7.cell id g6
        have z0 := (HKr7.frozen (p := ⟨gb, go + k * 7, none⟩) hgl id).trans y0
        have z1 := (HKr7.frozen (p := ⟨gb, go + k * 7 + 1, none⟩) hgl id).trans y1
        have z2 := (HKr7.frozen (p := ⟨gb, go + k * 7 + 2, none⟩) hgl id).trans y2
        have z3 := (HKr7.frozen (p := ⟨gb, go + k * 7 + 3, none⟩) hgl id).trans y3
        have z4 := (HKr7.frozen (p := ⟨gb, go + k * 7 + 4, none⟩) hgl id).trans y4
        have z5 := (HKr7.frozen (p := ⟨gb, go + k * 7 + 5, none⟩) hgl id).trans y5
        have z6 := (HKr7.frozen (p := ⟨gb, go + k * 7 + 6, none⟩) hgl id).trans y6
        have HKr7 := hide HKr7
        clear g0 g1 g2 g3 g4 g5 g6 y0 y1 y2 y3 y4 y5 y6
        have htm : OIn w7 wr.heap.size w7.heap.size [.int .u8 kd, .bool ng, .slice A2 ln c2, .string tx, .int .i64 nm, .slice A3 im c3, .slice A4 tn c4] (.mk kd ng limbs tx nm items tail) := by
          have hp0 : wr.heap.size < W0.heap.size := HS.1.lt
          have k47 : Keeps (fun x => x = wr.heap.size) w4 w7 := (HK5.out.trans' HK6.out (fun _ _ h => h) (fun _ _ h => h) : Keeps (fun x => x = wr.heap.size) w4 w6).trans' HK7.out (fun _ _ h => h) (fun _ _ h => h)
          have k37 : Keeps (fun x => x = wr.heap.size) w3 w7 := HK4.out.trans' k47 (fun _ _ h => h.elim) (fun _ _ h => h)
          have k27 : Keeps (fun x => x = wr.heap.size) w2 w7 := HK3.out.trans' k37 (fun _ _ h => h.elim) (fun _ _ h => h)
          have s0 := HKr.out.size; have s2 := HK2.out.size; have s3 := HK3.out.size; have s4 := HK4.out.size; have s47 := k47.size
          obtain ⟨hr3, ht3⟩ := HO3.out
          obtain ⟨hr4, ht4⟩ := HO4.out
          have hr2 := row_of_own HO2.out HK2.out.size
          unfold OIn
          refine ⟨A2, ln, c2, A3, im, c3, A4, tn, c4, dss3, ess4, w2.heap.size, m3, w3.heap.size, m4, rfl, HRo.out.1, ?_, ⟨?_, ?_⟩, ⟨?_, ?_⟩⟩
          · exact (hr2.keep k27 (fun x h1 h2 e => by omega)).more (by omega) (Nat.le_refl _)
          · exact hr3.keep k37 (fun x h1 h2 e => by omega)
          · exact OsIn.keep k37 ht3 (fun x h1 h2 e => by have := hr3.2.2; omega)
          · exact hr4.keep k47 (fun x h1 h2 e => by omega)
          · exact OsIn.up (OsIn.keep k47 ht4 (fun x h1 h2 e => by have := hr4.2.2; omega)) s47
        have HTM := hide htm
        clear htm
        go_wp2
        go_roundw
        case rel => exact ⟨k + 1, by omega, by go_num, own_stepO HKL.out HRr.out HTr.out HB.out HH1.out HWH.out (by have := HC.out; omega) HC.out HL.out.2 HKr7.out HTK.out HTM.out⟩
        case measure => simp [intOf]; omega
      · go_wp2
        go_ret
        obtain ⟨css', hk', hr', ht', hb', h1', hw'⟩ := HI.out
        have hkn : k = n := by omega
        have hcl := HC.out
        rw [hkn, List.drop_of_length_le (by omega), List.append_nil] at hr'
        rw [List.take_of_length_le (by have := HL.out.1; omega)] at ht'
        exact ⟨A1, c1, css', w1.heap.size, rfl, hr', ht', hb'.below, hw'⟩
theorem own_o (ts : List Tm) (css : List (List Value)) (A : Option Addr) (n c : Nat) (w : World) (B : Nat → Prop) (F : Bool)
    (hr : Reads w B F 7 A n css.flatten) (ht : TermsIn w B F css ts) (hb : Roomy n 104) :
    Calls Try.prog 33 #[.slice A n c] w (OwnPostO w n ts) := by
  have HR := hide hr; have HT := hide ht
  clear hr ht
  go_enter Try.func33, Try.ntmps33
  have hK : Keeps NoB w (w.alloc (.cells #[.func (.func 42) #[] #[.pointer (some ⟨w.heap.size, 0, none⟩)]] 64)) := (Keeps.refl NoB w).alloc _
  have hE : EachAt (w.alloc (.cells #[.func (.func 42) #[] #[.pointer (some ⟨w.heap.size, 0, none⟩)]] 64)) w.heap.size := Blk.cell (Blk.new w 64 _) 0
  have HK := hide hK; have HE := hide hE
  clear hK hE
  go_wp2_with (go_at_call 42; go_must (refine (own1_o _ ts (Nat.le_refl _) css A n c w.heap.size _ B F (HR.out.keep HK.out (fun _ _ => id)) (TermsIn.keep HK.out (fun _ _ => id) _ _ HT.out) hb HE.out).mono ?_); rintro e w1 ⟨A1, c1, css1, m1, rfl, h4, h5, h6, h7⟩)
  have H4 := hide h4; have H5 := hide h5; have H6 := hide h6; have H7 := hide h7
  clear h4 h5 h6 h7
  go_wp2
  go_ret
  exact ⟨A1, c1, css1, m1, rfl, H4.out.more (by have := HK.out.size; omega) (Nat.le_refl _), H5.out, (HK.out.trans' (Keeps.of_below H6.out NoB) (fun _ _ => id) (fun _ _ => id)).below, H7.out⟩
end Go.Proofs.Ytmkidkfofbnjgaa
