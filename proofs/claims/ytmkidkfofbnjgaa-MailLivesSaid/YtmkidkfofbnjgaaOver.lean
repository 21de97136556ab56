/- pigeonholekit: OverLimbs, OverTerm, OverTerms. -/
import Derived.Test.YtmkidkfofbnjgaaKeptT
namespace Go.Proofs.Ytmkidkfofbnjgaa
open Go.RowKit

theorem Live.keep {w w' : World} {g o : Nat} {fp : Nat → Prop} (h : Live w g o) (hk : Keeps fp w w') (hg : ¬ fp g) (hl : g < w.heap.size) : Live w' g o := by
  obtain ⟨v, h1, h2⟩ := h
  exact ⟨v, hk.cell (p := ⟨g, o, none⟩) hg h1, (hk.frozen (p := ⟨g, o, none⟩) hl hg).trans h2⟩
theorem slab_live {w : World} {e : TypeId} {size n c g : Nat} {xs : List Value} (h : Slab w e size (some ⟨g, 0, none⟩) n c xs) (j : Nat) (hj : j < n * size) : Live w g j := by
  obtain ⟨u, hu⟩ : ∃ u, xs[j]? = some u := ⟨_, List.getElem?_eq_getElem (by rw [h.1]; exact hj)⟩
  exact ⟨u, slab_cell h hu⟩
def EndK (fp : Nat → Prop) (w : World) (e : Ending) (w' : World) : Prop := e = .returned (.tuple #[]) ∧ Keeps fp w w'

set_option maxRecDepth 100000 in
theorem overLimbs_any (g n : Nat) (zs : List Value) (w : World) (hs : Slab w 92 1 (some ⟨g, 0, none⟩) (n + 12) (n + 12) zs) (hn : n ≤ 900000) :
    Calls Try.prog 49 #[.slice (some ⟨g, 0, none⟩) n (n + 12)] w (EndK (fun k => k = g) w) := by
  have hgl : g < w.heap.size := hs.lt ⟨0, rfl⟩
  have HV := hide (fun j (hj : j < n + 12) => slab_live hs j (by omega))
  have hwr : IntKind.i64.wrap ((n : Int) + 12) = (n : Int) + 12 := IntWalk.i64_in _ (by omega)
  clear hs
  go_enter Try.func49, Try.ntmps49
  go_wp2_with fail
  go_loopg [3] (n + 12) (fun gg s wr => ∃ i : Nat, i ≤ n + 12 ∧ gg = n + 12 - i ∧ s = .int .i64 i ∧ Keeps (fun k => k = g) w wr ∧ Hid (∀ j, j < n + 12 → Live wr g j))
  case atStart => exact ⟨0, Nat.zero_le _, rfl, rfl, Keeps.refl _ _, HV⟩
  case round =>
    obtain ⟨i, hi, rfl, rfl, hkw, HV2⟩ := hrel
    have HKW := hide hkw; clear hkw
    have hi0 : (0 : Int) ≤ i := by omega
    by_cases hin : i < n + 12
    · have hiz : (i : Int) < (n : Int) + 12 := by omega
      obtain ⟨v, c0, e0⟩ := HV2.out i hin
      go_wp2_with (go_at_call 72; refine (mark_any 2 i (by omega) (by omega) (by omega) (by omega) _).mono ?_; rintro e w' ⟨rfl, rfl⟩)
      go_roundg (n + 12 - (i + 1))
      case measure => omega
      case rel => exact ⟨i + 1, by omega, rfl, by go_num, HKW.out.setCell (p := ⟨g, i, none⟩) (.inl rfl) _, hide (fun j hj => (HV2.out j hj).set _ _)⟩
    · obtain rfl : i = n + 12 := by omega
      have hiz : ¬ ((n + 12 : Nat) : Int) < (n : Int) + 12 := by omega
      go_wp2_with fail
      go_end0
      exact ⟨rfl, HKW.out⟩

def OverSaid (M : Nat) : Prop := ∀ (ts : List Tm), Tm.size.sizes ts ≤ M → ∀ (g n : Nat) (css : List (List Value)) (hi : Nat) (w : World), n ≤ 3000 →
  Slab w 33 7 (some ⟨g, 0, none⟩) (n + 12) (n + 12) (css.flatten ++ marksC 12) → css.length = n → LsIn w (g + 1) hi css ts → hi ≤ w.heap.size →
  Calls Try.prog 50 #[.slice (some ⟨g, 0, none⟩) n (n + 12)] w (EndK (fun k => g ≤ k ∧ k < hi) w)

set_option maxRecDepth 100000 in
set_option maxHeartbeats 1000000 in
theorem overTerm_of (M : Nat) (IH : Hid (OverSaid M)) (t : Tm) (hM : t.size ≤ M + 1) (w : World) (lo hi : Nat) (kd nm : Int) (ng : Bool) (la ia ta : Option Addr) (ln lc im ic tn tc : Nat) (tx : ByteArray) (hl : LIn w lo hi [.int .u8 kd, .bool ng, .slice la ln lc, .string tx, .int .i64 nm, .slice ia im ic, .slice ta tn tc] t) (hhi : hi ≤ w.heap.size) :
    Calls Try.prog 38 #[.agg #[.int .u8 kd, .bool ng, .slice la ln lc, .string tx, .int .i64 nm, .slice ia im ic, .slice ta tn tc]] w (EndK (fun k => lo ≤ k ∧ k < hi) w) := by
  cases t
  rename_i k neg limbs text num items tail
  have hsz : Tm.size.sizes items ≤ M ∧ Tm.size.sizes tail ≤ M := by simp only [Tm.size] at hM; omega
  unfold LIn at hl
  obtain ⟨xla, xln, xlc, g, xim, xic, g', xtn, xtc, ess, fss, m1, m2, e, ⟨s1, s2, s3⟩, ⟨g0, e0, a1, a2, a3, a4, a5⟩, ⟨b1, b2, b3, b4, b5⟩, ⟨c1, c2, c3, c4, c5⟩⟩ := hl
  simp only [List.cons.injEq, Value.int.injEq, Value.bool.injEq, Value.slice.injEq, Value.string.injEq, true_and, and_true] at e
  obtain ⟨rfl, rfl, ⟨rfl, rfl, rfl⟩, rfl, rfl, ⟨rfl, rfl, rfl⟩, rfl, rfl, rfl⟩ := e
  subst e0 a3 b2 c2
  have q1 := LsIn.le b5
  have q2 := LsIn.le c5
  have HG := hide (And.intro a5 (And.intro b4 (And.intro b5 (And.intro c4 c5))))
  have HSZ := hide hsz; have HIM := hide b3; have HTN := hide c3
  clear a5 b4 b5 c4 c5 hsz hM a4 b3 c3
  have HB1 := hide (Blk.new w 33 #[.int .u8 kd, .bool ng, .slice (some ⟨g0, 0, none⟩) ln (ln + 12), .string tx, .int .i64 nm, .slice (some ⟨g, 0, none⟩) im (im + 12), .slice (some ⟨g', 0, none⟩) tn (tn + 12)])
  have HK0 := hide ((Keeps.refl NoB w).alloc (.cells #[.int .u8 kd, .bool ng, .slice (some ⟨g0, 0, none⟩) ln (ln + 12), .string tx, .int .i64 nm, .slice (some ⟨g, 0, none⟩) im (im + 12), .slice (some ⟨g', 0, none⟩) tn (tn + 12)] 33))
  have hsA : w.heap.size < (w.alloc (.cells #[.int .u8 kd, .bool ng, .slice (some ⟨g0, 0, none⟩) ln (ln + 12), .string tx, .int .i64 nm, .slice (some ⟨g, 0, none⟩) im (im + 12), .slice (some ⟨g', 0, none⟩) tn (tn + 12)] 33)).heap.size := HB1.out.lt
  have x2 : (w.alloc (.cells #[.int .u8 kd, .bool ng, .slice (some ⟨g0, 0, none⟩) ln (ln + 12), .string tx, .int .i64 nm, .slice (some ⟨g, 0, none⟩) im (im + 12), .slice (some ⟨g', 0, none⟩) tn (tn + 12)] 33)).cell? ⟨w.heap.size, 2, none⟩ = some (.slice (some ⟨g0, 0, none⟩) ln (ln + 12)) := HB1.out.cell 2
  have mk1 : True := trivial
  go_enter Try.func38, Try.ntmps38
  go_wp2_with
    first
    | (go_at_call 49
       refine (overLimbs_any g0 ln _ _ (HG.out.1.fresh HK0.out) (by omega)).mono ?_
       rintro e w1 ⟨rfl, hk⟩
       have HK1 := hide (HK0.out.trans' hk (fun _ _ h => h.elim) (fun _ _ h => h) : Keeps (fun k => k = g0) w w1)
       have HB2 := hide (HB1.out.keep hk (fun e => by omega))
       clear x2 hk
       have x5 : w1.cell? ⟨w.heap.size, 5, none⟩ = some (.slice (some ⟨g, 0, none⟩) im (im + 12)) := HB2.out.cell 5)
    | (go_at_call 50
       clear mk1
       refine (IH.out items HSZ.out.1 g im ess m2 w1 s2 (HG.out.2.1.keep HK1.out (fun j ⟨o, e⟩ hf => by injection e with e; injection e with e; omega)) HIM.out (LsIn.keep HK1.out HG.out.2.2.1 (fun j h1 h2 hf => by omega)) (by have := HK1.out.size; omega)).mono ?_
       rintro e w2 ⟨rfl, hk⟩
       have HK2 := hide (HK1.out.trans' hk (fun j _ h => (show lo ≤ j ∧ j < m2 by omega)) (fun j _ h => (show lo ≤ j ∧ j < m2 by omega)) : Keeps (fun j => lo ≤ j ∧ j < m2) w w2)
       have HB3 := hide (HB2.out.keep hk (fun e => by omega))
       clear x5 hk
       have x6 : w2.cell? ⟨w.heap.size, 6, none⟩ = some (.slice (some ⟨g', 0, none⟩) tn (tn + 12)) := HB3.out.cell 6)
    | (go_at_call 50
       refine (IH.out tail HSZ.out.2 g' tn fss hi w2 s3 (HG.out.2.2.2.1.keep HK2.out (fun j ⟨o, e⟩ hf => by injection e with e; injection e with e; omega)) HTN.out (LsIn.keep HK2.out HG.out.2.2.2.2 (fun j h1 h2 hf => by omega)) (by have := HK2.out.size; omega)).mono ?_
       rintro e w3 ⟨rfl, hk⟩
       have HK3 := hide (HK2.out.trans' hk (fun j _ h => (show lo ≤ j ∧ j < hi by omega)) (fun j _ h => (show lo ≤ j ∧ j < hi by omega)) : Keeps (fun j => lo ≤ j ∧ j < hi) w w3)
       clear x6 hk)
    | fail
  go_end0
  exact ⟨rfl, HK3.out⟩

/-- The first k rows are written over: the others are as they were. -/
def OverInv (w : World) (g hi : Nat) (css : List (List Value)) (ts : List Tm) (k : Nat) (wr : World) : Prop :=
  ∃ m, g + 1 ≤ m ∧ m ≤ hi ∧ LsIn wr m hi (css.drop k) (ts.drop k) ∧ Keeps (fun j => g + 1 ≤ j ∧ j < m) w wr
theorem over_next {w wr : World} {g hi k : Nat} {css : List (List Value)} {ts : List Tm} {t : Tm} (h : OverInv w g hi css ts k wr) (ht : ts[k]? = some t) :
    ∃ kd ng la ln lc tx nm ia im ic ta tn tc m m', css[k]? = some [.int .u8 kd, .bool ng, .slice la ln lc, .string tx, .int .i64 nm, .slice ia im ic, .slice ta tn tc] ∧ g + 1 ≤ m ∧ m' ≤ hi ∧ LIn wr m m' [.int .u8 kd, .bool ng, .slice la ln lc, .string tx, .int .i64 nm, .slice ia im ic, .slice ta tn tc] t ∧ t.size ≤ Tm.size.sizes ts ∧ ∀ w2, Keeps (fun j => m ≤ j ∧ j < m') wr w2 → OverInv w g hi css ts (k + 1) w2 := by
  obtain ⟨m, h1, h2, h3, h4⟩ := h
  obtain ⟨hk, e⟩ := List.getElem?_eq_some_iff.1 ht
  have hl := (LsIn.lens h3).1
  have hkc : k < css.length := by simp only [List.length_drop] at hl; omega
  rw [List.drop_eq_getElem_cons hkc, List.drop_eq_getElem_cons hk, e] at h3
  unfold LsIn at h3
  obtain ⟨m', h5, h6⟩ := h3
  have q1 := LIn.le h5
  have q2 := LsIn.le h6
  have h7 := LIn.term (B := fun _ => True) h5 (fun _ _ _ => trivial)
  obtain ⟨kd, ng, la, ln, lc, tx, nm, ia, im, ic, ta, tn, tc, ec, _⟩ := h7.cells
  have hsz : ∀ (us : List Tm) (j : Nat) (u : Tm), us[j]? = some u → u.size ≤ Tm.size.sizes us := by
    intro us
    induction us with
    | nil => intro j u hu; simp at hu
    | cons v us ih =>
      intro j u hu
      cases j with
      | zero => obtain rfl : v = u := by simpa using hu
                simp only [Tm.size.sizes]; omega
      | succ j => have := ih j u (by simpa using hu); simp only [Tm.size.sizes]; omega
  refine ⟨kd, ng, la, ln, lc, tx, nm, ia, im, ic, ta, tn, tc, m, m', by rw [List.getElem?_eq_getElem hkc, ec], h1, q2, ec ▸ h5, hsz ts k t ht, fun w2 hk2 => ⟨m', by omega, q2, LsIn.keep hk2 h6 (fun j h1 h2 hf => by omega), h4.trans' hk2 (fun j _ h => (show g + 1 ≤ j ∧ j < m' by omega)) (fun j _ h => (show g + 1 ≤ j ∧ j < m' by omega))⟩⟩

set_option maxRecDepth 100000 in
set_option maxHeartbeats 2000000 in
theorem over_terms (M : Nat) : OverSaid M := by
  induction M using Nat.strongRecOn with
  | ind M IH =>
  intro ts hM g n css hi w hn hs hcl hls hhi
  have hln : ts.length = n := by have := (LsIn.lens hls).1; omega
  have hgl : g < w.heap.size := hs.lt ⟨0, rfl⟩
  have hlo := LsIn.le hls
  have HS0 := hide hs; have HLS := hide hls; have HLN := hide hln; have HM := hide hM; have HIH := hide IH
  have HC7 := hide (LsIn.lens hls).2
  have hwr : IntKind.i64.wrap ((n : Int) + 12) = (n : Int) + 12 := IntWalk.i64_in _ (by omega)
  clear hs hcl hls hln hM IH
  go_enter Try.func50, Try.ntmps50
  go_wp2_with fail
  go_loopg [2] n (fun gg s wr => ∃ k : Nat, k ≤ n ∧ gg = n - k ∧ s = .int .i64 k ∧ OverInv w g hi css ts k wr)
  case atStart => exact ⟨0, Nat.zero_le _, rfl, rfl, g + 1, Nat.le_refl _, hlo, HLS.out, Keeps.refl _ _⟩
  case round =>
    obtain ⟨k, hk, rfl, rfl, hinv⟩ := hrel
    have HI := hide hinv; clear hinv
    have hk0 : (0 : Int) ≤ k := by omega
    by_cases hkn : k < n
    · have hkz : (k : Int) < n := by omega
      obtain ⟨t, ht⟩ : ∃ t, ts[k]? = some t := ⟨_, List.getElem?_eq_getElem (by have := HLN.out; omega)⟩
      obtain ⟨kd, ng, la, ln, lc, tx, nm, ia, im, ic, ta, tn, tc, m, m', e1, e2, e3, e4, e5, e6⟩ := over_next HI.out ht
      have hkw : Keeps (fun j => g + 1 ≤ j ∧ j < hi) w wr := by
        obtain ⟨m0, b1, b2, _, b4⟩ := HI.out
        exact b4.mono (fun j _ h => ⟨h.1, by omega⟩)
      obtain ⟨f0, f1, f2, f3, f4, f5, f6⟩ := lent_at (HS0.out.keep hkw (fun j ⟨o, e⟩ hf => by injection e with e; injection e with e; omega)) HC7.out e1
      have HLI := hide e4; have HTS := hide e5; have HNX := hide e6
      have hhr : m' ≤ wr.heap.size := by have := hkw.size; omega
      clear ht e1 e4 e5 e6 hkw
      go_wp2_with
        first
        | (go_at_call 38
           refine (overTerm_of (t.size - 1) (hide (HIH.out (t.size - 1) (by have := HTS.out; have := HM.out; have := Tm.size_pos t; omega))) t (by omega) wr m m' kd nm ng la ia ta ln lc im ic tn tc tx HLI.out hhr).mono ?_
           rintro e w2 ⟨rfl, hk2⟩
           have HN2 := hide (HNX.out w2 hk2)
           clear hk2 f0 f1 f2 f3 f4 f5 f6)
        | fail
      go_roundg (n - (k + 1))
      case measure => omega
      case rel => exact ⟨k + 1, by omega, rfl, by go_num, HN2.out⟩
    · obtain rfl : n = k := by omega
      have hkz : ¬ (n : Int) < n := by omega
      have hkw : Keeps (fun j => g ≤ j ∧ j < hi) w wr ∧ Hid (∀ j, j < (n + 12) * 7 → Live wr g j) := by
        obtain ⟨m0, b1, b2, _, b4⟩ := HI.out
        refine ⟨b4.mono (fun j _ h => ⟨by omega, by omega⟩), hide (fun j hj => slab_live (HS0.out.keep b4 (fun j ⟨o, e⟩ hf => by injection e with e; injection e with e; omega)) j hj)⟩
      obtain ⟨hkw, HV⟩ := hkw
      have HKW := hide hkw
      clear hkw HI HLS HIH HM HS0
      go_wp2_with fail
      go_loopg [4] (n + 12) (fun gg s wx => ∃ i : Nat, i ≤ n + 12 ∧ gg = n + 12 - i ∧ s = .int .i64 i ∧ Keeps (fun j => g ≤ j ∧ j < hi) w wx ∧ Hid (∀ j, j < (n + 12) * 7 → Live wx g j))
      case atStart => exact ⟨0, Nat.zero_le _, rfl, rfl, HKW.out, HV⟩
      case round =>
        obtain ⟨i, hi2, rfl, rfl, hkw, HV2⟩ := hrel
        have HKX := hide hkw; clear hkw
        have hi0 : (0 : Int) ≤ i := by omega
        by_cases hin : i < n + 12
        · have hiz : (i : Int) < (n : Int) + 12 := by omega
          have hgw : g < wr.heap.size := by have := HKX.out.size; omega
          go_wp2_with
            first
            | (go_at_call 73
               refine (markTerm_any 2 i (by omega) (by omega) (by omega) (by omega) _).mono ?_
               rintro e w2 ⟨rfl, hk2⟩
               have HK2 := hide hk2
               have HV3 := hide (fun j hj => (HV2.out j hj).keep hk2 id hgw)
               obtain ⟨d0, c0, e0⟩ := HV3.out (i * 7) (by omega)
               obtain ⟨d1, c1, e1⟩ := HV3.out (i * 7 + 1) (by omega)
               obtain ⟨d2, c2, e2⟩ := HV3.out (i * 7 + 2) (by omega)
               obtain ⟨d3, c3, e3⟩ := HV3.out (i * 7 + 3) (by omega)
               obtain ⟨d4, c4, e4⟩ := HV3.out (i * 7 + 4) (by omega)
               obtain ⟨d5, c5, e5⟩ := HV3.out (i * 7 + 5) (by omega)
               obtain ⟨d6, c6, e6⟩ := HV3.out (i * 7 + 6) (by omega)
               clear hk2)
            | fail
          have hkk : Keeps (fun j => g ≤ j ∧ j < hi) w w2 := HKX.out.trans' HK2.out (fun _ _ h => h) (fun _ _ h => h.elim)
          have hgj : (fun j => g ≤ j ∧ j < hi) g := ⟨Nat.le_refl _, by omega⟩
          go_roundg (n + 12 - (i + 1))
          case measure => omega
          case rel => exact ⟨i + 1, by omega, rfl, by go_num, (((((((hkk.setCell (p := ⟨g, i * 7, none⟩) (.inl hgj) (_)).setCell (p := ⟨g, i * 7 + 1, none⟩) (.inl hgj) (_)).setCell (p := ⟨g, i * 7 + 2, none⟩) (.inl hgj) (_)).setCell (p := ⟨g, i * 7 + 3, none⟩) (.inl hgj) (_)).setCell (p := ⟨g, i * 7 + 4, none⟩) (.inl hgj) (_)).setCell (p := ⟨g, i * 7 + 5, none⟩) (.inl hgj) (_)).setCell (p := ⟨g, i * 7 + 6, none⟩) (.inl hgj) (_)), hide (fun j hj => ((((((((HV3.out j hj).set _ _).set _ _).set _ _).set _ _).set _ _).set _ _).set _ _))⟩
        · obtain rfl : i = n + 12 := by omega
          have hiz : ¬ ((n + 12 : Nat) : Int) < (n : Int) + 12 := by omega
          go_wp2_with fail
          go_end0
          exact ⟨rfl, HKX.out⟩
theorem overTerm_any (t : Tm) (w : World) (lo hi : Nat) (kd nm : Int) (ng : Bool) (la ia ta : Option Addr) (ln lc im ic tn tc : Nat) (tx : ByteArray) (hl : LIn w lo hi [.int .u8 kd, .bool ng, .slice la ln lc, .string tx, .int .i64 nm, .slice ia im ic, .slice ta tn tc] t) (hhi : hi ≤ w.heap.size) :
    Calls Try.prog 38 #[.agg #[.int .u8 kd, .bool ng, .slice la ln lc, .string tx, .int .i64 nm, .slice ia im ic, .slice ta tn tc]] w (EndK (fun k => lo ≤ k ∧ k < hi) w) := overTerm_of t.size (hide (over_terms t.size)) t (by omega) w lo hi kd nm ng la ia ta ln lc im ic tn tc tx hl hhi
end Go.Proofs.Ytmkidkfofbnjgaa
