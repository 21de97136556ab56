/- Terms in memory of their own: each list in a block of its own, and where. pigeonholekit: SameLimbs, SameTerm, SameTerms tell whether two are the same. The box in memory, and its letters; plain lemmas. pigeonholekit: SameTerm, SameTerms. pigeonholekit: SameTerms. -/
import Derived.Test.YtmkidkfofbnjgaaOwnTopJn
import Derived.Test.YtmkidkfofbnjgaaMoreJn
import Derived.Test.YtmkidkfofbnjgaaRows
import Derived.Test.YtmkidkfofbnjgaaSeqJn
import Derived.Deep.QuietTactic
import Derived.BigQuiet
import Derived.Deep.LoopGhost
namespace Go.Proofs.Ytmkidkfofbnjgaa
open Go.RowKit

/-- A list in a block of its own, from lo on and below hi (or nowhere). -/
def RowO (w : World) (e : TypeId) (size lo hi : Nat) (A : Option Addr) (n c : Nat) (xs : List Value) : Prop := Slab w e size A n c xs ∧ (∀ k, rowB A k → lo ≤ k ∧ k < hi) ∧ lo ≤ hi
theorem RowO.keep {w w' : World} {e : TypeId} {size lo hi : Nat} {A : Option Addr} {n c : Nat} {xs : List Value} {fp : Nat → Prop} (h : RowO w e size lo hi A n c xs) (hk : Keeps fp w w') (hf : ∀ k, lo ≤ k → k < hi → ¬ fp k) : RowO w' e size lo hi A n c xs :=
  ⟨h.1.keep hk (fun k hk => hf k (h.2.1 k hk).1 (h.2.1 k hk).2), h.2⟩
theorem RowO.more {w : World} {e : TypeId} {size lo hi lo' hi' : Nat} {A : Option Addr} {n c : Nat} {xs : List Value} (h : RowO w e size lo hi A n c xs) (h1 : lo' ≤ lo) (h2 : hi ≤ hi') : RowO w e size lo' hi' A n c xs :=
  ⟨h.1, fun k hk => ⟨by have := (h.2.1 k hk).1; omega, by have := (h.2.1 k hk).2; omega⟩, by have := h.2.2; omega⟩
mutual
/-- Seven cells of a term; its lists lie in blocks of their own, from lo on and below hi. -/
def OIn (w : World) : Nat → Nat → List Value → Tm → Prop
  | lo, hi, cs, .mk k neg limbs text num items tail => ∃ la ln lc ia im ic ta tn tc css dss m1 m2 m3 m4,
      cs = [.int .u8 k, .bool neg, .slice la ln lc, .string text, .int .i64 num, .slice ia im ic, .slice ta tn tc] ∧ Roomy ln 4 ∧
      RowO w 92 1 lo m1 la ln lc (limbs.map (Value.int .u32)) ∧ (RowO w 33 7 m1 m2 ia im ic css.flatten ∧ OsIn w m2 m3 css items) ∧ (RowO w 33 7 m3 m4 ta tn tc dss.flatten ∧ OsIn w m4 hi dss tail)
def OsIn (w : World) : Nat → Nat → List (List Value) → List Tm → Prop
  | lo, hi, [], [] => lo ≤ hi
  | lo, hi, cs :: css, t :: ts => ∃ m, OIn w lo m cs t ∧ OsIn w m hi css ts
  | _, _, [], _ :: _ => False
  | _, _, _ :: _, [] => False
end
mutual
theorem OIn.le {w : World} : ∀ {lo hi : Nat} {cs : List Value} {t : Tm}, OIn w lo hi cs t → lo ≤ hi
  | lo, hi, cs, .mk k neg limbs text num items tail, h => by
    unfold OIn at h
    obtain ⟨la, ln, lc, ia, im, ic, ta, tn, tc, css, dss, m1, m2, m3, m4, _, _, h1, ⟨h2, h3⟩, ⟨h4, h5⟩⟩ := h
    have := h1.2.2; have := h2.2.2; have := OsIn.le h3; have := h4.2.2; have := OsIn.le h5
    omega
theorem OsIn.le {w : World} : ∀ {lo hi : Nat} {css : List (List Value)} {ts : List Tm}, OsIn w lo hi css ts → lo ≤ hi
  | lo, hi, [], [], h => by unfold OsIn at h; exact h
  | lo, hi, cs :: css, t :: ts, h => by
    unfold OsIn at h
    obtain ⟨m, h1, h2⟩ := h
    have := OIn.le h1
    have := OsIn.le h2
    omega
  | _, _, [], _ :: _, h => by unfold OsIn at h; exact h.elim
  | _, _, _ :: _, [], h => by unfold OsIn at h; exact h.elim
end
mutual
theorem OIn.keep {w w' : World} {fp : Nat → Prop} (hk : Keeps fp w w') : ∀ {lo hi : Nat} {cs : List Value} {t : Tm}, OIn w lo hi cs t → (∀ k, lo ≤ k → k < hi → ¬ fp k) → OIn w' lo hi cs t
  | lo, hi, cs, .mk k neg limbs text num items tail, h, hf => by
    unfold OIn at h ⊢
    obtain ⟨la, ln, lc, ia, im, ic, ta, tn, tc, css, dss, m1, m2, m3, m4, e, hr, h1, ⟨h2, h3⟩, ⟨h4, h5⟩⟩ := h
    have q1 := h1.2.2; have q2 := h2.2.2; have q3 := OsIn.le h3; have q4 := h4.2.2; have q5 := OsIn.le h5
    exact ⟨la, ln, lc, ia, im, ic, ta, tn, tc, css, dss, m1, m2, m3, m4, e, hr, h1.keep hk (fun k _ _ => hf k (by omega) (by omega)), ⟨h2.keep hk (fun k _ _ => hf k (by omega) (by omega)), OsIn.keep hk h3 (fun k _ _ => hf k (by omega) (by omega))⟩, ⟨h4.keep hk (fun k _ _ => hf k (by omega) (by omega)), OsIn.keep hk h5 (fun k _ _ => hf k (by omega) (by omega))⟩⟩
theorem OsIn.keep {w w' : World} {fp : Nat → Prop} (hk : Keeps fp w w') : ∀ {lo hi : Nat} {css : List (List Value)} {ts : List Tm}, OsIn w lo hi css ts → (∀ k, lo ≤ k → k < hi → ¬ fp k) → OsIn w' lo hi css ts
  | lo, hi, [], [], h, _ => by unfold OsIn at h ⊢; exact h
  | lo, hi, cs :: css, t :: ts, h, hf => by
    unfold OsIn at h ⊢
    obtain ⟨m, h1, h2⟩ := h
    have q1 := OIn.le h1
    have q2 := OsIn.le h2
    exact ⟨m, OIn.keep hk h1 (fun k _ _ => hf k (by omega) (by omega)), OsIn.keep hk h2 (fun k _ _ => hf k (by omega) (by omega))⟩
  | _, _, [], _ :: _, h, _ => by unfold OsIn at h; exact h.elim
  | _, _, _ :: _, [], h, _ => by unfold OsIn at h; exact h.elim
end
theorem OIn.up {w : World} : ∀ {lo hi hi' : Nat} {cs : List Value} {t : Tm}, OIn w lo hi cs t → hi ≤ hi' → OIn w lo hi' cs t := by
  intro lo hi hi' cs t h hh
  obtain ⟨k, neg, limbs, text, num, items, tail⟩ := t
  unfold OIn at h ⊢
  obtain ⟨la, ln, lc, ia, im, ic, ta, tn, tc, css, dss, m1, m2, m3, m4, e, hr, h1, h23, ⟨h4, h5⟩⟩ := h
  have up : ∀ (dss : List (List Value)) (tail : List Tm) (lo : Nat), OsIn w lo hi dss tail → OsIn w lo hi' dss tail := by
    intro dss
    induction dss with
    | nil => intro tail lo h; cases tail with
      | nil => unfold OsIn at h ⊢; omega
      | cons _ _ => unfold OsIn at h; exact h.elim
    | cons c cs ih => intro tail lo h; cases tail with
      | nil => unfold OsIn at h; exact h.elim
      | cons t ts =>
        unfold OsIn at h ⊢
        obtain ⟨m, h1, h2⟩ := h
        exact ⟨m, h1, ih _ _ h2⟩
  exact ⟨la, ln, lc, ia, im, ic, ta, tn, tc, css, dss, m1, m2, m3, m4, e, hr, h1, h23, ⟨h4, up _ _ _ h5⟩⟩
theorem OIn.down {w : World} {lo lo' hi : Nat} {cs : List Value} {t : Tm} (h : OIn w lo hi cs t) (hl : lo' ≤ lo) : OIn w lo' hi cs t := by
  obtain ⟨k, neg, limbs, text, num, items, tail⟩ := t
  unfold OIn at h ⊢
  obtain ⟨la, ln, lc, ia, im, ic, ta, tn, tc, css, dss, m1, m2, m3, m4, e, hr, h1, h2⟩ := h
  exact ⟨la, ln, lc, ia, im, ic, ta, tn, tc, css, dss, m1, m2, m3, m4, e, hr, h1.more hl (Nat.le_refl _), h2⟩
/-- One more behind. -/
theorem OsIn.snoc {w : World} {hi : Nat} {c : List Value} {t : Tm} : ∀ {css : List (List Value)} {ts : List Tm} {lo m : Nat}, OsIn w lo m css ts → OIn w m hi c t → OsIn w lo hi (css ++ [c]) (ts ++ [t])
  | [], [], lo, m, h, h2 => by
    unfold OsIn at h
    rw [List.nil_append, List.nil_append]
    unfold OsIn
    exact ⟨hi, h2.down h, by unfold OsIn; exact Nat.le_refl _⟩
  | cs :: css, t :: ts, lo, m, h, h2 => by
    unfold OsIn at h
    obtain ⟨q, h3, h4⟩ := h
    rw [List.cons_append, List.cons_append]
    unfold OsIn
    exact ⟨q, h3, OsIn.snoc h4 h2⟩
  | [], _ :: _, _, _, h, _ => by unfold OsIn at h; exact h.elim
  | _ :: _, [], _, _, h, _ => by unfold OsIn at h; exact h.elim
theorem OsIn.lens {w : World} : ∀ {css : List (List Value)} {ts : List Tm} {lo hi : Nat}, OsIn w lo hi css ts → css.length = ts.length ∧ ∀ c ∈ css, c.length = 7
  | [], [], _, _, _ => ⟨rfl, fun _ h => by cases h⟩
  | cs :: css, t :: ts, _, _, h => by
    unfold OsIn at h
    obtain ⟨m, h1, h2⟩ := h
    obtain ⟨e1, e2⟩ := OsIn.lens h2
    refine ⟨by simp [e1], fun c hc => ?_⟩
    rcases List.mem_cons.1 hc with rfl | hc
    · obtain ⟨k, neg, limbs, text, num, items, tail⟩ := t
      unfold OIn at h1
      obtain ⟨_, _, _, _, _, _, _, _, _, _, _, _, _, _, _, rfl, _⟩ := h1
      rfl
    · exact e2 c hc
  | [], _ :: _, _, _, h => by unfold OsIn at h; exact h.elim
  | _ :: _, [], _, _, h => by unfold OsIn at h; exact h.elim
theorem OsIn.up {w : World} : ∀ {css : List (List Value)} {ts : List Tm} {lo hi hi' : Nat}, OsIn w lo hi css ts → hi ≤ hi' → OsIn w lo hi' css ts
  | [], [], _, _, _, h, hh => by unfold OsIn at h ⊢; omega
  | cs :: css, t :: ts, _, _, _, h, hh => by
    unfold OsIn at h ⊢
    obtain ⟨m, h1, h2⟩ := h
    exact ⟨m, h1, OsIn.up h2 hh⟩
  | [], _ :: _, _, _, _, h, _ => by unfold OsIn at h; exact h.elim
  | _ :: _, [], _, _, _, h, _ => by unfold OsIn at h; exact h.elim
end Go.Proofs.Ytmkidkfofbnjgaa
namespace Go.Proofs.Ytmkidkfofbnjgaa
open Go.RowKit

theorem take_eq_succ {α : Type} {xs ys : List α} {k : Nat} {x : α} (h : xs.take k = ys.take k) (h1 : xs[k]? = some x) (h2 : ys[k]? = some x) : xs.take (k + 1) = ys.take (k + 1) := by
  rw [List.take_add_one, List.take_add_one, h, h1, h2]

def SameInv (w : World) (xs ys : List Int) (k : Nat) (wr : World) : Prop := Keeps NoB w wr ∧ xs.take k = ys.take k

def eqL (xs ys : List Int) : Bool := decide (xs = ys)

set_option maxRecDepth 100000 in
theorem same_limbs (A A' : Option Addr) (n c n' c' : Nat) (xs ys : List Int) (w : World) (B B' : Nat → Prop) (F F' : Bool) (hx : Reads w B F 1 A n (xs.map (Value.int .u32))) (hy : Reads w B' F' 1 A' n' (ys.map (Value.int .u32))) (hr : Roomy n 4) :
    Calls Try.prog 39 #[.slice A n c, .slice A' n' c'] w fun e w' => e = .returned (.bool (eqL xs ys)) ∧ Keeps NoB w w' := by
  have hln : xs.length = n := by have := hx.1; simpa using this
  have hln' : ys.length = n' := by have := hy.1; simpa using this
  have hnm : n ≤ 9223372036854775807 := by have := hr.len (by omega); unfold maxLen at this; exact this
  by_cases hne : n = n'
  · have HN := hide hne
    have hb : ((n : Int) != (n' : Int)) = false := by simp [hne]
    have HX := hide hx; have HY := hide hy; have HLN := hide hln; have HLN' := hide hln'
    clear hx hy hln hln' hne
    go_enter Try.func39, Try.ntmps39
    go_wp2
    go_loopw [5] (fun i wr => ∃ k : Nat, k ≤ n ∧ i = .int .i64 k ∧ SameInv w xs ys k wr) (fun i _ => n - (intOf i).toNat)
    case atStart => exact ⟨0, Nat.zero_le _, rfl, Keeps.refl _ _, rfl⟩
    case round =>
      obtain ⟨k, hk, rfl, hinv⟩ := hrel
      have HI := hide hinv; clear hinv
      by_cases hlt : k < n
      · have hkx : k < xs.length := by have := HLN.out; omega
        have hky : k < ys.length := by have := HLN'.out; have := HN.out; omega
        have hlt' : k < n' := by have := HN.out; omega
        obtain ⟨⟨b, o, sp⟩, hA, hs, _, _, hc⟩ := (HX.out.keep HI.out.1 (fun _ _ => id)).2 (by omega)
        obtain ⟨⟨b', o', sp'⟩, hA', hs', _, _, hc'⟩ := (HY.out.keep HI.out.1 (fun _ _ => id)).2 (by omega)
        simp only at hs hs'
        subst hs hs' hA hA'
        obtain ⟨X, hX⟩ : ∃ X, xs[k]? = some X := ⟨_, List.getElem?_eq_getElem hkx⟩
        obtain ⟨Y, hY⟩ : ∃ Y, ys[k]? = some Y := ⟨_, List.getElem?_eq_getElem hky⟩
        have hcx : wr.cell? ⟨b, o + k, none⟩ = some (.int .u32 X) := (hc k _ (by simp [hX])).1
        have hcy : wr.cell? ⟨b', o' + k, none⟩ = some (.int .u32 Y) := (hc' k _ (by simp [hY])).1
        have HEX := hide hX; have HEY := hide hY
        clear hc hc' hX hY
        have hk1 : (k : Int) < (n : Int) := by omega
        have hk2 : (k : Int) < (n' : Int) := by omega
        have hk0 : (0 : Int) ≤ (k : Int) := by omega
        clear hkx hky
        by_cases hxy : X = Y
        · have HXY := hide hxy
          have hbb : (X != Y) = false := by simp [hxy]
          clear hxy
          go_wp2_with (go_quiet (fail))
          go_roundw
          case rel => exact ⟨k + 1, by omega, by go_num, HI.out.1.drewN _, take_eq_succ HI.out.2 HEX.out (HXY.out ▸ HEY.out)⟩
          case measure => simp [intOf]; omega
        · have HXY := hide hxy
          have hbb : (X != Y) = true := by simp [hxy]
          clear hxy
          go_wp2_with (go_quiet (fail))
          go_ret
          refine ⟨?_, HI.out.1.drewN _⟩
          have he : eqL xs ys = false := by
            unfold eqL; simp only [decide_eq_false_iff_not]; intro e; subst e
            exact HXY.out (Option.some.inj (HEX.out.symm.trans HEY.out))
          rw [he]; rfl
      · go_wp2
        go_ret
        refine ⟨?_, HI.out.1⟩
        have he : eqL xs ys = true := by
          have h2 := HI.out.2
          have h3 := HLN.out; have h4 := HLN'.out; have h5 := HN.out
          rw [List.take_of_length_le (by omega), List.take_of_length_le (by omega)] at h2
          unfold eqL; simp [h2]
        rw [he]; rfl
  · have hb : ((n : Int) != (n' : Int)) = true := by simp; omega
    have he : eqL xs ys = false := by
      unfold eqL; simp only [decide_eq_false_iff_not]; rintro rfl; omega
    have HE := hide he; clear he
    clear hx hy hln hln' hne
    go_enter Try.func39, Try.ntmps39
    go_wp2
    go_ret
    exact ⟨by rw [HE.out]; rfl, Keeps.refl _ _⟩
end Go.Proofs.Ytmkidkfofbnjgaa
namespace Go.Proofs.Ytmkidkfofbnjgaa
open Go.RowKit

mutual
theorem TermIn.weak {w : World} {B : Nat → Prop} {F : Bool} : ∀ (t : Tm) (cs : List Value), TermIn w B F cs t → TermIn w B false cs t
  | .mk k neg limbs text num items tail, cs, h => by
    unfold TermIn at h ⊢
    obtain ⟨la, ln, lc, ia, im, ic, ta, tn, tc, css, dss, e, hb, h1, h2, h3, h4, h5⟩ := h
    exact ⟨la, ln, lc, ia, im, ic, ta, tn, tc, css, dss, e, hb, h1.weak, h2.weak, TermsIn.weak items css h3, h4.weak, TermsIn.weak tail dss h5⟩
theorem TermsIn.weak {w : World} {B : Nat → Prop} {F : Bool} : ∀ (ts : List Tm) (css : List (List Value)), TermsIn w B F css ts → TermsIn w B false css ts
  | [], [], _ => by unfold TermsIn; trivial
  | t :: ts, cs :: css, h => by
    unfold TermsIn at h ⊢
    exact ⟨TermIn.weak t cs h.1, TermsIn.weak ts css h.2⟩
  | [], _ :: _, h => by unfold TermsIn at h; exact h.elim
  | _ :: _, [], h => by unfold TermsIn at h; exact h.elim
end

theorem Blk.put7 {w : World} {g : Nat} {t : TypeId} {a0 a1 a2 a3 a4 a5 a6 : Value} (h : Blk w g t #[a0, a1, a2, a3, a4, a5, a6]) (v0 v1 v2 v3 v4 v5 v6 : Value) :
    Blk (((((((w.setCell ⟨g, 0, none⟩ v0).setCell ⟨g, 1, none⟩ v1).setCell ⟨g, 2, none⟩ v2).setCell ⟨g, 3, none⟩ v3).setCell ⟨g, 4, none⟩ v4).setCell ⟨g, 5, none⟩ v5).setCell ⟨g, 6, none⟩ v6) g t #[v0, v1, v2, v3, v4, v5, v6] := by
  have := ((((((h.put 0 v0).put 1 v1).put 2 v2).put 3 v3).put 4 v4).put 5 v5).put 6 v6
  simpa using this

theorem TermIn.cells {w : World} {B : Nat → Prop} {F : Bool} {cs : List Value} {t : Tm} (h : TermIn w B F cs t) :
    ∃ kd ng la ln lc tx nm ia im ic ta tn tc, cs = [.int .u8 kd, .bool ng, .slice la ln lc, .string tx, .int .i64 nm, .slice ia im ic, .slice ta tn tc] ∧ kd = t.kind ∧ tx = t.text ∧ nm = t.num := by
  cases t
  unfold TermIn at h
  obtain ⟨la, ln, lc, ia, im, ic, ta, tn, tc, css, dss, e, _⟩ := h
  exact ⟨_, _, la, ln, lc, _, _, ia, im, ic, ta, tn, tc, e, rfl, rfl, rfl⟩

theorem Reads.sub {w : World} {B : Nat → Prop} {F : Bool} {g o n i : Nat} {css : List (List Value)} {c : List Value} (h : Reads w B F 7 (some ⟨g, o, none⟩) n css.flatten) (h7 : ∀ c ∈ css, c.length = 7) (hi : css[i]? = some c) :
    Reads w B F 7 (some ⟨g, o + i * 7, none⟩) 1 (List.flatten [c]) := by
  obtain ⟨hlt, he⟩ := List.getElem?_eq_some_iff.1 hi
  have hc7 : c.length = 7 := h7 c (he ▸ List.getElem_mem hlt)
  have hn : css.length = n := by have := h.1; rw [flat_len h7] at this; omega
  refine ⟨by simp [hc7], fun _ => ?_⟩
  obtain ⟨ad, e, hs, hb, hl, hcell⟩ := h.2 (by omega)
  injection e with e
  subst e
  refine ⟨_, rfl, rfl, hb, hl, fun j u hu => ?_⟩
  have hj : j < 7 := by
    have := (List.getElem?_eq_some_iff.1 hu).1
    simp at this; omega
  have := hcell (i * 7 + j) u (by rw [flat_get h7 i hlt j hj, he]; simpa using hu)
  simpa [Nat.add_assoc] using this

/-- A letter: its seven cells, what they read as, and the blocks that are its own. -/
structure Lt where
  cs : List Value
  t : Tm
  lo : Nat
  hi : Nat

def Lt.ok (w : World) (x : Lt) : Prop := TermIn w (fun k => x.lo ≤ k ∧ k < x.hi) true x.cs x.t ∧ x.lo ≤ x.hi ∧ x.hi ≤ w.heap.size
def Lt.misses (x : Lt) (k : Nat) : Prop := k < x.lo ∨ x.hi ≤ k

abbrev cellsOf (L : List Lt) : List (List Value) := L.map (·.cs)

/-- The program's box: block b; its row of letters; each letter in blocks of its own. -/
structure BoxAt (w : World) (b : Nat) (sv : Value) (L : List Lt) (at' : Nat) : Prop where
  blk : Blk w b 61 #[sv, .int .i64 at', .bool true]
  row : w.ownsRow 0 33 7 sv L.length (cellsOf L).flatten
  ok : ∀ x ∈ L, x.ok w
  off : ∀ x ∈ L, x.misses b ∧ ∀ g, sv.ownBlock = some g → x.misses g
  apart : L.Pairwise fun x y => x.hi ≤ y.lo

/-- The blocks that the box itself writes. -/
abbrev boxFp (b : Nat) (sv : Value) : Nat → Prop := fun k => k = b ∨ sv.ownBlock = some k

theorem Lt.ok.len {w : World} {x : Lt} (h : x.ok w) : x.cs.length = 7 := h.1.len
theorem Lt.ok.keep {w w' : World} {x : Lt} {fp : Nat → Prop} (h : x.ok w) (hk : Keeps fp w w') (hf : ∀ k, fp k → x.misses k) : x.ok w' :=
  ⟨TermIn.keep hk (fun k hB hfk => by rcases hf k hfk with h | h <;> omega) _ _ h.1, h.2.1, Nat.le_trans h.2.2 hk.size⟩

theorem ownsRow_ne {w : World} {b : Nat} {e t : TypeId} {size n base : Nat} {v : Value} {xs : List Value} {cs : Array Value} (h : w.ownsRow base e size v n xs) (hb : Blk w b t cs) (hne : e ≠ t) : v.ownBlock ≠ some b := by
  intro hg
  rcases h.2 with ⟨rfl, _⟩ | ⟨g, cap, cur, rfl, _, hh, _⟩
  · simp [Value.ownBlock] at hg
  · simp [Value.ownBlock] at hg
    subst hg
    exact hne (Blk.one (t := e) (t' := t) hh hb).1

theorem ownsRow_keep {w w' : World} {e : TypeId} {size n base : Nat} {v : Value} {xs : List Value} {fp : Nat → Prop} (h : w.ownsRow base e size v n xs) (hk : Keeps fp w w') (hg : ∀ g, v.ownBlock = some g → ¬ fp g) : w'.ownsRow base e size v n xs := by
  refine ⟨h.1, ?_⟩
  rcases h.2 with h0 | ⟨g, cap, cur, rfl, h1, h2, h3⟩
  · exact .inl h0
  · exact .inr ⟨g, cap, cur, rfl, h1, (hk.block g (Blk.lt (t := e) h2) (hg g rfl)).trans h2, h3⟩
theorem ownsRow_lt {w : World} {e : TypeId} {size n base : Nat} {v : Value} {xs : List Value} (h : w.ownsRow base e size v n xs) {g : Nat} (hg : v.ownBlock = some g) : g < w.heap.size := (h.lt g hg).2

theorem row_at {w : World} {g c i : Nat} {L : List Lt} {x : Lt} (hrow : w.ownsRow 0 33 7 (.slice (some ⟨g, 0, none⟩) L.length c) L.length (cellsOf L).flatten) (h7 : ∀ c ∈ cellsOf L, c.length = 7) (hx : L[i]? = some x) :
    Reads w (fun _ => True) true 7 (some ⟨g, i * 7, none⟩) 1 (List.flatten [x.cs]) := by
  have := Reads.sub ((Reads.of_own hrow).more (B' := fun _ => True) (fun _ _ _ => trivial)) h7 (i := i) (c := x.cs) (by simp [cellsOf, hx])
  simpa using this

section
variable {w w' : World} {b : Nat} {sv : Value} {L : List Lt} {i : Nat} {fp : Nat → Prop}
theorem BoxAt.sep (h : BoxAt w b sv L i) : sv.ownBlock ≠ some b := ownsRow_ne h.row h.blk (by decide)
theorem BoxAt.lens (h : BoxAt w b sv L i) : ∀ c ∈ cellsOf L, c.length = 7 := by
  intro c hc
  obtain ⟨x, hx, rfl⟩ := List.mem_map.1 hc
  exact (h.ok x hx).len
/-- What leaves the box's blocks and its letters' alone leaves the box as it is. -/
theorem BoxAt.keep (h : BoxAt w b sv L i) (hk : Keeps fp w w') (hb : ¬ fp b) (hg : ∀ g, sv.ownBlock = some g → ¬ fp g) (hl : ∀ x ∈ L, ∀ k, fp k → x.misses k) : BoxAt w' b sv L i := by
  refine ⟨h.blk.keep hk hb, ?_, fun x hx => (h.ok x hx).keep hk (hl x hx), h.off, h.apart⟩
  refine ⟨h.row.1, ?_⟩
  rcases h.row.2 with h0 | ⟨g, cap, cur, rfl, h1, h2, h3⟩
  · exact .inl h0
  · exact .inr ⟨g, cap, cur, rfl, h1, (hk.block g (Blk.lt (t := 33) h2) (hg g rfl)).trans h2, h3⟩
theorem BoxAt.fresh (h : BoxAt w b sv L i) (hk : Keeps NoB w w') : BoxAt w' b sv L i := h.keep hk id (fun _ _ => id) (fun _ _ _ hf => hf.elim)
end

end Go.Proofs.Ytmkidkfofbnjgaa
namespace Go.Proofs.Ytmkidkfofbnjgaa
open Go.RowKit

mutual
def eqT : Tm → Tm → Bool
  | .mk k ng limbs tx nm items tail, .mk k' ng' limbs' tx' nm' items' tail' =>
    (k == k') && ((ng == ng') && (eqL limbs limbs' && (decide (tx.toList = tx'.toList) && ((nm == nm') && (eqTs items items' && eqTs tail tail')))))
def eqTs : List Tm → List Tm → Bool
  | [], [] => true
  | t :: ts, u :: us => eqT t u && eqTs ts us
  | [], _ :: _ => false
  | _ :: _, [] => false
end

theorem Blk.new2 (w : World) (o : Obj) (t : TypeId) (cs : Array Value) : Blk ((w.alloc o).alloc (.cells cs t)) (w.heap.size + 1) t cs := by
  have h := Blk.new (w.alloc o) t cs
  have e : (w.alloc o).heap.size = w.heap.size + 1 := by unfold World.alloc; exact Array.size_push ..
  rw [e] at h; exact h

def SamesPost (w : World) (r : Bool) (e : Ending) (w' : World) : Prop := e = .returned (.bool r) ∧ Keeps NoB w w'

def SamesSaid (M : Nat) : Prop := ∀ (ts us : List Tm), Tm.size.sizes ts ≤ M → ∀ (css dss : List (List Value)) (A A' : Option Addr) (n c n' c' : Nat) (w : World) (B B' : Nat → Prop) (F F' : Bool),
  Reads w B F 7 A n css.flatten → TermsIn w B F css ts → Reads w B' F' 7 A' n' dss.flatten → TermsIn w B' F' dss us → Roomy n 104 →
  Calls Try.prog 28 #[.slice A n c, .slice A' n' c'] w (SamesPost w (eqTs ts us))

set_option maxRecDepth 100000 in
set_option maxHeartbeats 1000000 in
theorem same_term_of (M : Nat) (IH : Hid (SamesSaid M)) (t u : Tm) (hM : t.size ≤ M + 1) (w : World) (B B' : Nat → Prop) (F F' : Bool)
    (kd : Int) (ng : Bool) (la : Option Addr) (ln lc : Nat) (tx : ByteArray) (nm : Int) (ia : Option Addr) (im ic : Nat) (ta : Option Addr) (tn tc : Nat)
    (kd' : Int) (ng' : Bool) (la' : Option Addr) (ln' lc' : Nat) (tx' : ByteArray) (nm' : Int) (ia' : Option Addr) (im' ic' : Nat) (ta' : Option Addr) (tn' tc' : Nat)
    (ht : TermIn w B F [.int .u8 kd, .bool ng, .slice la ln lc, .string tx, .int .i64 nm, .slice ia im ic, .slice ta tn tc] t)
    (hu : TermIn w B' F' [.int .u8 kd', .bool ng', .slice la' ln' lc', .string tx', .int .i64 nm', .slice ia' im' ic', .slice ta' tn' tc'] u) :
    Calls Try.prog 27 #[.agg #[.int .u8 kd, .bool ng, .slice la ln lc, .string tx, .int .i64 nm, .slice ia im ic, .slice ta tn tc], .agg #[.int .u8 kd', .bool ng', .slice la' ln' lc', .string tx', .int .i64 nm', .slice ia' im' ic', .slice ta' tn' tc']] w (SamesPost w (eqT t u)) := by
  obtain ⟨limbs, items, tail, css, dss, rfl, hroom, hrl, hri, hti, hrt, htt⟩ : ∃ limbs items tail css dss, t = .mk kd ng limbs tx nm items tail ∧ (Roomy ln 4 ∧ Roomy im 104 ∧ Roomy tn 104) ∧ Reads w B F 1 la ln (limbs.map (Value.int .u32)) ∧ Reads w B F 7 ia im (List.flatten css) ∧ TermsIn w B F css items ∧ Reads w B F 7 ta tn (List.flatten dss) ∧ TermsIn w B F dss tail := by
    cases t
    unfold TermIn at ht
    obtain ⟨_, _, _, _, _, _, _, _, _, css, dss, e, hb, h1, h2, h3, h4, h5⟩ := ht
    simp only [List.cons.injEq, Value.int.injEq, Value.bool.injEq, Value.slice.injEq, Value.string.injEq, true_and, and_true] at e
    obtain ⟨rfl, rfl, ⟨rfl, rfl, rfl⟩, rfl, rfl, ⟨rfl, rfl, rfl⟩, rfl, rfl, rfl⟩ := e
    exact ⟨_, _, _, css, dss, rfl, hb, h1, h2, h3, h4, h5⟩
  obtain ⟨limbs', items', tail', css', dss', rfl, hroom', hrl', hri', hti', hrt', htt'⟩ : ∃ limbs items tail css dss, u = .mk kd' ng' limbs tx' nm' items tail ∧ (Roomy ln' 4 ∧ Roomy im' 104 ∧ Roomy tn' 104) ∧ Reads w B' F' 1 la' ln' (limbs.map (Value.int .u32)) ∧ Reads w B' F' 7 ia' im' (List.flatten css) ∧ TermsIn w B' F' css items ∧ Reads w B' F' 7 ta' tn' (List.flatten dss) ∧ TermsIn w B' F' dss tail := by
    cases u
    unfold TermIn at hu
    obtain ⟨_, _, _, _, _, _, _, _, _, css, dss, e, hb, h1, h2, h3, h4, h5⟩ := hu
    simp only [List.cons.injEq, Value.int.injEq, Value.bool.injEq, Value.slice.injEq, Value.string.injEq, true_and, and_true] at e
    obtain ⟨rfl, rfl, ⟨rfl, rfl, rfl⟩, rfl, rfl, ⟨rfl, rfl, rfl⟩, rfl, rfl, rfl⟩ := e
    exact ⟨_, _, _, css, dss, rfl, hb, h1, h2, h3, h4, h5⟩
  have hsz : Tm.size.sizes items ≤ M ∧ Tm.size.sizes tail ≤ M := by
    have := hM; simp only [Tm.size] at this; omega
  clear ht hu hM
  have HRL := hide hrl; have HRL' := hide hrl'; have HRI := hide hri; have HTI := hide hti; have HRI' := hide hri'; have HTI' := hide hti'; have HRT := hide hrt; have HTT := hide htt; have HRT' := hide hrt'; have HTT' := hide htt'; have HRO := hide hroom; have HSZ := hide hsz
  clear hrl hrl' hri hti hri' hti' hrt htt hrt' htt' hroom hroom' hsz
  by_cases h0 : (kd == kd') = true
  · skip
    by_cases h1 : (ng == ng') = true
    · skip
      by_cases h2 : eqL limbs limbs' = true
      · skip
        by_cases h3 : tx.toList = tx'.toList
        · skip
          by_cases h4 : (nm == nm') = true
          · skip
            by_cases h5 : eqTs items items' = true
            · skip
              by_cases h6 : eqTs tail tail' = true
              · skip
                have HE := hide (show eqT (.mk kd ng limbs tx nm items tail) (.mk kd' ng' limbs' tx' nm' items' tail') = true by simp only [eqT, h0, h1, h2, h3, h4, h5, h6, decide_true, Bool.and_true])
                go_enter Try.func27, Try.ntmps27
                go_wp2_with
                  first
                  | (go_at_call 39
                     refine (same_limbs la la' ln lc ln' lc' limbs limbs' _ B B' F F' (HRL.out.keep (((Keeps.refl NoB w).alloc _).alloc _) (fun _ _ => id)) (HRL'.out.keep (((Keeps.refl NoB w).alloc _).alloc _) (fun _ _ => id)) HRO.out.1).mono ?_
                     rintro e w2 ⟨rfl, hk2⟩
                     have B1 : Blk w2 w.heap.size 33 #[.int .u8 kd, .bool ng, .slice la ln lc, .string tx, .int .i64 nm, .slice ia im ic, .slice ta tn tc] := Blk.keep (Blk.alloc (Blk.new w _ _) _) hk2 id
                     have B2 : Blk w2 (w.heap.size + 1) 33 #[.int .u8 kd', .bool ng', .slice la' ln' lc', .string tx', .int .i64 nm', .slice ia' im' ic', .slice ta' tn' tc'] := Blk.keep (Blk.new2 w _ _ _) hk2 id
                     have HK2 := hide (Keeps.trans' (((Keeps.refl NoB w).alloc (.cells #[.int .u8 kd, .bool ng, .slice la ln lc, .string tx, .int .i64 nm, .slice ia im ic, .slice ta tn tc] 33)).alloc (.cells #[.int .u8 kd', .bool ng', .slice la' ln' lc', .string tx', .int .i64 nm', .slice ia' im' ic', .slice ta' tn' tc'] 33)) hk2 (fun _ _ => id) (fun _ _ => id))
                     have HB1 := hide B1; have HB2 := hide B2
                     have p3 : w2.cell? ⟨w.heap.size, 3, none⟩ = some (.string tx) := B1.cell 3
                     have q3 : w2.cell? ⟨w.heap.size + 1, 3, none⟩ = some (.string tx') := B2.cell 3
                     have p4 : w2.cell? ⟨w.heap.size, 4, none⟩ = some (.int .i64 nm) := B1.cell 4
                     have q4 : w2.cell? ⟨w.heap.size + 1, 4, none⟩ = some (.int .i64 nm') := B2.cell 4
                     have p5 : w2.cell? ⟨w.heap.size, 5, none⟩ = some (.slice ia im ic) := B1.cell 5
                     have q5 : w2.cell? ⟨w.heap.size + 1, 5, none⟩ = some (.slice ia' im' ic') := B2.cell 5
                     have p6 : w2.cell? ⟨w.heap.size, 6, none⟩ = some (.slice ta tn tc) := B1.cell 6
                     have q6 : w2.cell? ⟨w.heap.size + 1, 6, none⟩ = some (.slice ta' tn' tc') := B2.cell 6
                     clear B1 B2 hk2)
                  | (go_at_call 28
                     clear p5 q5
                     refine (IH.out items items' HSZ.out.1 css css' ia ia' im ic im' ic' _ B B' F F' (HRI.out.keep HK2.out (fun _ _ => id)) (TermsIn.keep HK2.out (fun _ _ => id) _ _ HTI.out) (HRI'.out.keep HK2.out (fun _ _ => id)) (TermsIn.keep HK2.out (fun _ _ => id) _ _ HTI'.out) HRO.out.2.1).mono ?_
                     rintro e w3 ⟨rfl, hk3⟩
                     have B1 := Blk.keep HB1.out hk3 id
                     have B2 := Blk.keep HB2.out hk3 id
                     have HK3 := hide (Keeps.trans' HK2.out hk3 (fun _ _ => id) (fun _ _ => id))
                     clear p3 p4 p6 q3 q4 q6
                     have p6 : w3.cell? ⟨w.heap.size, 6, none⟩ = some (.slice ta tn tc) := B1.cell 6
                     have q6 : w3.cell? ⟨w.heap.size + 1, 6, none⟩ = some (.slice ta' tn' tc') := B2.cell 6
                     clear B1 B2 hk3)
                  | (go_at_call 28
                     refine (IH.out tail tail' HSZ.out.2 dss dss' ta ta' tn tc tn' tc' _ B B' F F' (HRT.out.keep HK3.out (fun _ _ => id)) (TermsIn.keep HK3.out (fun _ _ => id) _ _ HTT.out) (HRT'.out.keep HK3.out (fun _ _ => id)) (TermsIn.keep HK3.out (fun _ _ => id) _ _ HTT'.out) HRO.out.2.2).mono ?_
                     rintro e w4 ⟨rfl, hk4⟩
                     have HK4 := hide (Keeps.trans' HK3.out hk4 (fun _ _ => id) (fun _ _ => id))
                     clear hk4 p6 q6)
                  | fail
                go_ret
                exact ⟨by rw [HE.out]; rfl, HK4.out⟩
              · skip
                have g6 : eqTs tail tail' = false := by simpa using h6
                have HE := hide (show eqT (.mk kd ng limbs tx nm items tail) (.mk kd' ng' limbs' tx' nm' items' tail') = false by simp only [eqT, h0, h1, h2, h3, h4, h5, g6, decide_true, decide_false, Bool.and_false, Bool.false_and, Bool.true_and])
                clear h6
                go_enter Try.func27, Try.ntmps27
                go_wp2_with
                  first
                  | (go_at_call 39
                     refine (same_limbs la la' ln lc ln' lc' limbs limbs' _ B B' F F' (HRL.out.keep (((Keeps.refl NoB w).alloc _).alloc _) (fun _ _ => id)) (HRL'.out.keep (((Keeps.refl NoB w).alloc _).alloc _) (fun _ _ => id)) HRO.out.1).mono ?_
                     rintro e w2 ⟨rfl, hk2⟩
                     have B1 : Blk w2 w.heap.size 33 #[.int .u8 kd, .bool ng, .slice la ln lc, .string tx, .int .i64 nm, .slice ia im ic, .slice ta tn tc] := Blk.keep (Blk.alloc (Blk.new w _ _) _) hk2 id
                     have B2 : Blk w2 (w.heap.size + 1) 33 #[.int .u8 kd', .bool ng', .slice la' ln' lc', .string tx', .int .i64 nm', .slice ia' im' ic', .slice ta' tn' tc'] := Blk.keep (Blk.new2 w _ _ _) hk2 id
                     have HK2 := hide (Keeps.trans' (((Keeps.refl NoB w).alloc (.cells #[.int .u8 kd, .bool ng, .slice la ln lc, .string tx, .int .i64 nm, .slice ia im ic, .slice ta tn tc] 33)).alloc (.cells #[.int .u8 kd', .bool ng', .slice la' ln' lc', .string tx', .int .i64 nm', .slice ia' im' ic', .slice ta' tn' tc'] 33)) hk2 (fun _ _ => id) (fun _ _ => id))
                     have HB1 := hide B1; have HB2 := hide B2
                     have p3 : w2.cell? ⟨w.heap.size, 3, none⟩ = some (.string tx) := B1.cell 3
                     have q3 : w2.cell? ⟨w.heap.size + 1, 3, none⟩ = some (.string tx') := B2.cell 3
                     have p4 : w2.cell? ⟨w.heap.size, 4, none⟩ = some (.int .i64 nm) := B1.cell 4
                     have q4 : w2.cell? ⟨w.heap.size + 1, 4, none⟩ = some (.int .i64 nm') := B2.cell 4
                     have p5 : w2.cell? ⟨w.heap.size, 5, none⟩ = some (.slice ia im ic) := B1.cell 5
                     have q5 : w2.cell? ⟨w.heap.size + 1, 5, none⟩ = some (.slice ia' im' ic') := B2.cell 5
                     have p6 : w2.cell? ⟨w.heap.size, 6, none⟩ = some (.slice ta tn tc) := B1.cell 6
                     have q6 : w2.cell? ⟨w.heap.size + 1, 6, none⟩ = some (.slice ta' tn' tc') := B2.cell 6
                     clear B1 B2 hk2)
                  | (go_at_call 28
                     clear p5 q5
                     refine (IH.out items items' HSZ.out.1 css css' ia ia' im ic im' ic' _ B B' F F' (HRI.out.keep HK2.out (fun _ _ => id)) (TermsIn.keep HK2.out (fun _ _ => id) _ _ HTI.out) (HRI'.out.keep HK2.out (fun _ _ => id)) (TermsIn.keep HK2.out (fun _ _ => id) _ _ HTI'.out) HRO.out.2.1).mono ?_
                     rintro e w3 ⟨rfl, hk3⟩
                     have B1 := Blk.keep HB1.out hk3 id
                     have B2 := Blk.keep HB2.out hk3 id
                     have HK3 := hide (Keeps.trans' HK2.out hk3 (fun _ _ => id) (fun _ _ => id))
                     clear p3 p4 p6 q3 q4 q6
                     have p6 : w3.cell? ⟨w.heap.size, 6, none⟩ = some (.slice ta tn tc) := B1.cell 6
                     have q6 : w3.cell? ⟨w.heap.size + 1, 6, none⟩ = some (.slice ta' tn' tc') := B2.cell 6
                     clear B1 B2 hk3)
                  | (go_at_call 28
                     refine (IH.out tail tail' HSZ.out.2 dss dss' ta ta' tn tc tn' tc' _ B B' F F' (HRT.out.keep HK3.out (fun _ _ => id)) (TermsIn.keep HK3.out (fun _ _ => id) _ _ HTT.out) (HRT'.out.keep HK3.out (fun _ _ => id)) (TermsIn.keep HK3.out (fun _ _ => id) _ _ HTT'.out) HRO.out.2.2).mono ?_
                     rintro e w4 ⟨rfl, hk4⟩
                     have HK4 := hide (Keeps.trans' HK3.out hk4 (fun _ _ => id) (fun _ _ => id))
                     clear hk4 p6 q6)
                  | fail
                go_ret
                exact ⟨by rw [HE.out]; rfl, HK4.out⟩
            · skip
              have g5 : eqTs items items' = false := by simpa using h5
              have HE := hide (show eqT (.mk kd ng limbs tx nm items tail) (.mk kd' ng' limbs' tx' nm' items' tail') = false by simp only [eqT, h0, h1, h2, h3, h4, g5, decide_true, decide_false, Bool.and_false, Bool.false_and, Bool.true_and])
              clear h5
              go_enter Try.func27, Try.ntmps27
              go_wp2_with
                first
                | (go_at_call 39
                   refine (same_limbs la la' ln lc ln' lc' limbs limbs' _ B B' F F' (HRL.out.keep (((Keeps.refl NoB w).alloc _).alloc _) (fun _ _ => id)) (HRL'.out.keep (((Keeps.refl NoB w).alloc _).alloc _) (fun _ _ => id)) HRO.out.1).mono ?_
                   rintro e w2 ⟨rfl, hk2⟩
                   have B1 : Blk w2 w.heap.size 33 #[.int .u8 kd, .bool ng, .slice la ln lc, .string tx, .int .i64 nm, .slice ia im ic, .slice ta tn tc] := Blk.keep (Blk.alloc (Blk.new w _ _) _) hk2 id
                   have B2 : Blk w2 (w.heap.size + 1) 33 #[.int .u8 kd', .bool ng', .slice la' ln' lc', .string tx', .int .i64 nm', .slice ia' im' ic', .slice ta' tn' tc'] := Blk.keep (Blk.new2 w _ _ _) hk2 id
                   have HK2 := hide (Keeps.trans' (((Keeps.refl NoB w).alloc (.cells #[.int .u8 kd, .bool ng, .slice la ln lc, .string tx, .int .i64 nm, .slice ia im ic, .slice ta tn tc] 33)).alloc (.cells #[.int .u8 kd', .bool ng', .slice la' ln' lc', .string tx', .int .i64 nm', .slice ia' im' ic', .slice ta' tn' tc'] 33)) hk2 (fun _ _ => id) (fun _ _ => id))
                   have HB1 := hide B1; have HB2 := hide B2
                   have p3 : w2.cell? ⟨w.heap.size, 3, none⟩ = some (.string tx) := B1.cell 3
                   have q3 : w2.cell? ⟨w.heap.size + 1, 3, none⟩ = some (.string tx') := B2.cell 3
                   have p4 : w2.cell? ⟨w.heap.size, 4, none⟩ = some (.int .i64 nm) := B1.cell 4
                   have q4 : w2.cell? ⟨w.heap.size + 1, 4, none⟩ = some (.int .i64 nm') := B2.cell 4
                   have p5 : w2.cell? ⟨w.heap.size, 5, none⟩ = some (.slice ia im ic) := B1.cell 5
                   have q5 : w2.cell? ⟨w.heap.size + 1, 5, none⟩ = some (.slice ia' im' ic') := B2.cell 5
                   have p6 : w2.cell? ⟨w.heap.size, 6, none⟩ = some (.slice ta tn tc) := B1.cell 6
                   have q6 : w2.cell? ⟨w.heap.size + 1, 6, none⟩ = some (.slice ta' tn' tc') := B2.cell 6
                   clear B1 B2 hk2)
                | (go_at_call 28
                   clear p5 q5
                   refine (IH.out items items' HSZ.out.1 css css' ia ia' im ic im' ic' _ B B' F F' (HRI.out.keep HK2.out (fun _ _ => id)) (TermsIn.keep HK2.out (fun _ _ => id) _ _ HTI.out) (HRI'.out.keep HK2.out (fun _ _ => id)) (TermsIn.keep HK2.out (fun _ _ => id) _ _ HTI'.out) HRO.out.2.1).mono ?_
                   rintro e w3 ⟨rfl, hk3⟩
                   have B1 := Blk.keep HB1.out hk3 id
                   have B2 := Blk.keep HB2.out hk3 id
                   have HK3 := hide (Keeps.trans' HK2.out hk3 (fun _ _ => id) (fun _ _ => id))
                   clear p3 p4 p6 q3 q4 q6
                   have p6 : w3.cell? ⟨w.heap.size, 6, none⟩ = some (.slice ta tn tc) := B1.cell 6
                   have q6 : w3.cell? ⟨w.heap.size + 1, 6, none⟩ = some (.slice ta' tn' tc') := B2.cell 6
                   clear B1 B2 hk3)
                | fail
              go_ret
              exact ⟨by rw [HE.out]; rfl, HK3.out⟩
          · skip
            have g4 : ((nm == nm')) = false := by simpa using h4
            have HE := hide (show eqT (.mk kd ng limbs tx nm items tail) (.mk kd' ng' limbs' tx' nm' items' tail') = false by simp only [eqT, h0, h1, h2, h3, g4, decide_true, decide_false, Bool.and_false, Bool.false_and, Bool.true_and])
            clear h4
            go_enter Try.func27, Try.ntmps27
            go_wp2_with
              first
              | (go_at_call 39
                 refine (same_limbs la la' ln lc ln' lc' limbs limbs' _ B B' F F' (HRL.out.keep (((Keeps.refl NoB w).alloc _).alloc _) (fun _ _ => id)) (HRL'.out.keep (((Keeps.refl NoB w).alloc _).alloc _) (fun _ _ => id)) HRO.out.1).mono ?_
                 rintro e w2 ⟨rfl, hk2⟩
                 have B1 : Blk w2 w.heap.size 33 #[.int .u8 kd, .bool ng, .slice la ln lc, .string tx, .int .i64 nm, .slice ia im ic, .slice ta tn tc] := Blk.keep (Blk.alloc (Blk.new w _ _) _) hk2 id
                 have B2 : Blk w2 (w.heap.size + 1) 33 #[.int .u8 kd', .bool ng', .slice la' ln' lc', .string tx', .int .i64 nm', .slice ia' im' ic', .slice ta' tn' tc'] := Blk.keep (Blk.new2 w _ _ _) hk2 id
                 have HK2 := hide (Keeps.trans' (((Keeps.refl NoB w).alloc (.cells #[.int .u8 kd, .bool ng, .slice la ln lc, .string tx, .int .i64 nm, .slice ia im ic, .slice ta tn tc] 33)).alloc (.cells #[.int .u8 kd', .bool ng', .slice la' ln' lc', .string tx', .int .i64 nm', .slice ia' im' ic', .slice ta' tn' tc'] 33)) hk2 (fun _ _ => id) (fun _ _ => id))
                 have HB1 := hide B1; have HB2 := hide B2
                 have p3 : w2.cell? ⟨w.heap.size, 3, none⟩ = some (.string tx) := B1.cell 3
                 have q3 : w2.cell? ⟨w.heap.size + 1, 3, none⟩ = some (.string tx') := B2.cell 3
                 have p4 : w2.cell? ⟨w.heap.size, 4, none⟩ = some (.int .i64 nm) := B1.cell 4
                 have q4 : w2.cell? ⟨w.heap.size + 1, 4, none⟩ = some (.int .i64 nm') := B2.cell 4
                 have p5 : w2.cell? ⟨w.heap.size, 5, none⟩ = some (.slice ia im ic) := B1.cell 5
                 have q5 : w2.cell? ⟨w.heap.size + 1, 5, none⟩ = some (.slice ia' im' ic') := B2.cell 5
                 have p6 : w2.cell? ⟨w.heap.size, 6, none⟩ = some (.slice ta tn tc) := B1.cell 6
                 have q6 : w2.cell? ⟨w.heap.size + 1, 6, none⟩ = some (.slice ta' tn' tc') := B2.cell 6
                 clear B1 B2 hk2)
              | fail
            go_ret
            exact ⟨by rw [HE.out]; rfl, HK2.out⟩
        · skip
          have HE := hide (show eqT (.mk kd ng limbs tx nm items tail) (.mk kd' ng' limbs' tx' nm' items' tail') = false by simp only [eqT, h0, h1, h2, h3, decide_true, decide_false, Bool.and_false, Bool.false_and, Bool.true_and])
          go_enter Try.func27, Try.ntmps27
          go_wp2_with
            first
            | (go_at_call 39
               refine (same_limbs la la' ln lc ln' lc' limbs limbs' _ B B' F F' (HRL.out.keep (((Keeps.refl NoB w).alloc _).alloc _) (fun _ _ => id)) (HRL'.out.keep (((Keeps.refl NoB w).alloc _).alloc _) (fun _ _ => id)) HRO.out.1).mono ?_
               rintro e w2 ⟨rfl, hk2⟩
               have B1 : Blk w2 w.heap.size 33 #[.int .u8 kd, .bool ng, .slice la ln lc, .string tx, .int .i64 nm, .slice ia im ic, .slice ta tn tc] := Blk.keep (Blk.alloc (Blk.new w _ _) _) hk2 id
               have B2 : Blk w2 (w.heap.size + 1) 33 #[.int .u8 kd', .bool ng', .slice la' ln' lc', .string tx', .int .i64 nm', .slice ia' im' ic', .slice ta' tn' tc'] := Blk.keep (Blk.new2 w _ _ _) hk2 id
               have HK2 := hide (Keeps.trans' (((Keeps.refl NoB w).alloc (.cells #[.int .u8 kd, .bool ng, .slice la ln lc, .string tx, .int .i64 nm, .slice ia im ic, .slice ta tn tc] 33)).alloc (.cells #[.int .u8 kd', .bool ng', .slice la' ln' lc', .string tx', .int .i64 nm', .slice ia' im' ic', .slice ta' tn' tc'] 33)) hk2 (fun _ _ => id) (fun _ _ => id))
               have HB1 := hide B1; have HB2 := hide B2
               have p3 : w2.cell? ⟨w.heap.size, 3, none⟩ = some (.string tx) := B1.cell 3
               have q3 : w2.cell? ⟨w.heap.size + 1, 3, none⟩ = some (.string tx') := B2.cell 3
               have p4 : w2.cell? ⟨w.heap.size, 4, none⟩ = some (.int .i64 nm) := B1.cell 4
               have q4 : w2.cell? ⟨w.heap.size + 1, 4, none⟩ = some (.int .i64 nm') := B2.cell 4
               have p5 : w2.cell? ⟨w.heap.size, 5, none⟩ = some (.slice ia im ic) := B1.cell 5
               have q5 : w2.cell? ⟨w.heap.size + 1, 5, none⟩ = some (.slice ia' im' ic') := B2.cell 5
               have p6 : w2.cell? ⟨w.heap.size, 6, none⟩ = some (.slice ta tn tc) := B1.cell 6
               have q6 : w2.cell? ⟨w.heap.size + 1, 6, none⟩ = some (.slice ta' tn' tc') := B2.cell 6
               clear B1 B2 hk2)
            | fail
          go_ret
          exact ⟨by rw [HE.out]; rfl, HK2.out⟩
      · skip
        have g2 : eqL limbs limbs' = false := by simpa using h2
        have HE := hide (show eqT (.mk kd ng limbs tx nm items tail) (.mk kd' ng' limbs' tx' nm' items' tail') = false by simp only [eqT, h0, h1, g2, decide_true, decide_false, Bool.and_false, Bool.false_and, Bool.true_and])
        clear h2
        go_enter Try.func27, Try.ntmps27
        go_wp2_with
          first
          | (go_at_call 39
             refine (same_limbs la la' ln lc ln' lc' limbs limbs' _ B B' F F' (HRL.out.keep (((Keeps.refl NoB w).alloc _).alloc _) (fun _ _ => id)) (HRL'.out.keep (((Keeps.refl NoB w).alloc _).alloc _) (fun _ _ => id)) HRO.out.1).mono ?_
             rintro e w2 ⟨rfl, hk2⟩
             have B1 : Blk w2 w.heap.size 33 #[.int .u8 kd, .bool ng, .slice la ln lc, .string tx, .int .i64 nm, .slice ia im ic, .slice ta tn tc] := Blk.keep (Blk.alloc (Blk.new w _ _) _) hk2 id
             have B2 : Blk w2 (w.heap.size + 1) 33 #[.int .u8 kd', .bool ng', .slice la' ln' lc', .string tx', .int .i64 nm', .slice ia' im' ic', .slice ta' tn' tc'] := Blk.keep (Blk.new2 w _ _ _) hk2 id
             have HK2 := hide (Keeps.trans' (((Keeps.refl NoB w).alloc (.cells #[.int .u8 kd, .bool ng, .slice la ln lc, .string tx, .int .i64 nm, .slice ia im ic, .slice ta tn tc] 33)).alloc (.cells #[.int .u8 kd', .bool ng', .slice la' ln' lc', .string tx', .int .i64 nm', .slice ia' im' ic', .slice ta' tn' tc'] 33)) hk2 (fun _ _ => id) (fun _ _ => id))
             have HB1 := hide B1; have HB2 := hide B2
             have p3 : w2.cell? ⟨w.heap.size, 3, none⟩ = some (.string tx) := B1.cell 3
             have q3 : w2.cell? ⟨w.heap.size + 1, 3, none⟩ = some (.string tx') := B2.cell 3
             have p4 : w2.cell? ⟨w.heap.size, 4, none⟩ = some (.int .i64 nm) := B1.cell 4
             have q4 : w2.cell? ⟨w.heap.size + 1, 4, none⟩ = some (.int .i64 nm') := B2.cell 4
             have p5 : w2.cell? ⟨w.heap.size, 5, none⟩ = some (.slice ia im ic) := B1.cell 5
             have q5 : w2.cell? ⟨w.heap.size + 1, 5, none⟩ = some (.slice ia' im' ic') := B2.cell 5
             have p6 : w2.cell? ⟨w.heap.size, 6, none⟩ = some (.slice ta tn tc) := B1.cell 6
             have q6 : w2.cell? ⟨w.heap.size + 1, 6, none⟩ = some (.slice ta' tn' tc') := B2.cell 6
             clear B1 B2 hk2)
          | fail
        go_ret
        exact ⟨by rw [HE.out]; rfl, HK2.out⟩
    · skip
      have g1 : ((ng == ng')) = false := by simpa using h1
      have HE := hide (show eqT (.mk kd ng limbs tx nm items tail) (.mk kd' ng' limbs' tx' nm' items' tail') = false by simp only [eqT, h0, g1, decide_true, decide_false, Bool.and_false, Bool.false_and, Bool.true_and])
      clear h1
      go_enter Try.func27, Try.ntmps27
      go_wp2_with
        first
        | fail
      go_ret
      exact ⟨by rw [HE.out]; rfl, ((Keeps.refl NoB w).alloc (.cells #[.int .u8 kd, .bool ng, .slice la ln lc, .string tx, .int .i64 nm, .slice ia im ic, .slice ta tn tc] 33)).alloc (.cells #[.int .u8 kd', .bool ng', .slice la' ln' lc', .string tx', .int .i64 nm', .slice ia' im' ic', .slice ta' tn' tc'] 33)⟩
  · skip
    have g0 : ((kd == kd')) = false := by simpa using h0
    have HE := hide (show eqT (.mk kd ng limbs tx nm items tail) (.mk kd' ng' limbs' tx' nm' items' tail') = false by simp only [eqT, g0, decide_true, decide_false, Bool.and_false, Bool.false_and, Bool.true_and])
    clear h0
    go_enter Try.func27, Try.ntmps27
    go_wp2_with
      first
      | fail
    go_ret
    exact ⟨by rw [HE.out]; rfl, ((Keeps.refl NoB w).alloc (.cells #[.int .u8 kd, .bool ng, .slice la ln lc, .string tx, .int .i64 nm, .slice ia im ic, .slice ta tn tc] 33)).alloc (.cells #[.int .u8 kd', .bool ng', .slice la' ln' lc', .string tx', .int .i64 nm', .slice ia' im' ic', .slice ta' tn' tc'] 33)⟩
end Go.Proofs.Ytmkidkfofbnjgaa
namespace Go.Proofs.Ytmkidkfofbnjgaa
open Go.RowKit

theorem eqTs_step {ts us : List Tm} {k : Nat} {t u : Tm} (h1 : ts[k]? = some t) (h2 : us[k]? = some u) : eqTs (ts.drop k) (us.drop k) = (eqT t u && eqTs (ts.drop (k + 1)) (us.drop (k + 1))) := by
  obtain ⟨a1, e1⟩ := List.getElem?_eq_some_iff.1 h1
  obtain ⟨a2, e2⟩ := List.getElem?_eq_some_iff.1 h2
  rw [List.drop_eq_getElem_cons a1, List.drop_eq_getElem_cons a2, e1, e2, eqTs]

theorem eqTs_len : ∀ {ts us : List Tm}, ts.length ≠ us.length → eqTs ts us = false
  | [], [], h => absurd rfl h
  | [], _ :: _, _ => by unfold eqTs; rfl
  | _ :: _, [], _ => by unfold eqTs; rfl
  | t :: ts, u :: us, h => by unfold eqTs; rw [eqTs_len (ts := ts) (us := us) (by simpa using h), Bool.and_false]

theorem Tm.size_pos (t : Tm) : 0 < t.size := by cases t; simp only [Tm.size]; omega

def TsInv (w : World) (ts us : List Tm) (k : Nat) (wr : World) : Prop := Keeps NoB w wr ∧ eqTs ts us = eqTs (ts.drop k) (us.drop k)

/-- The cells of the k-th, where they lie. -/
theorem cells_at {w : World} {B : Nat → Prop} {F : Bool} {ts : List Tm} {css : List (List Value)} {A : Option Addr} {n : Nat} (hr : Reads w B F 7 A n css.flatten) (ht : TermsIn w B F css ts) (k : Nat) (hk : k < n) :
    ∃ b o kd ng la ln lc tx nm ia im ic ta tn tc t, A = some ⟨b, o, none⟩ ∧ ts[k]? = some t ∧ TermIn w B F [.int .u8 kd, .bool ng, .slice la ln lc, .string tx, .int .i64 nm, .slice ia im ic, .slice ta tn tc] t ∧ t.size ≤ Tm.size.sizes ts ∧
      w.cell? ⟨b, o + k * 7, none⟩ = some (.int .u8 kd) ∧ w.cell? ⟨b, o + k * 7 + 1, none⟩ = some (.bool ng) ∧ w.cell? ⟨b, o + k * 7 + 2, none⟩ = some (.slice la ln lc) ∧ w.cell? ⟨b, o + k * 7 + 3, none⟩ = some (.string tx) ∧
      w.cell? ⟨b, o + k * 7 + 4, none⟩ = some (.int .i64 nm) ∧ w.cell? ⟨b, o + k * 7 + 5, none⟩ = some (.slice ia im ic) ∧ w.cell? ⟨b, o + k * 7 + 6, none⟩ = some (.slice ta tn tc) := by
  obtain ⟨hl, h7⟩ := ht.lens
  have hn : css.length = n := by have h1 := hr.1; rw [flat_len h7] at h1; omega
  obtain ⟨kd, ng, la, ln, lc, tx, nm, ia, im, ic, ta, tn, tc, limbs, items, tail, dss, ess, hcs, htk, hroom, hrl, hri, hti, hrt, htt, hsz⟩ := TermsIn.at ht k (by omega)
  have hg := TermsIn.get ht k (by omega) (by omega)
  obtain ⟨_, e1⟩ := List.getElem?_eq_some_iff.1 hcs
  obtain ⟨_, e2⟩ := List.getElem?_eq_some_iff.1 htk
  rw [e1, e2] at hg
  obtain ⟨⟨b, o, sp⟩, hA, hs, _, _, hc⟩ := hr.2 (by omega)
  simp only at hs
  subst hs hA
  obtain ⟨g0, g1, g2, g3, g4, g5, g6⟩ := flat_cells h7 hcs
  exact ⟨b, o, kd, ng, la, ln, lc, tx, nm, ia, im, ic, ta, tn, tc, _, rfl, htk, hg, by simp only [Tm.size]; omega, (hc _ _ g0).1, (hc _ _ g1).1, (hc _ _ g2).1, (hc _ _ g3).1, (hc _ _ g4).1, (hc _ _ g5).1, (hc _ _ g6).1⟩

set_option maxRecDepth 100000 in
set_option maxHeartbeats 2000000 in
theorem same_terms (M : Nat) : SamesSaid M := by
  induction M using Nat.strongRecOn with
  | ind M IH =>
  intro ts us hM css dss A A' n c n' c' w B B' F F' hr ht hr' ht' hroom
  have hln : ts.length = n := by have h1 := hr.1; rw [flat_len ht.lens.2, ht.lens.1] at h1; omega
  have hln' : us.length = n' := by have h1 := hr'.1; rw [flat_len ht'.lens.2, ht'.lens.1] at h1; omega
  have hnm : n ≤ 9223372036854775807 := by have := hroom.len (by omega); unfold maxLen at this; exact this
  have HR := hide hr; have HT := hide ht; have HR' := hide hr'; have HT' := hide ht'; have HLN := hide hln; have HLN' := hide hln'; have HM := hide hM; have HIH := hide IH
  clear hr ht hr' ht' hln hln' hM IH hroom
  by_cases hne : n = n'
  · have HN := hide hne
    have hb : ((n : Int) != (n' : Int)) = false := by simp [hne]
    clear hne
    go_enter Try.func28, Try.ntmps28
    go_wp2
    go_loopw [5] (fun i wr => ∃ k : Nat, k ≤ n ∧ i = .int .i64 k ∧ TsInv w ts us k wr) (fun i _ => n - (intOf i).toNat)
    case atStart => exact ⟨0, Nat.zero_le _, rfl, Keeps.refl _ _, rfl⟩
    case round =>
      obtain ⟨k, hk, rfl, hinv⟩ := hrel
      have HI := hide hinv; clear hinv
      by_cases hlt : k < n
      · obtain ⟨b, o, kd, ng, la, ln, lc, tx, nm, ia, im, ic, ta, tn, tc, t, hA, h1, h2, h3, f0, f1, f2, f3, f4, f5, f6⟩ := cells_at (HR.out.keep HI.out.1 (fun _ _ => id)) (TermsIn.keep HI.out.1 (fun _ _ => id) _ _ HT.out) k hlt
        obtain ⟨b', o', kd', ng', la', ln', lc', tx', nm', ia', im', ic', ta', tn', tc', t', hA', h1', h2', h3', f0', f1', f2', f3', f4', f5', f6'⟩ := cells_at (HR'.out.keep HI.out.1 (fun _ _ => id)) (TermsIn.keep HI.out.1 (fun _ _ => id) _ _ HT'.out) k (by have := HN.out; omega)
        subst hA hA'
        have hk1 : (k : Int) < (n : Int) := by omega
        have hk2 : (k : Int) < (n' : Int) := by have := HN.out; omega
        have hk0 : (0 : Int) ≤ (k : Int) := by omega
        have HE := hide h1; have HE' := hide h1'; have HT2 := hide h2; have HT2' := hide h2'; have HZ := hide h3
        clear h1 h1' h2 h2' h3 h3'
        have HC := hide (And.intro f0 (And.intro f1 (And.intro f2 (And.intro f3 (And.intro f4 (And.intro f5 f6))))))
        have HC' := hide (And.intro f0' (And.intro f1' (And.intro f2' (And.intro f3' (And.intro f4' (And.intro f5' f6'))))))
        clear f0 f1 f2 f3 f4 f5 f6 f0' f1' f2' f3' f4' f5' f6'
        go_wp2_with fail
        refine order_begin (fun W => Keeps NoB wr W) (fun _ => true) (by kernel_rfl) 10 rfl ?_
        have HS : Keeps NoB wr wr.drew := (Keeps.refl NoB wr).drew
        generalize wr.drew = W0 at *
        refine order_pure (i := 0) rfl (by kernel_rfl) (fun _ _ _ h => h) (.inl ⟨rfl, fun _ => by go_simp; rfl⟩) ?_
        try simp only [Act.put, List.setIfInBounds_toArray, List.set_cons_succ, List.set_cons_zero]
        refine order_pure (i := 1) rfl (by kernel_rfl) (fun _ _ _ h => h) (.inl ⟨rfl, fun _ => by go_simp; rfl⟩) ?_
        try simp only [Act.put, List.setIfInBounds_toArray, List.set_cons_succ, List.set_cons_zero]
        refine order_pure (i := 2) rfl (by kernel_rfl) (fun _ _ _ h => h) (.inl ⟨rfl, fun _ => by go_simp; rfl⟩) ?_
        try simp only [Act.put, List.setIfInBounds_toArray, List.set_cons_succ, List.set_cons_zero]
        refine order_held (i := 3) rfl (by kernel_rfl) (fun _ _ _ h => h) (.inl ⟨rfl, fun W hW => by
          have q0 : W.cell? ⟨b, o + k * 7, none⟩ = some (.int .u8 kd) := hW.cell id HC.out.1
          have q1 : W.cell? ⟨b, o + k * 7 + 1, none⟩ = some (.bool ng) := hW.cell id HC.out.2.1
          have q2 : W.cell? ⟨b, o + k * 7 + 2, none⟩ = some (.slice la ln lc) := hW.cell id HC.out.2.2.1
          have q3 : W.cell? ⟨b, o + k * 7 + 3, none⟩ = some (.string tx) := hW.cell id HC.out.2.2.2.1
          have q4 : W.cell? ⟨b, o + k * 7 + 4, none⟩ = some (.int .i64 nm) := hW.cell id HC.out.2.2.2.2.1
          have q5 : W.cell? ⟨b, o + k * 7 + 5, none⟩ = some (.slice ia im ic) := hW.cell id HC.out.2.2.2.2.2.1
          have q6 : W.cell? ⟨b, o + k * 7 + 6, none⟩ = some (.slice ta tn tc) := hW.cell id HC.out.2.2.2.2.2.2
          go_simp; rfl⟩) HS ?_
        try simp only [Act.put, List.setIfInBounds_toArray, List.set_cons_succ, List.set_cons_zero]
        refine order_pure (i := 4) rfl (by kernel_rfl) (fun _ _ _ h => h) (.inl ⟨rfl, fun _ => by go_simp; rfl⟩) ?_
        try simp only [Act.put, List.setIfInBounds_toArray, List.set_cons_succ, List.set_cons_zero]
        refine order_pure (i := 5) rfl (by kernel_rfl) (fun _ _ _ h => h) (.inl ⟨rfl, fun _ => by go_simp; rfl⟩) ?_
        try simp only [Act.put, List.setIfInBounds_toArray, List.set_cons_succ, List.set_cons_zero]
        refine order_pure (i := 6) rfl (by kernel_rfl) (fun _ _ _ h => h) (.inl ⟨rfl, fun _ => by go_simp; rfl⟩) ?_
        try simp only [Act.put, List.setIfInBounds_toArray, List.set_cons_succ, List.set_cons_zero]
        refine order_held (i := 7) rfl (by kernel_rfl) (fun _ _ _ h => h) (.inl ⟨rfl, fun W hW => by
          have q0 : W.cell? ⟨b', o' + k * 7, none⟩ = some (.int .u8 kd') := hW.cell id HC'.out.1
          have q1 : W.cell? ⟨b', o' + k * 7 + 1, none⟩ = some (.bool ng') := hW.cell id HC'.out.2.1
          have q2 : W.cell? ⟨b', o' + k * 7 + 2, none⟩ = some (.slice la' ln' lc') := hW.cell id HC'.out.2.2.1
          have q3 : W.cell? ⟨b', o' + k * 7 + 3, none⟩ = some (.string tx') := hW.cell id HC'.out.2.2.2.1
          have q4 : W.cell? ⟨b', o' + k * 7 + 4, none⟩ = some (.int .i64 nm') := hW.cell id HC'.out.2.2.2.2.1
          have q5 : W.cell? ⟨b', o' + k * 7 + 5, none⟩ = some (.slice ia' im' ic') := hW.cell id HC'.out.2.2.2.2.2.1
          have q6 : W.cell? ⟨b', o' + k * 7 + 6, none⟩ = some (.slice ta' tn' tc') := hW.cell id HC'.out.2.2.2.2.2.2
          go_simp; rfl⟩) HS ?_
        try simp only [Act.put, List.setIfInBounds_toArray, List.set_cons_succ, List.set_cons_zero]
        refine order_one (i := 8) rfl (by kernel_rfl) (fun K hK => ?_)
        go_simp
        refine (same_term_of (M - 1) (hide (HIH.out (M - 1) (by have := HM.out; have := HZ.out; have := Tm.size_pos t; omega))) t t' (by have := HM.out; have := HZ.out; omega) W0 B B' F F' kd ng la ln lc tx nm ia im ic ta tn tc kd' ng' la' ln' lc' tx' nm' ia' im' ic' ta' tn' tc' (TermIn.keep HS (fun _ _ => id) _ _ HT2.out) (TermIn.keep HS (fun _ _ => id) _ _ HT2'.out)).mono ?_
        rintro e w2 ⟨rfl, hk3⟩
        refine hK _ _ (fun _ hS => hS.trans' hk3 (fun _ _ => id) (fun _ _ => id)) ?_
        clear hK
        have HK3 := hide (HI.out.1.trans' (HS.trans' hk3 (fun _ _ => id) (fun _ _ => id) : Keeps NoB wr w2) (fun _ _ => id) (fun _ _ => id) : Keeps NoB w w2)
        clear hk3 HS
        try simp only [Act.put, List.setIfInBounds_toArray, List.set_cons_succ, List.set_cons_zero]
        refine order_pure (i := 9) rfl (by kernel_rfl) (fun _ _ _ h => h) (.inl ⟨rfl, fun _ => by go_simp; rfl⟩) ?_
        try simp only [Act.put, List.setIfInBounds_toArray, List.set_cons_succ, List.set_cons_zero]
        refine order_done (by kernel_rfl) ?_
        have HST := hide (eqTs_step HE.out HE'.out)
        cases hq : eqT t t' with
        | true =>
          have HQ := hide hq; clear hq
          go_wp2
          go_roundw
          case rel => exact ⟨k + 1, by omega, by go_num, HK3.out, by rw [HI.out.2, HST.out, HQ.out, Bool.true_and]⟩
          case measure => simp [intOf]; omega
        | false =>
          have HQ := hide hq; clear hq
          go_wp2
          go_ret
          refine ⟨?_, HK3.out⟩
          rw [HI.out.2, HST.out, HQ.out, Bool.false_and]; rfl
      · go_wp2
        go_ret
        refine ⟨?_, HI.out.1⟩
        have h3 := HLN.out; have h4 := HLN'.out; have h5 := HN.out
        rw [HI.out.2, List.drop_eq_nil_of_le (by omega), List.drop_eq_nil_of_le (by omega)]
        unfold eqTs; rfl
  · have hb : ((n : Int) != (n' : Int)) = true := by simp; omega
    have HE := hide (eqTs_len (ts := ts) (us := us) (by have := HLN.out; have := HLN'.out; omega))
    clear hne
    go_enter Try.func28, Try.ntmps28
    go_wp2
    go_ret
    exact ⟨by rw [HE.out]; rfl, Keeps.refl _ _⟩

theorem same_term (t u : Tm) (w : World) (B B' : Nat → Prop) (F F' : Bool)
    (kd : Int) (ng : Bool) (la : Option Addr) (ln lc : Nat) (tx : ByteArray) (nm : Int) (ia : Option Addr) (im ic : Nat) (ta : Option Addr) (tn tc : Nat)
    (kd' : Int) (ng' : Bool) (la' : Option Addr) (ln' lc' : Nat) (tx' : ByteArray) (nm' : Int) (ia' : Option Addr) (im' ic' : Nat) (ta' : Option Addr) (tn' tc' : Nat)
    (ht : TermIn w B F [.int .u8 kd, .bool ng, .slice la ln lc, .string tx, .int .i64 nm, .slice ia im ic, .slice ta tn tc] t)
    (hu : TermIn w B' F' [.int .u8 kd', .bool ng', .slice la' ln' lc', .string tx', .int .i64 nm', .slice ia' im' ic', .slice ta' tn' tc'] u) :
    Calls Try.prog 27 #[.agg #[.int .u8 kd, .bool ng, .slice la ln lc, .string tx, .int .i64 nm, .slice ia im ic, .slice ta tn tc], .agg #[.int .u8 kd', .bool ng', .slice la' ln' lc', .string tx', .int .i64 nm', .slice ia' im' ic', .slice ta' tn' tc']] w (SamesPost w (eqT t u)) :=
  same_term_of t.size (hide (same_terms _)) t u (Nat.le_succ _) w B B' F F' _ _ _ _ _ _ _ _ _ _ _ _ _ _ _ _ _ _ _ _ _ _ _ _ _ _ ht hu
end Go.Proofs.Ytmkidkfofbnjgaa
