/- match: what is known of the values that come up in a drawing region. Printed by mkmatreg.py. -/
import Derived.Test.YtjdbjjjbgibpaaaGreatDoorMatCJn
import Derived.Test.YtjdbjjjbgibpaaaGreatDoorSeq6Jn
namespace Go.Proofs.YtjdbjjjbgibpaaaGreatDoor
open Go.RowKit

abbrev TT : Nat → Prop := fun _ => True
def zeroTm : Tm := .mk 0 false [] ByteArray.empty 0 [] []
def TermV (t : Tm) : KF := ⟨fun w v => ∃ (kd' : Int) (ng' : Bool) (la' : Option Addr) (ln' lc' : Nat) (tx' : ByteArray) (nm' : Int) (ia' : Option Addr) (im' ic' : Nat) (ta' : Option Addr) (tn' tc' : Nat), v = .agg #[.int .u8 kd', .bool ng', .slice la' ln' lc', .string tx', .int .i64 nm', .slice ia' im' ic', .slice ta' tn' tc'] ∧ TermIn w TT false [.int .u8 kd', .bool ng', .slice la' ln' lc', .string tx', .int .i64 nm', .slice ia' im' ic', .slice ta' tn' tc'] t, fun w w' v hk h => by
  obtain ⟨kd', ng', la', ln', lc', tx', nm', ia', im', ic', ta', tn', tc', rfl, h⟩ := h
  exact ⟨kd', ng', la', ln', lc', tx', nm', ia', im', ic', ta', tn', tc', rfl, TermIn.keep hk (fun _ _ => id) _ _ h⟩⟩
def CoreV (p : Co) : KF := ⟨fun w v => ∃ (kd : Int) (tx : ByteArray) (nm tk : Int) (ng : Bool) (la : Option Addr) (ln lc : Nat) (tt : ByteArray) (tn : Int) (ia : Option Addr) (im ic : Nat) (ta : Option Addr) (tm tc : Nat) (ka : Option Addr) (kn kc : Nat), v = .agg #[.int .u8 kd, .string tx, .int .i64 nm, .int .u8 tk, .bool ng, .slice la ln lc, .string tt, .int .i64 tn, .slice ia im ic, .slice ta tm tc, .slice ka kn kc] ∧ CoreIn w TT false [.int .u8 kd, .string tx, .int .i64 nm, .int .u8 tk, .bool ng, .slice la ln lc, .string tt, .int .i64 tn, .slice ia im ic, .slice ta tm tc, .slice ka kn kc] p, fun w w' v hk h => by
  obtain ⟨kd, tx, nm, tk, ng, la, ln, lc, tt, tn, ia, im, ic, ta, tm, tc, ka, kn, kc, rfl, h⟩ := h
  exact ⟨kd, tx, nm, tk, ng, la, ln, lc, tt, tn, ia, im, ic, ta, tm, tc, ka, kn, kc, rfl, CoreIn.keep hk (fun _ _ => id) _ _ h⟩⟩
def CoresV (ks : List Co) : KF := ⟨fun w v => ∃ (A : Option Addr) (n c : Nat) (kcss : List (List Value)), v = .slice A n c ∧ Roomy n 160 ∧ Reads w TT false 11 A n kcss.flatten ∧ CoresIn w TT false kcss ks, fun w w' v hk h => by
  obtain ⟨A, n, c, kcss, rfl, h1, h2, h3⟩ := h
  exact ⟨A, n, c, kcss, rfl, h1, h2.keep hk (fun _ _ => id), CoresIn.keep hk (fun _ _ => id) _ _ h3⟩⟩
def VarsV (s : VSt) : KF := ⟨fun w v => ∃ (A : Option Addr) (n c : Nat) (D : Option Addr) (m d : Nat) (css : List (List Value)), v = .agg #[.slice A n c, .slice D m d] ∧ VIn w TT A n c D m d css s ∧ okTs s.vals ∧ s.made, fun w w' v hk h => by
  obtain ⟨A, n, c, D, m, d, css, rfl, h1, h2, h3⟩ := h
  exact ⟨A, n, c, D, m, d, css, rfl, h1.keep hk (fun _ _ => id), h2, h3⟩⟩
def MatchV (r : Option VSt) : KF := ⟨fun w v => ∃ (A : Option Addr) (n c : Nat) (D : Option Addr) (m d : Nat) (css : List (List Value)), v = .tuple #[.agg #[.slice A n c, .slice D m d], .bool r.isSome] ∧ VIn w TT A n c D m d css (r.getD noV) ∧ okTs (r.getD noV).vals ∧ (r.getD noV).made, fun w w' v hk h => by
  obtain ⟨A, n, c, D, m, d, css, rfl, h1, h2, h3⟩ := h
  exact ⟨A, n, c, D, m, d, css, rfl, h1.keep hk (fun _ _ => id), h2, h3⟩⟩
theorem core_lit {w : World} {p : Co} {kd : Int} {tx : ByteArray} {nm tk : Int} {ng : Bool} {la : Option Addr} {ln lc : Nat} {tt : ByteArray} {tn : Int} {ia : Option Addr} {im ic : Nat} {ta : Option Addr} {tm tc : Nat} {ka : Option Addr} {kn kc : Nat} (h : (CoreV p).say w (.agg #[.int .u8 kd, .string tx, .int .i64 nm, .int .u8 tk, .bool ng, .slice la ln lc, .string tt, .int .i64 tn, .slice ia im ic, .slice ta tm tc, .slice ka kn kc])) : CoreIn w TT false [.int .u8 kd, .string tx, .int .i64 nm, .int .u8 tk, .bool ng, .slice la ln lc, .string tt, .int .i64 tn, .slice ia im ic, .slice ta tm tc, .slice ka kn kc] p := by
  obtain ⟨_, _, _, _, _, _, _, _, _, _, _, _, _, _, _, _, _, _, _, e9, h9⟩ := h
  injection e9 with e9
  simp only [Array.mk.injEq, List.cons.injEq, Value.int.injEq, Value.bool.injEq, Value.slice.injEq, Value.string.injEq, true_and, and_true] at e9
  obtain ⟨rfl, rfl, rfl, rfl, rfl, ⟨rfl, rfl, rfl⟩, rfl, rfl, ⟨rfl, rfl, rfl⟩, ⟨rfl, rfl, rfl⟩, rfl, rfl, rfl⟩ := e9
  exact h9
def AllocV (N : Nat) : KF := ⟨fun w v => ∃ b, v = .pointer (some ⟨b, 0, none⟩) ∧ N ≤ b ∧ Blk w b 39 #[.slice none 0 0, .slice none 0 0], fun w w' v hk h => by
  obtain ⟨b, rfl, h1, h2⟩ := h
  exact ⟨b, rfl, h1, h2.keep hk id⟩⟩
def TupG (r : Option VSt) (v : Value) : Prop := ∃ x, v = .tuple #[x, .bool r.isSome]
/-- Variables stored in a new block. -/
def StoredV (w0 : World) (s : VSt) (w : World) (v : Value) : Prop := ∃ b, v = .pointer (some ⟨b, 0, none⟩) ∧ w0.heap.size ≤ b ∧ Keeps NoB w0 w ∧ ∃ (A : Option Addr) (n c : Nat) (D : Option Addr) (m d : Nat) (css : List (List Value)), Blk w b 39 #[.slice A n c, .slice D m d] ∧ VIn w TT A n c D m d css s ∧ okTs s.vals ∧ s.made
theorem VIn.avoid {w : World} {B : Nat → Prop} {A D : Option Addr} {n c m d g : Nat} {css : List (List Value)} {v : VSt} (h : VIn w B A n c D m d css v) (hg : Slices w g) : VIn w (fun k => B k ∧ ¬ k = g) A n c D m d css v := by
  refine ⟨reads_avoid h.hb (fun hn => ?_), reads_avoid h.hv (TermsIn.first hg h.hv h.ht), TermsIn.avoid hg _ _ h.ht, h.r1, h.r2⟩
  have hl := h.hb.1
  match hv : v.has, hl with
  | [], hl => simp at hl; omega
  | x :: l, _ => exact ⟨.bool x, by simp, fun o h => by obtain ⟨_, _, _, e⟩ := hg o _ h; cases e⟩
theorem stored_vars {w0 w : World} {b : Nat} {A D : Option Addr} {n c m d : Nat} {css : List (List Value)} {s : VSt} (hk : Keeps NoB w0 w) (hb : Blk w b 39 #[.slice none 0 0, .slice none 0 0]) (hN : w0.heap.size ≤ b) (h : VIn w TT A n c D m d css s) (ho : okTs s.vals) (hm : s.made) :
    StoredV w0 s ((w.setCell ⟨b, 0, none⟩ (.slice A n c)).setCell ⟨b, 1, none⟩ (.slice D m d)) (.pointer (some ⟨b, 0, none⟩)) := by
  have hkb := ((Keeps.refl (fun k => k = b) w).setCell (p := ⟨b, 0, none⟩) (.inl rfl) (.slice A n c)).setCell (p := ⟨b, 1, none⟩) (.inl rfl) (.slice D m d)
  refine ⟨b, rfl, hN, hk.trans' hkb (fun _ _ => id) (fun k hk e => by omega), A, n, c, D, m, d, css, by simpa using (hb.put 0 (.slice A n c)).put 1 (.slice D m d), ?_, ho, hm⟩
  have h2 := (h.avoid hb.slices).keep hkb (fun k hk e => hk.2 e)
  exact ⟨h2.hb.more (fun _ _ _ => trivial), h2.hv.more (fun _ _ _ => trivial), TermsIn.more (fun _ _ _ => trivial) _ _ h2.ht, h2.r1, h2.r2⟩
theorem newV_ok (n : Nat) : okTs (newV n).vals := by
  unfold newV
  induction n with
  | zero => unfold okTs; trivial
  | succ n ih =>
    show okTs (List.replicate (n + 1) _)
    rw [List.replicate_succ]
    unfold okTs
    exact ⟨by unfold okT; exact ⟨by omega, (fun _ h => by cases h), by show (0 : Nat) ≤ _; omega, by omega, by unfold okTs; trivial, by unfold okTs; trivial⟩, ih⟩
theorem newV_made (n : Nat) : (newV n).made := by unfold VSt.made newV; simp
theorem two_core_reads {w : World} {g : Nat} {t : TypeId} {xs ys : List Value} (hb : Blk w g t (xs ++ ys).toArray) (h1 : xs.length = 11) (h2 : ys.length = 11) : Reads w TT false 11 (some ⟨g, 0, none⟩) 2 [xs, ys].flatten := by
  refine ⟨by simp [h1, h2], fun _ => ⟨_, rfl, rfl, trivial, hb.lt, fun j u hu => ⟨?_, fun h => by cases h⟩⟩⟩
  rw [hb.cell, Nat.zero_add]
  simpa using hu
theorem one_core_reads {w : World} {g : Nat} {t : TypeId} {xs : List Value} (hb : Blk w g t xs.toArray) (h1 : xs.length = 11) : Reads w TT false 11 (some ⟨g, 0, none⟩) 1 [xs].flatten := by
  refine ⟨by simp [h1], fun _ => ⟨_, rfl, rfl, trivial, hb.lt, fun j u hu => ⟨?_, fun h => by cases h⟩⟩⟩
  rw [hb.cell, Nat.zero_add]
  simpa using hu
theorem cores_two {w : World} {g : Nat} {t : TypeId} {xs ys : List Value} {p q : Co} (hb : Blk w g t (xs ++ ys).toArray) (h1 : CoreIn w TT false xs p) (h2 : CoreIn w TT false ys q) : (CoresV [p, q]).say w (.slice (some ⟨g, 0, none⟩) 2 2) :=
  ⟨_, _, _, [xs, ys], rfl, by unfold Roomy; omega, two_core_reads hb h1.len h2.len, by unfold CoresIn CoresIn CoresIn; exact ⟨h1, h2, trivial⟩⟩
theorem cores_one {w : World} {g : Nat} {t : TypeId} {xs : List Value} {p : Co} (hb : Blk w g t xs.toArray) (h1 : CoreIn w TT false xs p) : (CoresV [p]).say w (.slice (some ⟨g, 0, none⟩) 1 1) :=
  ⟨_, _, _, [xs], rfl, by unfold Roomy; omega, one_core_reads hb h1.len, by unfold CoresIn CoresIn; exact ⟨h1, trivial⟩⟩
theorem cores_none (w : World) : (CoresV []).say w (.slice none 0 0) := ⟨none, 0, 0, [], rfl, by unfold Roomy; omega, Reads.zero _ _ _ _ _, by unfold CoresIn; trivial⟩
theorem core_kids {w : World} (k : Int) (s : ByteArray) (z : Int) {ks : List Co} {A : Option Addr} {n c : Nat} (h : (CoresV ks).say w (.slice A n c)) : (CoreV (.mk k s z zeroTm ks)).say w (.agg #[.int .u8 k, .string s, .int .i64 z, .int .u8 0, .bool false, .slice none 0 0, .string ⟨#[]⟩, .int .i64 0, .slice none 0 0, .slice none 0 0, .slice A n c]) := by
  obtain ⟨A', n', c', kcss, e, h1, h2, h3⟩ := h
  injection e with e1 e2 e3; subst e1 e2 e3
  refine ⟨_, _, _, _, _, _, _, _, _, _, _, _, _, _, _, _, _, _, _, rfl, ?_⟩
  unfold CoreIn
  exact ⟨[.int .u8 0, .bool false, .slice none 0 0, .string ⟨#[]⟩, .int .i64 0, .slice none 0 0, .slice none 0 0], A, n, c, kcss, rfl, flat_in w TT false 0 ByteArray.empty 0, h1, h2, h3⟩
theorem zeroTm_ok : okT zeroTm := by unfold zeroTm okT; exact ⟨by omega, (fun _ h => by cases h), by show (0 : Nat) ≤ _; omega, by omega, by unfold okTs; trivial, by unfold okTs; trivial⟩
theorem core_ok (k : Int) (z : Int) (ks : List Co) (hk : 0 ≤ k ∧ k ≤ 255) (hz : -9223372036854775808 ≤ z ∧ z ≤ 9223372036854775807) (h : okCs ks) : okC (.mk k ⟨#[]⟩ z zeroTm ks) := by
  unfold okC; exact ⟨hk, by show (0 : Nat) ≤ _; omega, hz, zeroTm_ok, h⟩
theorem cores_ok_nil : okCs [] := by unfold okCs; trivial
theorem cores_ok_two {p q : Co} (hp : okC p) (hq : okC q) : okCs [p, q] := by unfold okCs okCs okCs; exact ⟨hp, hq, trivial⟩
end Go.Proofs.YtjdbjjjbgibpaaaGreatDoor
