/- letter; flat terms; (*mail.Box).All. -/
import Derived.Test.YtmkidkfofbnjgaaTake
import Derived.Test.YtmkidkfofbnjgaaNextYes
import Derived.Test.YtmkidkfofbnjgaaPut
namespace Go.Proofs.Ytmkidkfofbnjgaa
open Go.RowKit

/-- A term without limbs, items and tail. -/
abbrev flatT (k : Int) (s : ByteArray) (n : Int) : Tm := .mk k false [] s n [] []
abbrev flatC (k : Int) (s : ByteArray) (n : Int) : List Value := [.int .u8 k, .bool false, .slice none 0 0, .string s, .int .i64 n, .slice none 0 0, .slice none 0 0]

theorem flat_in (w : World) (B : Nat → Prop) (F : Bool) (k : Int) (s : ByteArray) (n : Int) : TermIn w B F (flatC k s n) (flatT k s n) := by
  unfold TermIn
  exact ⟨none, 0, 0, none, 0, 0, none, 0, 0, [], [], rfl, ⟨Roomy.small (by omega) (by omega), Roomy.small (by omega) (by omega), Roomy.small (by omega) (by omega)⟩, Reads.zero _ _ _ _ _, Reads.zero _ _ _ _ _, by unfold TermsIn; trivial, Reads.zero _ _ _ _ _, by unfold TermsIn; trivial⟩

theorem flat_form {w : World} {B : Nat → Prop} {F : Bool} {k : Int} {s : ByteArray} {n : Int} {v0 v1 v2 v3 v4 v5 v6 : Value} (h : TermIn w B F [v0, v1, v2, v3, v4, v5, v6] (flatT k s n)) :
    ∃ la lc ia ic ta tc, v0 = .int .u8 k ∧ v1 = .bool false ∧ v2 = .slice la 0 lc ∧ v3 = .string s ∧ v4 = .int .i64 n ∧ v5 = .slice ia 0 ic ∧ v6 = .slice ta 0 tc := by
  unfold TermIn at h
  obtain ⟨la, ln, lc, ia, im, ic, ta, tn, tc, css, dss, e, _, h1, h2, h3, h4, h5⟩ := h
  simp only [List.cons.injEq, and_true] at e
  obtain ⟨e0, e1, e2, e3, e4, e5, e6⟩ := e
  have hln : ln = 0 := by have := h1.1; simp at this; omega
  have hc : css = [] := by have := h3.lens.1; simpa using this
  have hd : dss = [] := by have := h5.lens.1; simpa using this
  subst hc hd
  have him : im = 0 := by have := h2.1; simp at this; omega
  have htn : tn = 0 := by have := h4.1; simp at this; omega
  subst hln him htn
  exact ⟨la, lc, ia, ic, ta, tc, e0, e1, e2, e3, e4, e5, e6⟩

theorem letter_any (s : ByteArray) (w : World) : Calls Try.prog 12 #[.string s] w fun e w' => e = .returned (.agg #[.int .u8 2, .bool false, .slice none 0 0, .string s, .int .i64 0, .slice none 0 0, .slice none 0 0]) ∧ Keeps NoB w w' := by
  go_enter Try.func12, Try.ntmps12
  go_wp2
  exact bodyPost_ret (v := .agg #[.int .u8 2, .bool false, .slice none 0 0, .string s, .int .i64 0, .slice none 0 0, .slice none 0 0]) (by simp [results, Try.results12, go_sem]) rfl ⟨rfl, (Keeps.refl NoB w).alloc _⟩

def AllPost (w : World) (L : List Lt) (e : Ending) (w' : World) : Prop := OwnPost w L.length (L.map (·.t)) e w'

theorem terms_of {w : World} : ∀ {L : List Lt}, (∀ x ∈ L, x.ok w) → TermsIn w (fun _ => True) true (cellsOf L) (L.map (·.t))
  | [], _ => by unfold cellsOf TermsIn; trivial
  | x :: L, h => by
    show TermsIn w _ true (x.cs :: cellsOf L) (x.t :: L.map (·.t))
    unfold TermsIn
    exact ⟨TermIn.more (fun _ _ _ => trivial) _ _ (h x List.mem_cons_self).1, terms_of (fun y hy => h y (List.mem_cons_of_mem _ hy))⟩

theorem all_box (b : Nat) (sv : Value) (L : List Lt) (i : Nat) (w : World) (h : BoxAt w b sv L i) (hl : L.length ≤ 1024) :
    Calls Try.prog 24 #[.pointer (some ⟨b, 0, none⟩)] w (AllPost w L) := by
  obtain ⟨A, c, hsv, hnc, _⟩ := ownsRow_mk h.row
  subst hsv
  have hk2 : w.cell? ⟨b, 2, none⟩ = some (.bool true) := h.blk.cell 2
  have hk0 : w.cell? ⟨b, 0, none⟩ = some (.slice A L.length c) := h.blk.cell 0
  have H := hide h; clear h
  go_enter Try.func24, Try.ntmps24
  go_wp2_with (first | (go_at_call 32; refine (known_at b true _ hk2).mono ?_; rintro e w' ⟨rfl, rfl⟩) | (go_at_call 33; refine (own_any (L.map (·.t)) (cellsOf L) A L.length c w (fun _ => True) true ((Reads.of_own H.out.row).more (fun _ _ _ => trivial)) (terms_of H.out.ok) (Roomy.small (by omega) (by omega))).mono ?_; rintro e w' ⟨A', c', css', m', rfl, h1, h2, h3, h4, h5, h6⟩; have HR := hide (And.intro h1 (And.intro h2 (And.intro h3 (And.intro h4 (And.intro h5 h6))))); clear h1 h2 h3 h4 h5 h6))
  go_ret
  obtain ⟨h1, h2, h3, h4, h5, h6⟩ := HR.out
  exact ⟨A', c', css', m', rfl, h1, h2, h3, h4, h5, h6⟩
end Go.Proofs.Ytmkidkfofbnjgaa
