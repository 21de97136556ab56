/- What at has in hand: its boxes, the cores that came in, rows that it has made. -/
import Derived.Test.YtdmldipnalklgaaAt0
namespace Go.Proofs.Ytdmldipnalklgaa
open Go.RowKit


/-- What at's regions load: its boxes, and the cores that came in. -/
def BoxS (P : Nat → Prop) (w : World) (mb bm bp bs : Nat) (cs : Array Value) (s : Int) (W : World) : Prop :=
  Blk W bm 49 #[.pointer (some ⟨mb, 0, none⟩)] ∧ Blk W bp 30 cs ∧ Blk W bs 3 #[.int .i64 s] ∧ Keeps (fun k => ¬ P k) w W
/-- The blocks that at has in hand. -/
def Hand (P : Nat → Prop) (bm bp bs : Nat) : Nat → Prop := fun k => P k ∨ (k = bm ∨ k = bp ∨ k = bs)
theorem BoxS.go {P : Nat → Prop} {w W W' : World} {mb bm bp bs : Nat} {cs : Array Value} {s : Int} (h : BoxS P w mb bm bp bs cs s W) (hk : Keeps (fun k => ¬ Hand P bm bp bs k) W W') : BoxS P w mb bm bp bs cs s W' :=
  ⟨h.1.keep hk (fun e => e (.inr (.inl rfl))), h.2.1.keep hk (fun e => e (.inr (.inr (.inl rfl)))), h.2.2.1.keep hk (fun e => e (.inr (.inr (.inr rfl)))), h.2.2.2.trans' hk (fun _ _ e => e) (fun _ _ e hp => e (.inl hp))⟩
theorem BoxS.fresh {P : Nat → Prop} {w W W' : World} {mb bm bp bs : Nat} {cs : Array Value} {s : Int} (h : BoxS P w mb bm bp bs cs s W) (hk : Keeps NoB W W') : BoxS P w mb bm bp bs cs s W' :=
  h.go (hk.mono (fun _ _ e => e.elim))
theorem BoxS.drew {P : Nat → Prop} {w W : World} {mb bm bp bs : Nat} {cs : Array Value} {s : Int} (h : BoxS P w mb bm bp bs cs s W) : BoxS P w mb bm bp bs cs s W.drew := h.fresh (Keeps.refl _ _).drew
theorem MakerAt.drop {P : Nat → Prop} {w : World} {mb bm bp bs : Nat} {next : Int} {cs : List Tm} (h : MakerAt (Hand P bm bp bs) w mb next cs) : MakerAt P w mb next cs := h.less (fun _ e => .inl e)

/-- The k-th core, where it lies, whatever has been done meanwhile. -/
theorem kid_at {w : World} {P : Nat → Prop} {F : Bool} {ts : List Co} {css : List (List Value)} {A : Option Addr} {n : Nat} (hr : Reads w P F 11 A n css.flatten) (ht : CoresIn w P F css ts) (k : Nat) (hk : k < n) :
    ∃ b o kd tx nm tk ng la ln lc tt tn ia im ic ta tm tc ka kn kc t, A = some ⟨b, o, none⟩ ∧ P b ∧ ts[k]? = some t ∧ t.size ≤ Co.size.sizes ts ∧
      CoreIn w P F [.int .u8 kd, .string tx, .int .i64 nm, .int .u8 tk, .bool ng, .slice la ln lc, .string tt, .int .i64 tn, .slice ia im ic, .slice ta tm tc, .slice ka kn kc] t ∧
      w.cell? ⟨b, o + k * 11, none⟩ = some (.int .u8 kd) ∧ w.cell? ⟨b, o + k * 11 + 1, none⟩ = some (.string tx) ∧ w.cell? ⟨b, o + k * 11 + 2, none⟩ = some (.int .i64 nm) ∧ w.cell? ⟨b, o + k * 11 + 3, none⟩ = some (.int .u8 tk) ∧
      w.cell? ⟨b, o + k * 11 + 4, none⟩ = some (.bool ng) ∧ w.cell? ⟨b, o + k * 11 + 5, none⟩ = some (.slice la ln lc) ∧ w.cell? ⟨b, o + k * 11 + 6, none⟩ = some (.string tt) ∧ w.cell? ⟨b, o + k * 11 + 7, none⟩ = some (.int .i64 tn) ∧
      w.cell? ⟨b, o + k * 11 + 8, none⟩ = some (.slice ia im ic) ∧ w.cell? ⟨b, o + k * 11 + 9, none⟩ = some (.slice ta tm tc) ∧ w.cell? ⟨b, o + k * 11 + 10, none⟩ = some (.slice ka kn kc) := by
  obtain ⟨b, o, kd, tx, nm, tk, ng, la, ln, lc, tt, tn, ia, im, ic, ta, tm, tc, ka, kn, kc, t, hA, h1⟩ := core_at hr ht k hk
  obtain ⟨ad, e, _, hB, _⟩ := hr.2 (by omega)
  rw [hA] at e
  injection e with e
  subst e
  exact ⟨b, o, kd, tx, nm, tk, ng, la, ln, lc, tt, tn, ia, im, ic, ta, tm, tc, ka, kn, kc, t, hA, hB, h1⟩
/-- rows of two lists. -/
theorem rows_join (l l' : List Ins) (g : Nat) (A A' : Option Addr) (m c m' c' : Nat) (w : World) (h : Blk w g 34 #[.slice A m c, .slice A' m' c']) (hl : Slab w 44 8 A m c (insL l)) (hl' : Slab w 44 8 A' m' c' (insL l')) (hm : m + m' ≤ 10000000) :
    Calls Try.prog 22 #[.slice (some ⟨g, 0, none⟩) 2 2] w fun e w' => ∃ A2 c2, e = .returned (.slice A2 (m + m') c2) ∧ Slab w' 44 8 A2 (m + m') c2 (insL (l ++ l')) ∧ (∀ k, rowB A2 k → w.heap.size ≤ k) ∧ Keeps NoB w w' := by
  have hf : ([insL l, insL l'] : List (List Value)).flatten = insL (l ++ l') := by rw [insL_append]; simp
  have h1 : l.length = m := by have h := hl.1; rw [insL_len] at h; omega
  have h2 : l'.length = m' := by have h := hl'.1; rw [insL_len] at h; omega
  have h := rows_any [insL l, insL l'] [.slice A m c, .slice A' m' c'] (some ⟨g, 0, none⟩) 2 2 (m + m') w (fun _ => True) (fun _ => True) true true (two_heads h) (heads_two8 c c' (hl.reads.more (fun _ _ _ => trivial)) (hl'.reads.more (fun _ _ _ => trivial))) (by rw [hf, insL_len, List.length_append, h1, h2]) (by rw [hf]; exact insL_ones _) (by unfold Roomy; omega) (by omega)
  rw [hf] at h
  exact h
end Go.Proofs.Ytdmldipnalklgaa
