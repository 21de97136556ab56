/- The maker's state; what at and its own function leave. -/
import Derived.Test.YtdmldipnalklgaaInstr
import Derived.Test.YtdmldipnalklgaaTmCopy
import Derived.Test.YtdmldipnalklgaaMay
namespace Go.Proofs.Ytdmldipnalklgaa
open Go.RowKit

/-- The maker (its block, the next slot, the constants); P: blocks that are not its own. -/
def MakerAt (P : Nat → Prop) (w : World) (mb : Nat) (next : Int) (cs : List Tm) : Prop :=
  ∃ A c css, Blk w mb 51 #[.slice A cs.length c, .int .i64 next] ∧ Slab w 27 7 A cs.length c (List.flatten css) ∧ TermsIn w (fun k => k ≠ mb ∧ ¬ rowB A k ∧ ¬ P k) true css cs ∧ ¬ P mb ∧ (∀ k, P k → ¬ rowB A k) ∧ (∀ k, P k → k < w.heap.size)
theorem MakerAt.keep {P : Nat → Prop} {w w' : World} {mb : Nat} {next : Int} {cs : List Tm} (h : MakerAt P w mb next cs) (hk : Keeps NoB w w') : MakerAt P w' mb next cs := by
  obtain ⟨A, c, css, h1, h2, h3, h4, h5, h6⟩ := h
  exact ⟨A, c, css, h1.keep hk id, h2.fresh hk, TermsIn.keep hk (fun _ _ => id) _ _ h3, h4, h5, fun k hp => Nat.lt_of_lt_of_le (h6 k hp) hk.size⟩
theorem MakerAt.less {P P' : Nat → Prop} {w : World} {mb : Nat} {next : Int} {cs : List Tm} (h : MakerAt P w mb next cs) (hp : ∀ k, P' k → P k) : MakerAt P' w mb next cs := by
  obtain ⟨A, c, css, h1, h2, h3, h4, h5, h6⟩ := h
  exact ⟨A, c, css, h1, h2, TermsIn.more (fun k _ hb => ⟨hb.1, hb.2.1, fun e => hb.2.2 (hp k e)⟩) _ _ h3, fun e => h4 (hp _ e), fun k e => h5 k (hp k e), fun k e => h6 k (hp k e)⟩
/-- What is new since is not its own either. -/
theorem MakerAt.grow {P Q : Nat → Prop} {w w' : World} {mb : Nat} {next : Int} {cs : List Tm} (h : MakerAt P w mb next cs) (hk : Keeps NoB w w') (hq : ∀ k, Q k → w.heap.size ≤ k ∧ k < w'.heap.size) : MakerAt (fun k => P k ∨ Q k) w' mb next cs := by
  obtain ⟨A, c, css, h1, h2, h3, h4, h5, h6⟩ := h
  have h7 : TermsIn w (fun k => (k ≠ mb ∧ ¬ rowB A k ∧ ¬ P k) ∧ k < w.heap.size) true css cs := TermsIn.more (fun k hl hb => ⟨hb, hl⟩) _ _ h3
  have h8 : TermsIn w' (fun k => k ≠ mb ∧ ¬ rowB A k ∧ ¬ (P k ∨ Q k)) true css cs := TermsIn.more (fun k _ hb => ⟨hb.1.1, hb.1.2.1, fun e => e.elim hb.1.2.2 (fun e => by have := (hq k e).1; have := hb.2; omega)⟩) _ _ (TermsIn.keep hk (fun _ _ => id) _ _ h7)
  refine ⟨A, c, css, h1.keep hk id, h2.fresh hk, h8, ?_, ?_, ?_⟩
  · rintro (e | e)
    · exact h4 e
    · have := (hq mb e).1; have := h1.lt; omega
  · rintro k (e | e) hr
    · exact h5 k e hr
    · have := (hq k e).1; have := h2.lt hr; omega
  · rintro k (e | e)
    · exact Nat.lt_of_lt_of_le (h6 k e) hk.size
    · exact (hq k e).2
theorem MakerAt.own {P : Nat → Prop} {w : World} {mb : Nat} {next : Int} {cs : List Tm} (h : MakerAt P w mb next cs) : ∃ A c, Blk w mb 51 #[.slice A cs.length c, .int .i64 next] := by
  obtain ⟨A, c, css, h1, _⟩ := h
  exact ⟨A, c, h1⟩
/-- The next slot is turned. -/
theorem MakerAt.turn {P : Nat → Prop} {w : World} {mb : Nat} {next : Int} {cs : List Tm} (h : MakerAt P w mb next cs) (n : Int) : MakerAt P (w.setCell ⟨mb, 1, none⟩ (.int .i64 n)) mb n cs ∧ Keeps (fun k => ¬ P k) w (w.setCell ⟨mb, 1, none⟩ (.int .i64 n)) := by
  obtain ⟨A, c, css, h1, h2, h3, h4, h5, h6⟩ := h
  have hk : Keeps (fun k => k = mb) w (w.setCell ⟨mb, 1, none⟩ (.int .i64 n)) := (Keeps.refl (fun k => k = mb) w).setCell (p := ⟨mb, 1, none⟩) (.inl rfl) _
  have hne : ∀ k, rowB A k → ¬ k = mb := fun k hr e => h2.ne h1 (by decide) (e ▸ hr)
  exact ⟨⟨A, c, css, h1.put 1 _, h2.keep hk hne, TermsIn.keep hk (fun k hB e => hB.1 e) _ _ h3, h4, h5, fun k e => Nat.lt_of_lt_of_le (h6 k e) hk.size⟩, hk.mono (fun k _ e hp => h4 (e ▸ hp))⟩

def AtPost (P : Nat → Prop) (w : World) (mb : Nat) (cs : List Tm) (r : Made) (e : Ending) (w' : World) : Prop :=
  ∃ A c, e = .returned (.slice A r.ins.length c) ∧ Slab w' 44 8 A r.ins.length c (insL r.ins) ∧ (∀ k, rowB A k → w.heap.size ≤ k) ∧ MakerAt (fun k => P k ∨ rowB A k) w' mb r.next (cs ++ r.cs) ∧ Keeps (fun k => ¬ P k) w w'
def BoundM (next : Int) (cs : List Tm) (k : Nat) : Prop := 0 ≤ next ∧ next + k ≤ 1000000 ∧ cs.length + k ≤ 1000000

/-- The same, for a pattern that has a slot of its own. -/
def BoundA (next : Int) (cs : List Tm) (k : Nat) : Prop := 0 ≤ next ∧ next + k ≤ 1000001 ∧ cs.length + k ≤ 1000000

def AtSaid (M : Nat) : Prop := ∀ (t : Co), t.size ≤ M → ∀ (w : World) (P : Nat → Prop) (F : Bool) (kd : Int) (tx : ByteArray) (nm tk : Int) (ng : Bool) (la : Option Addr) (ln lc : Nat) (tt : ByteArray) (tn : Int) (ia : Option Addr) (im ic : Nat) (ta : Option Addr) (tm tc : Nat) (ka : Option Addr) (kn kc : Nat) (s next free : Int) (cs : List Tm) (mb : Nat), CoreIn w P F [.int .u8 kd, .string tx, .int .i64 nm, .int .u8 tk, .bool ng, .slice la ln lc, .string tt, .int .i64 tn, .slice ia im ic, .slice ta tm tc, .slice ka kn kc] t → mayC free t = true → MakerAt P w mb next cs → BoundA next cs t.count →
    Calls Try.prog 15 #[.pointer (some ⟨mb, 0, none⟩), .agg #[.int .u8 kd, .string tx, .int .i64 nm, .int .u8 tk, .bool ng, .slice la ln lc, .string tt, .int .i64 tn, .slice ia im ic, .slice ta tm tc, .slice ka kn kc], .int .i64 s] w (AtPost P w mb cs (atC s next cs.length t))

theorem one_reads8 {w : World} {t : TypeId} {vb : Nat} {v0 v1 v2 v3 v4 v5 v6 v7 : Value} (hv : Blk w vb t #[v0, v1, v2, v3, v4, v5, v6, v7]) : Reads w (fun _ => True) true 8 (some ⟨vb, 0, none⟩) 1 [v0, v1, v2, v3, v4, v5, v6, v7] := by
  refine ⟨rfl, fun _ => ⟨_, rfl, rfl, trivial, hv.lt, fun j u hu => ⟨?_, fun _ => hv.free _⟩⟩⟩
  rw [hv.cell, ← hu]; simp
theorem heads_one8 {w : World} {A : Option Addr} {n : Nat} {xs : List Value} (c : Nat) (h : Reads w (fun _ => True) true 8 A n xs) : HeadsAt w (fun _ => True) true 8 [.slice A n c] [xs] := by
  unfold HeadsAt
  exact ⟨⟨A, n, c, rfl, h⟩, by unfold HeadsAt; trivial⟩
theorem heads_two8 {w : World} {A A' : Option Addr} {n n' : Nat} {xs xs' : List Value} (c c' : Nat) (h : Reads w (fun _ => True) true 8 A n xs) (h' : Reads w (fun _ => True) true 8 A' n' xs') : HeadsAt w (fun _ => True) true 8 [.slice A n c, .slice A' n' c'] [xs, xs'] := by
  unfold HeadsAt
  exact ⟨⟨A, n, c, rfl, h⟩, heads_one8 c' h'⟩
theorem two_heads {w : World} {g : Nat} {t : TypeId} {v v' : Value} (h : Blk w g t #[v, v']) : Reads w (fun _ => True) true 1 (some ⟨g, 0, none⟩) 2 [v, v'] := by
  refine ⟨rfl, fun _ => ⟨_, rfl, rfl, trivial, h.lt, fun j u hu => ⟨?_, fun _ => h.free _⟩⟩⟩
  rw [h.cell, ← hu]; simp
/-- rows of one list of one. -/
theorem rows_one (i : Ins) (g gi : Nat) (w : World) (h : Blk w g 34 #[.slice (some ⟨gi, 0, none⟩) 1 1]) (hi : Blk w gi 44 #[.int .u8 i.op, .int .i64 i.a, .int .i64 i.b, .int .i64 i.c, .int .i64 i.n, .int .i64 i.l, .string { data := #[] }, .slice none 0 0]) :
    Calls Try.prog 22 #[.slice (some ⟨g, 0, none⟩) 1 1] w fun e w' => ∃ A' c', e = .returned (.slice A' 1 c') ∧ Slab w' 44 8 A' 1 c' (insL [i]) ∧ (∀ k, rowB A' k → w.heap.size ≤ k) ∧ Keeps NoB w w' := by
  have hf : ([insC i] : List (List Value)).flatten = insL [i] := by unfold insL; simp
  have h := rows_any [insC i] [.slice (some ⟨gi, 0, none⟩) 1 1] (some ⟨g, 0, none⟩) 1 1 1 w (fun _ => True) (fun _ => True) true true (one_head h) (heads_one8 1 (one_reads8 hi)) (by rw [hf, insL_len]; rfl) (by rw [hf]; exact insL_ones _) (by unfold Roomy; omega) (by omega)
  rw [hf] at h
  exact h
/-- rows of a list of one, and of another. -/
theorem rows_two (i : Ins) (l : List Ins) (g gi : Nat) (A : Option Addr) (m c : Nat) (w : World) (h : Blk w g 34 #[.slice (some ⟨gi, 0, none⟩) 1 1, .slice A m c]) (hi : Blk w gi 44 #[.int .u8 i.op, .int .i64 i.a, .int .i64 i.b, .int .i64 i.c, .int .i64 i.n, .int .i64 i.l, .string { data := #[] }, .slice none 0 0])
    (hl : Slab w 44 8 A m c (insL l)) (hm : m ≤ 10000000) :
    Calls Try.prog 22 #[.slice (some ⟨g, 0, none⟩) 2 2] w fun e w' => ∃ A' c', e = .returned (.slice A' (m + 1) c') ∧ Slab w' 44 8 A' (m + 1) c' (insL (i :: l)) ∧ (∀ k, rowB A' k → w.heap.size ≤ k) ∧ Keeps NoB w w' := by
  have hf : ([insC i, insL l] : List (List Value)).flatten = insL (i :: l) := by unfold insL; simp
  have hlen : l.length = m := by have h := hl.1; rw [insL_len] at h; omega
  have h := rows_any [insC i, insL l] [.slice (some ⟨gi, 0, none⟩) 1 1, .slice A m c] (some ⟨g, 0, none⟩) 2 2 (m + 1) w (fun _ => True) (fun _ => True) true true (two_heads h) (heads_two8 1 c (one_reads8 hi) (hl.reads.more (fun _ _ _ => trivial))) (by rw [hf, insL_len, List.length_cons, hlen]) (by rw [hf]; exact insL_ones _) (by unfold Roomy; omega) (by omega)
  rw [hf] at h
  exact h
end Go.Proofs.Ytdmldipnalklgaa
