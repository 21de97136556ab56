/- law07.one: the tree of one function, made. -/
import Derived.Test.YtincajfanhanjaaDoorChCheck
import Derived.Test.YtincajfanhanjaaDoorSeq4
namespace Go.Proofs.YtincajfanhanjaaDoor
open Go.RowKit Go.Maps

/-- A node, as a value; nodes, as a slice. -/
def XIn (w : World) (B : Nat → Prop) (t : Nd) (v : Value) : Prop := ∃ kd tx nm pl ka kn kc, v = .agg #[.int .u8 kd, .string tx, .int .i64 nm, .int .i64 pl, .slice ka kn kc] ∧ NodeIn w B false [.int .u8 kd, .string tx, .int .i64 nm, .int .i64 pl, .slice ka kn kc] t
def SIn (w : World) (B : Nat → Prop) (ts : List Nd) (v : Value) : Prop := ∃ A n c css, v = .slice A n c ∧ Reads w B false 5 A n (List.flatten css) ∧ NodesIn w B false css ts ∧ n ≤ c ∧ Roomy n 64
section
variable {w w' : World} {B B' : Nat → Prop} {t : Nd} {ts : List Nd} {v : Value}
theorem XIn.keep (h : XIn w B t v) (hk : Keeps NoB w w') : XIn w' B t v := by
  obtain ⟨kd, tx, nm, pl, ka, kn, kc, e, h1⟩ := h
  exact ⟨kd, tx, nm, pl, ka, kn, kc, e, NodeIn.keep hk (fun _ _ => id) _ _ h1⟩
theorem XIn.more (h : XIn w B t v) (hB : ∀ k, k < w.heap.size → B k → B' k) : XIn w B' t v := by
  obtain ⟨kd, tx, nm, pl, ka, kn, kc, e, h1⟩ := h
  exact ⟨kd, tx, nm, pl, ka, kn, kc, e, NodeIn.more hB _ _ h1⟩
theorem SIn.keep (h : SIn w B ts v) (hk : Keeps NoB w w') : SIn w' B ts v := by
  obtain ⟨A, n, c, css, e, h1, h2, h3⟩ := h
  exact ⟨A, n, c, css, e, h1.keep hk (fun _ _ => id), NodesIn.keep hk (fun _ _ => id) _ _ h2, h3⟩
theorem SIn.more (h : SIn w B ts v) (hB : ∀ k, k < w.heap.size → B k → B' k) : SIn w B' ts v := by
  obtain ⟨A, n, c, css, e, h1, h2, h3⟩ := h
  exact ⟨A, n, c, css, e, h1.more hB, NodesIn.more hB _ _ h2, h3⟩
theorem SIn.nil (w : World) (B : Nat → Prop) : SIn w B [] (.slice none 0 0) := ⟨none, 0, 0, [], rfl, Reads.zero _ _ _ _ _, by unfold NodesIn; trivial, Nat.le_refl _, by unfold Roomy; omega⟩
/-- A node of a kind, a text and kids. -/
theorem SIn.node (h : SIn w B ts v) (k : Int) (tx : ByteArray) : XIn w B (.mk k tx 0 0 ts) (.agg #[.int .u8 k, .string tx, .int .i64 0, .int .i64 0, v]) := by
  obtain ⟨A, n, c, css, rfl, h1, h2, h3, h4⟩ := h
  exact ⟨k, tx, 0, 0, A, n, c, rfl, by unfold NodeIn; exact ⟨A, n, c, css, rfl, ⟨h4, h3⟩, h1, h2⟩⟩
/-- A slice of nodes that was laid in a block of its own. -/
theorem SIn.of_blk {g : Nat} {css : List (List Value)} (hb : Blk w g 29 css.flatten.toArray) (hn : NodesIn w B false css ts) (hB : B g) (hr : Roomy css.length 64) : SIn w B ts (.slice (some ⟨g, 0, none⟩) css.length css.length) := by
  refine ⟨_, _, _, css, rfl, ⟨flat_len hn.lens.2, fun _ => ⟨_, rfl, rfl, hB, hb.lt, fun j u hu => ⟨?_, fun h => by cases h⟩⟩⟩, hn, Nat.le_refl _, hr⟩
  rw [hb.cell, Nat.zero_add]
  simpa using hu
end
/-- Not the block that x points at. -/
abbrev Bx (p2 : Nat) (x : Value) : Nat → Prop := fun k => x ≠ .pointer (some ⟨k, 0, none⟩) ∧ k ≠ p2
theorem XIn.keep' {w w' : World} {B : Nat → Prop} {t : Nd} {v : Value} {fp : Nat → Prop} (h : XIn w B t v) (hk : Keeps fp w w') (hf : ∀ k, B k → ¬ fp k) : XIn w' B t v := by
  obtain ⟨kd, tx, nm, pl, ka, kn, kc, e, h1⟩ := h
  exact ⟨kd, tx, nm, pl, ka, kn, kc, e, NodeIn.keep hk hf _ _ h1⟩
theorem SIn.keep' {w w' : World} {B : Nat → Prop} {ts : List Nd} {v : Value} {fp : Nat → Prop} (h : SIn w B ts v) (hk : Keeps fp w w') (hf : ∀ k, B k → ¬ fp k) : SIn w' B ts v := by
  obtain ⟨A, n, c, css, e, h1, h2, h3⟩ := h
  exact ⟨A, n, c, css, e, h1.keep hk hf, NodesIn.keep hk hf _ _ h2, h3⟩
def updV (xs : Nat → Value) (i : Nat) (v : Value) : Nat → Value := fun j => if j = i then v else xs j
def xT : Nd := .mk 3 ⟨#[88]⟩ 0 0 []
def blockT (ts : List Nd) : Nd := .mk 19 ByteArray.empty 0 0 ts
def clauseT (e : Nd) : Nd := .mk 20 ByteArray.empty 0 0 [blockT [xT], blockT [], blockT [e]]
def functionT (e : Nd) : Nd := .mk 21 ⟨#[102]⟩ 1 0 [clauseT e]
def moduleT (e : Nd) : Nd := .mk 22 ByteArray.empty 0 0 [functionT e]
/-- What each operation of one's drawn region gives. -/
def oneF (p2 : Nat) (e : Nd) (E : Value) (x4 : Value) (w : World) : Nat → Value → Prop
  | 0, v => v = .agg #[.int .u8 3, .string ⟨#[88]⟩, .int .i64 0, .int .i64 0, .slice none 0 0]
  | 1, v => SIn w (Bx p2 x4) [xT] v
  | 2, v => XIn w (Bx p2 x4) (blockT [xT]) v
  | 3, v => XIn w (Bx p2 x4) (blockT []) v
  | 4, v => v = E
  | 5, v => SIn w (Bx p2 x4) [e] v
  | 6, v => XIn w (Bx p2 x4) (blockT [e]) v
  | 7, v => SIn w (Bx p2 x4) [blockT [xT], blockT [], blockT [e]] v
  | 8, v => XIn w (Bx p2 x4) (clauseT e) v
  | _, _ => True
theorem oneF.keep {p2 : Nat} {e : Nd} {E x4 : Value} {w w' : World} {v : Value} (hk : Keeps NoB w w') : ∀ i, oneF p2 e E x4 w i v → oneF p2 e E x4 w' i v
  | 0, h => h
  | 1, h => SIn.keep h hk
  | 2, h => XIn.keep h hk
  | 3, h => XIn.keep h hk
  | 4, h => h
  | 5, h => SIn.keep h hk
  | 6, h => XIn.keep h hk
  | 7, h => SIn.keep h hk
  | 8, h => XIn.keep h hk
  | _ + 9, _ => trivial
theorem oneF.fresh {p2 : Nat} {e : Nd} {E x4 : Value} {w : World} {v : Value} : ∀ i, oneF p2 e E x4 w i v → oneF p2 e E (.pointer (some ⟨w.heap.size, 0, none⟩)) w i v
  | 0, h => h
  | 1, h => SIn.more h (fun k hk h => ⟨fun e => by injection e with e; injection e with e; injection e with e; omega, h.2⟩)
  | 2, h => XIn.more h (fun k hk h => ⟨fun e => by injection e with e; injection e with e; injection e with e; omega, h.2⟩)
  | 3, h => XIn.more h (fun k hk h => ⟨fun e => by injection e with e; injection e with e; injection e with e; omega, h.2⟩)
  | 4, h => h
  | 5, h => SIn.more h (fun k hk h => ⟨fun e => by injection e with e; injection e with e; injection e with e; omega, h.2⟩)
  | 6, h => XIn.more h (fun k hk h => ⟨fun e => by injection e with e; injection e with e; injection e with e; omega, h.2⟩)
  | 7, h => SIn.more h (fun k hk h => ⟨fun e => by injection e with e; injection e with e; injection e with e; omega, h.2⟩)
  | 8, h => XIn.more h (fun k hk h => ⟨fun e => by injection e with e; injection e with e; injection e with e; omega, h.2⟩)
  | _ + 9, _ => trivial
theorem oneF.stored {p2 : Nat} {e : Nd} {E x4 : Value} {w w' : World} {v : Value} {fp : Nat → Prop} (hk : Keeps fp w w') (hf : ∀ k, Bx p2 x4 k → ¬ fp k) : ∀ i, oneF p2 e E x4 w i v → oneF p2 e E x4 w' i v
  | 0, h => h
  | 1, h => SIn.keep' h hk hf
  | 2, h => XIn.keep' h hk hf
  | 3, h => XIn.keep' h hk hf
  | 4, h => h
  | 5, h => SIn.keep' h hk hf
  | 6, h => XIn.keep' h hk hf
  | 7, h => SIn.keep' h hk hf
  | 8, h => XIn.keep' h hk hf
  | _ + 9, _ => trivial
structure OneI (e : Nd) (E : Value) (w0 : World) (p1 p2 p3 : Nat) (d : Nat → Bool) (a : Act) (w : World) : Prop where
  at' : ∃ (x4 : Value) (xs : Nat → Value), a = { tmps := #[E, .pointer (some ⟨p1, 0, none⟩), .pointer (some ⟨p2, 0, none⟩), .pointer (some ⟨p3, 0, none⟩), x4, .agg #[.int .u8 3, .string ⟨#[88]⟩, .int .i64 0, .int .i64 0, .slice none 0 0], xs 0, xs 1, xs 2, xs 3, xs 4, xs 5, xs 6, xs 7, xs 8, undef, undef, undef, undef, undef], defers := [] } ∧ (∀ j, d j = true → oneF p2 e E x4 w j (xs j)) ∧ (d 9 = false → x4 = undef) ∧ (d 9 = true → ∃ b c5, x4 = .pointer (some ⟨b, 0, none⟩) ∧ w0.heap.size ≤ b ∧ Blk w b 29 c5 ∧ c5.size = 5 ∧ (d 10 = true → XIn w (Bx p2 x4) (clauseT e) (.agg c5)))
  keep : Keeps NoB w0 w
  ten : d 10 = true → d 9 = true
theorem OneI.step {e : Nd} {E : Value} {w0 : World} {p1 p2 p3 : Nat} {d : Nat → Bool} {x4 : Value} {xs : Nat → Value} {w w' : World} (i : Nat) (v : Value) (hi : i < 9) (hx : ∀ j, d j = true → oneF p2 e E x4 w j (xs j)) (h9 : d 9 = false → x4 = undef) (h9' : d 9 = true → ∃ b c5, x4 = .pointer (some ⟨b, 0, none⟩) ∧ w0.heap.size ≤ b ∧ Blk w b 29 c5 ∧ c5.size = 5 ∧ (d 10 = true → XIn w (Bx p2 x4) (clauseT e) (.agg c5)))
    (hk : Keeps NoB w0 w) (h10 : d 10 = true → d 9 = true) (hkw : Keeps NoB w w') (hv : oneF p2 e E x4 w' i v) (xs' : Nat → Value) (he : xs' = updV xs i v) : OneI e E w0 p1 p2 p3 (setB d i) { tmps := #[E, .pointer (some ⟨p1, 0, none⟩), .pointer (some ⟨p2, 0, none⟩), .pointer (some ⟨p3, 0, none⟩), x4, .agg #[.int .u8 3, .string ⟨#[88]⟩, .int .i64 0, .int .i64 0, .slice none 0 0], xs' 0, xs' 1, xs' 2, xs' 3, xs' 4, xs' 5, xs' 6, xs' 7, xs' 8, undef, undef, undef, undef, undef], defers := [] } w' := by
  subst he
  refine ⟨⟨x4, updV xs i v, rfl, fun j hj => ?_, fun h => h9 (by rw [setB_ne d (by omega)] at h; exact h), fun h => ?_⟩, hk.trans' hkw (fun _ _ => id) (fun _ _ => id), fun h => by rw [setB_ne d (by omega)] at h; rw [setB_ne d (by omega)]; exact h10 h⟩
  · by_cases e : j = i
    · subst e; simp only [updV, if_pos]; exact hv
    · simp only [updV, if_neg e]; exact (hx j (by rw [setB_ne d e] at hj; exact hj)).keep hkw
  · obtain ⟨b, c5, a1, a2, a3, a4, a5⟩ := h9' (by rw [setB_ne d (by omega)] at h; exact h)
    exact ⟨b, c5, a1, a2, a3.keep hkw id, a4, fun h => (a5 (by rw [setB_ne d (by omega)] at h; exact h)).keep hkw⟩
set_option maxRecDepth 100000 in
set_option maxHeartbeats 4000000 in
theorem one_any (w : World) (B : Nat → Prop) (F : Bool) (kd : Int) (tx : ByteArray) (nm pl : Int) (ka : Option Addr) (kn kc : Nat) (e : Nd) (ht : NodeIn w B F [.int .u8 kd, .string tx, .int .i64 nm, .int .i64 pl, .slice ka kn kc] e) :
    Calls Tryd.prog 17 #[.agg #[.int .u8 kd, .string tx, .int .i64 nm, .int .i64 pl, .slice ka kn kc]] w fun en w' => Keeps NoB w w' ∧ ∃ v, en = .returned v ∧ XIn w' (fun _ => True) (moduleT e) v := by
  have HT := hide (show XIn w (fun k => k < w.heap.size) e (.agg #[.int .u8 kd, .string tx, .int .i64 nm, .int .i64 pl, .slice ka kn kc]) from ⟨kd, tx, nm, pl, ka, kn, kc, rfl, NodeIn.more (fun k hk _ => hk) _ _ (NodeIn.weak _ _ ht)⟩)
  clear ht
  go_enter Tryd.func17, Tryd.ntmps17
  go_wp2_with
    first
    | (go_at_call 18
       refine (node_new 3 ⟨#[88]⟩ none 0 0 _).mono ?_
       rintro e w2 ⟨rfl, hk⟩
       have HK2 := hide hk
       clear hk)
    | fail
  have hkw : Keeps NoB w ((w2.alloc (.cells #[.int .u8 3, .string ⟨#[88]⟩, .int .i64 0, .int .i64 0, .slice none 0 0] 29))).drew := ((((((Keeps.refl NoB w).alloc (.cells #[.int .u8 kd, .string tx, .int .i64 nm, .int .i64 pl, .slice ka kn kc] 29)).alloc (.cells #[.int .u8 0, .string ByteArray.empty, .int .i64 0, .int .i64 0, .slice none 0 0] 29)).trans' HK2.out (fun _ _ => id) (fun _ _ => id) : Keeps NoB w w2).alloc _).drew)
  have hb1 : Blk ((w2.alloc (.cells #[.int .u8 3, .string ⟨#[88]⟩, .int .i64 0, .int .i64 0, .slice none 0 0] 29))).drew w.heap.size 29 #[.int .u8 kd, .string tx, .int .i64 nm, .int .i64 pl, .slice ka kn kc] := (((((Blk.new w 29 #[.int .u8 kd, .string tx, .int .i64 nm, .int .i64 pl, .slice ka kn kc]).alloc _).keep HK2.out id).alloc (.cells #[.int .u8 3, .string ⟨#[88]⟩, .int .i64 0, .int .i64 0, .slice none 0 0] 29)))
  have hb3 : Blk ((w2.alloc (.cells #[.int .u8 3, .string ⟨#[88]⟩, .int .i64 0, .int .i64 0, .slice none 0 0] 29))).drew w2.heap.size 29 #[.int .u8 3, .string ⟨#[88]⟩, .int .i64 0, .int .i64 0, .slice none 0 0] := Blk.new w2 29 #[.int .u8 3, .string ⟨#[88]⟩, .int .i64 0, .int .i64 0, .slice none 0 0]
  have hb2 : Blk ((w2.alloc (.cells #[.int .u8 3, .string ⟨#[88]⟩, .int .i64 0, .int .i64 0, .slice none 0 0] 29))).drew (w.heap.size + 1) 29 #[.int .u8 0, .string ByteArray.empty, .int .i64 0, .int .i64 0, .slice none 0 0] := ((two_blks w 29 29 #[.int .u8 kd, .string tx, .int .i64 nm, .int .i64 pl, .slice ka kn kc] #[.int .u8 0, .string ByteArray.empty, .int .i64 0, .int .i64 0, .slice none 0 0]).2.keep HK2.out id).alloc _
  have HB1 := hide hb1; have HB2 := hide hb2; have HB3 := hide hb3; have HKW := hide hkw
  have HE := hide (HT.out.keep hkw)
  clear hb1 hb2 hb3 hkw HT
  refine order_inv (OneI e (.agg #[.int .u8 kd, .string tx, .int .i64 nm, .int .i64 pl, .slice ka kn kc]) ((w2.alloc (.cells #[.int .u8 3, .string ⟨#[88]⟩, .int .i64 0, .int .i64 0, .slice none 0 0] 29))).drew w.heap.size (w.heap.size + 1) w2.heap.size) (by kernel_rfl) (by kernel_rfl) ?_ ?_ ?_
  · exact ⟨⟨undef, fun _ => undef, rfl, fun j hj => Bool.noConfusion hj, fun _ => rfl, fun h => Bool.noConfusion h⟩, Keeps.refl _ _, fun h => Bool.noConfusion h⟩
  · generalize ((w2.alloc (.cells #[.int .u8 3, .string ⟨#[88]⟩, .int .i64 0, .int .i64 0, .slice none 0 0] 29))).drew = w3 at *
    intro d a wx i oi hoi hI hdi hdep K hK
    obtain ⟨⟨x4, xs, rfl, hx, h9, h9'⟩, hkx, hten⟩ := hI
    have HTEN := hide hten; clear hten
    have hi : i < 11 := by have h := (Array.getElem?_eq_some_iff.1 hoi).1; simpa using h
    have HX := hide hx; have H9 := hide h9; have H9' := hide h9'; have HKX := hide hkx; have HD := hide hdi
    have hcases : i = 0 ∨ i = 1 ∨ i = 2 ∨ i = 3 ∨ i = 4 ∨ i = 5 ∨ i = 6 ∨ i = 7 ∨ i = 8 ∨ i = 9 ∨ i = 10 := by omega
    have c10 := (HB1.out.keep hkx id).cell 0; have c11 := (HB1.out.keep hkx id).cell 1; have c12 := (HB1.out.keep hkx id).cell 2; have c13 := (HB1.out.keep hkx id).cell 3; have c14 := (HB1.out.keep hkx id).cell 4
    have c30 := (HB3.out.keep hkx id).cell 0; have c31 := (HB3.out.keep hkx id).cell 1; have c32 := (HB3.out.keep hkx id).cell 2; have c33 := (HB3.out.keep hkx id).cell 3; have c34 := (HB3.out.keep hkx id).cell 4
    have hp2 := (HB2.out.keep hkx id).lt
    have HNX : ∀ k, wx.heap.size ≤ k → Bx (w.heap.size + 1) x4 k := fun k hk => ⟨fun e => by
      cases h9d : d 9 with
      | false => rw [h9 h9d] at e; cases e
      | true =>
        obtain ⟨b, c5, h1, _, h3, _⟩ := h9' h9d
        rw [h1] at e; injection e with e; injection e with e; injection e with e
        have := h3.lt; omega, by omega⟩
    have HEX : NodeIn (wx.alloc (.cells #[.int .u8 kd, .string tx, .int .i64 nm, .int .i64 pl, .slice ka kn kc] 29)) (Bx (w.heap.size + 1) x4) false [.int .u8 kd, .string tx, .int .i64 nm, .int .i64 pl, .slice ka kn kc] e := by
      obtain ⟨_, _, _, _, _, _, _, ee, hn⟩ := HE.out
      injection ee with ee
      simp only [Array.mk.injEq, List.cons.injEq, Value.int.injEq, Value.slice.injEq, Value.string.injEq, true_and, and_true] at ee
      obtain ⟨rfl, rfl, rfl, rfl, rfl, rfl, rfl⟩ := ee
      refine NodeIn.keep (hkx.alloc _) (fun _ _ => id) _ _ (NodeIn.more (B' := Bx (w.heap.size + 1) x4) (fun k _ hk => ⟨?_, by omega⟩) _ _ hn)
      cases h9d : d 9 with
      | false => rw [h9 h9d]; intro e; cases e
      | true =>
        obtain ⟨b, c5, h1, h2, _, _⟩ := h9' h9d
        rw [h1]; intro e; injection e with e; injection e with e; injection e with e
        have := HKW.out.size; omega
    clear hx h9 h9' hkx hdi hi hp2
    rcases hcases with rfl | rfl | rfl | rfl | rfl | rfl | rfl | rfl | rfl | rfl | rfl
    · simp at hoi
      subst hoi
      simp [Region.binds] at hdep
      go_simp
      exact hK _ _ (OneI.step 0 _ (by omega) HX.out H9.out H9'.out HKX.out HTEN.out (Keeps.refl _ _) rfl (updV xs 0 _) rfl)
    · simp at hoi
      subst hoi
      simp [Region.binds] at hdep
      have e0 : xs 0 = .agg #[.int .u8 3, .string ⟨#[88]⟩, .int .i64 0, .int .i64 0, .slice none 0 0] := HX.out 0 hdep
      rw [e0]
      go_simp
      have hI := OneI.step (e := e) (E := .agg #[.int .u8 kd, .string tx, .int .i64 nm, .int .i64 pl, .slice ka kn kc]) (w0 := w3) (p1 := w.heap.size) (p2 := w.heap.size + 1) (p3 := w2.heap.size) (d := d) 1 _ (by omega) HX.out H9.out H9'.out HKX.out HTEN.out ((Keeps.refl NoB wx).alloc _) (SIn.of_blk (css := [[.int .u8 3, .string ⟨#[88]⟩, .int .i64 0, .int .i64 0, .slice none 0 0]]) (Blk.new wx 29 #[.int .u8 3, .string ⟨#[88]⟩, .int .i64 0, .int .i64 0, .slice none 0 0]) (NodesIn.one (by unfold xT NodeIn; exact ⟨none, 0, 0, [], rfl, ⟨by unfold Roomy; omega, Nat.le_refl _⟩, Reads.zero _ _ _ _ _, by unfold NodesIn; trivial⟩)) (HNX _ (Nat.le_refl _)) (Roomy.small (by simp) (by omega))) (updV xs 1 _) rfl
      simp only [updV, Nat.reduceEqDiff, reduceIte] at hI
      rw [e0] at hI
      exact hK _ _ hI
    · simp at hoi
      subst hoi
      simp [Region.binds] at hdep
      obtain ⟨A, n, c, css, e1, hr1, hn1, hnc, hro⟩ := (show SIn wx (Bx (w.heap.size + 1) x4) _ (xs 1) from HX.out 1 hdep)
      rw [e1]
      go_simp
      refine (node_new 19 ByteArray.empty A n c _).mono ?_
      rintro en w' ⟨rfl, hk'⟩
      have hI := OneI.step (e := e) (E := .agg #[.int .u8 kd, .string tx, .int .i64 nm, .int .i64 pl, .slice ka kn kc]) (w0 := w3) (p1 := w.heap.size) (p2 := w.heap.size + 1) (p3 := w2.heap.size) (d := d) 2 _ (by omega) HX.out H9.out H9'.out HKX.out HTEN.out hk' ((SIn.keep ⟨A, n, c, css, rfl, hr1, hn1, hnc, hro⟩ hk').node 19 ByteArray.empty) (updV xs 2 _) rfl
      simp only [updV, Nat.reduceEqDiff, reduceIte] at hI
      rw [e1] at hI
      exact hK _ _ hI
    · simp at hoi
      subst hoi
      simp [Region.binds] at hdep
      go_simp
      refine (node_new 19 ByteArray.empty none 0 0 _).mono ?_
      rintro en w' ⟨rfl, hk'⟩
      exact hK _ _ (OneI.step 3 _ (by omega) HX.out H9.out H9'.out HKX.out HTEN.out hk' ((SIn.nil w' _).node 19 ByteArray.empty) (updV xs 3 _) rfl)
    · simp at hoi
      subst hoi
      simp [Region.binds] at hdep
      go_simp
      exact hK _ _ (OneI.step 4 _ (by omega) HX.out H9.out H9'.out HKX.out HTEN.out (Keeps.refl _ _) rfl (updV xs 4 _) rfl)
    · simp at hoi
      subst hoi
      simp [Region.binds] at hdep
      have e0 : xs 4 = .agg #[.int .u8 kd, .string tx, .int .i64 nm, .int .i64 pl, .slice ka kn kc] := HX.out 4 hdep
      rw [e0]
      go_simp
      have hI := OneI.step (e := e) (E := .agg #[.int .u8 kd, .string tx, .int .i64 nm, .int .i64 pl, .slice ka kn kc]) (w0 := w3) (p1 := w.heap.size) (p2 := w.heap.size + 1) (p3 := w2.heap.size) (d := d) 5 _ (by omega) HX.out H9.out H9'.out HKX.out HTEN.out ((Keeps.refl NoB wx).alloc _) (SIn.of_blk (css := [[.int .u8 kd, .string tx, .int .i64 nm, .int .i64 pl, .slice ka kn kc]]) (Blk.new wx 29 #[.int .u8 kd, .string tx, .int .i64 nm, .int .i64 pl, .slice ka kn kc]) (NodesIn.one HEX) (HNX _ (Nat.le_refl _)) (Roomy.small (by simp) (by omega))) (updV xs 5 _) rfl
      simp only [updV, Nat.reduceEqDiff, reduceIte] at hI
      rw [e0] at hI
      exact hK _ _ hI
    · simp at hoi
      subst hoi
      simp [Region.binds] at hdep
      obtain ⟨A, n, c, css, e1, hr1, hn1, hnc, hro⟩ := (show SIn wx (Bx (w.heap.size + 1) x4) _ (xs 5) from HX.out 5 hdep.1)
      rw [e1]
      go_simp
      refine (node_new 19 ByteArray.empty A n c _).mono ?_
      rintro en w' ⟨rfl, hk'⟩
      have hI := OneI.step (e := e) (E := .agg #[.int .u8 kd, .string tx, .int .i64 nm, .int .i64 pl, .slice ka kn kc]) (w0 := w3) (p1 := w.heap.size) (p2 := w.heap.size + 1) (p3 := w2.heap.size) (d := d) 6 _ (by omega) HX.out H9.out H9'.out HKX.out HTEN.out hk' ((SIn.keep ⟨A, n, c, css, rfl, hr1, hn1, hnc, hro⟩ hk').node 19 ByteArray.empty) (updV xs 6 _) rfl
      simp only [updV, Nat.reduceEqDiff, reduceIte] at hI
      rw [e1] at hI
      exact hK _ _ hI
    · simp at hoi
      subst hoi
      simp [Region.binds] at hdep
      obtain ⟨k2, t2, n2, l2, a2, m2, c2, e2, h2⟩ := (show XIn wx (Bx (w.heap.size + 1) x4) _ (xs 2) from HX.out 2 hdep.1)
      obtain ⟨k3, t3, n3, l3, a3, m3, c3, e3, h3⟩ := (show XIn wx (Bx (w.heap.size + 1) x4) _ (xs 3) from HX.out 3 hdep.2.1)
      obtain ⟨k6, t6, n6, l6, a6, m6, c6, e6, h6⟩ := (show XIn wx (Bx (w.heap.size + 1) x4) _ (xs 6) from HX.out 6 hdep.2.2)
      rw [e2, e3, e6]
      go_simp
      have hI := OneI.step (e := e) (E := .agg #[.int .u8 kd, .string tx, .int .i64 nm, .int .i64 pl, .slice ka kn kc]) (w0 := w3) (p1 := w.heap.size) (p2 := w.heap.size + 1) (p3 := w2.heap.size) (d := d) 7 _ (by omega) HX.out H9.out H9'.out HKX.out HTEN.out ((Keeps.refl NoB wx).alloc _) (SIn.of_blk (css := [[.int .u8 k2, .string t2, .int .i64 n2, .int .i64 l2, .slice a2 m2 c2], [.int .u8 k3, .string t3, .int .i64 n3, .int .i64 l3, .slice a3 m3 c3], [.int .u8 k6, .string t6, .int .i64 n6, .int .i64 l6, .slice a6 m6 c6]]) (Blk.new wx 29 _) (by unfold NodesIn NodesIn NodesIn NodesIn; exact ⟨NodeIn.keep ((Keeps.refl NoB wx).alloc _) (fun _ _ => id) _ _ h2, NodeIn.keep ((Keeps.refl NoB wx).alloc _) (fun _ _ => id) _ _ h3, NodeIn.keep ((Keeps.refl NoB wx).alloc _) (fun _ _ => id) _ _ h6, trivial⟩) (HNX _ (Nat.le_refl _)) (Roomy.small (by simp) (by omega))) (updV xs 7 _) rfl
      simp only [updV, Nat.reduceEqDiff, reduceIte] at hI
      rw [e2, e3, e6] at hI
      exact hK _ _ hI
    · simp at hoi
      subst hoi
      simp [Region.binds] at hdep
      obtain ⟨A, n, c, css, e1, hr1, hn1, hnc, hro⟩ := (show SIn wx (Bx (w.heap.size + 1) x4) _ (xs 7) from HX.out 7 hdep.1)
      rw [e1]
      go_simp
      refine (node_new 20 ByteArray.empty A n c _).mono ?_
      rintro en w' ⟨rfl, hk'⟩
      have hI := OneI.step (e := e) (E := .agg #[.int .u8 kd, .string tx, .int .i64 nm, .int .i64 pl, .slice ka kn kc]) (w0 := w3) (p1 := w.heap.size) (p2 := w.heap.size + 1) (p3 := w2.heap.size) (d := d) 8 _ (by omega) HX.out H9.out H9'.out HKX.out HTEN.out hk' ((SIn.keep ⟨A, n, c, css, rfl, hr1, hn1, hnc, hro⟩ hk').node 20 ByteArray.empty) (updV xs 8 _) rfl
      simp only [updV, Nat.reduceEqDiff, reduceIte] at hI
      rw [e1] at hI
      exact hK _ _ hI
    · simp at hoi
      subst hoi
      simp [Region.binds] at hdep
      go_simp
      have hx4 : x4 = undef := H9.out HD.out
      subst hx4
      refine hK _ _ ⟨⟨.pointer (some ⟨wx.heap.size, 0, none⟩), xs, rfl, fun j hj => ?_, fun h => (by rw [setB_self] at h; cases h), fun _ => ⟨wx.heap.size, _, rfl, HKX.out.size, Blk.new wx 29 _, rfl, fun h => ?_⟩⟩, HKX.out.alloc _, fun _ => setB_self d 9⟩
      · by_cases e : j = 9
        · subst e; trivial
        · rw [setB_ne d e] at hj
          exact (oneF.fresh j (HX.out j hj)).keep ((Keeps.refl NoB wx).alloc _)
      · rw [setB_ne d (by omega)] at h
        exact absurd (HTEN.out h) (by rw [HD.out]; decide)
    · simp at hoi
      subst hoi
      simp [Region.binds] at hdep
      obtain ⟨b, c5, rfl, hbb, hbl, hc5, _⟩ := H9'.out hdep.1
      obtain ⟨k8, t8, n8, l8, a8, m8, c8, e8, h8⟩ := (show XIn wx (Bx (w.heap.size + 1) (.pointer (some ⟨b, 0, none⟩))) _ (xs 8) from HX.out 8 hdep.2.1)
      obtain ⟨v0, v1, v2, v3, v4, rfl⟩ : ∃ v0 v1 v2 v3 v4, c5 = #[v0, v1, v2, v3, v4] := by
        match c5, hc5 with
        | ⟨[v0, v1, v2, v3, v4]⟩, _ => exact ⟨v0, v1, v2, v3, v4, rfl⟩
      have hbz : ∀ i, wx.frozen? ⟨b, i, none⟩ = false := fun i => hbl.free i
      have z0 := hbz 0; have z1 := hbz 1; have z2 := hbz 2; have z3 := hbz 3; have z4 := hbz 4
      have v0' := hbl.cell 0; have v1' := hbl.cell 1; have v2' := hbl.cell 2; have v3' := hbl.cell 3; have v4' := hbl.cell 4
      have HH8 := hide h8; have HBL := hide hbl; have HE8 := hide e8
      rw [e8]
      clear hbz h8 hbl e8
      go_simp
      have hks : Keeps (fun k => k = b) wx (((((wx.setCell ⟨b, 0, none⟩ (.int .u8 k8)).setCell ⟨b, 1, none⟩ (.string t8)).setCell ⟨b, 2, none⟩ (.int .i64 n8)).setCell ⟨b, 3, none⟩ (.int .i64 l8)).setCell ⟨b, 4, none⟩ (.slice a8 m8 c8)) :=
        ((((((Keeps.refl (fun k => k = b) wx).setCell (p := ⟨b, 0, none⟩) (.inl rfl) _).setCell (p := ⟨b, 1, none⟩) (.inl rfl) _).setCell (p := ⟨b, 2, none⟩) (.inl rfl) _).setCell (p := ⟨b, 3, none⟩) (.inl rfl) _).setCell (p := ⟨b, 4, none⟩) (.inl rfl) _)
      have hbs : Blk (((((wx.setCell ⟨b, 0, none⟩ (.int .u8 k8)).setCell ⟨b, 1, none⟩ (.string t8)).setCell ⟨b, 2, none⟩ (.int .i64 n8)).setCell ⟨b, 3, none⟩ (.int .i64 l8)).setCell ⟨b, 4, none⟩ (.slice a8 m8 c8)) b 29 #[.int .u8 k8, .string t8, .int .i64 n8, .int .i64 l8, .slice a8 m8 c8] := ((((HBL.out.put 0 _).put 1 _).put 2 _).put 3 _).put 4 _
      have hne : ∀ k, Bx (w.heap.size + 1) (.pointer (some ⟨b, 0, none⟩)) k → ¬ k = b := fun k h e => h.1 (by rw [e])
      have hI : OneI e (.agg #[.int .u8 kd, .string tx, .int .i64 nm, .int .i64 pl, .slice ka kn kc]) w3 w.heap.size (w.heap.size + 1) w2.heap.size (setB d 10) _ _ := ⟨⟨.pointer (some ⟨b, 0, none⟩), xs, rfl, fun j hj => ?_, fun h => ?_, fun _ => ⟨b, _, rfl, hbb, hbs, rfl, fun _ => ⟨k8, t8, n8, l8, a8, m8, c8, rfl, NodeIn.keep hks hne _ _ HH8.out⟩⟩⟩, HKX.out.trans' hks (fun _ _ h => h.elim) (fun i hi e => by omega), fun _ => by rw [setB_ne d (by omega)]; exact hdep.1⟩
      · rw [HE8.out] at hI
        exact hK _ _ hI
      · by_cases e : j = 10
        · subst e; trivial
        · rw [setB_ne d e] at hj
          exact oneF.stored hks hne j (HX.out j hj)
      · rw [setB_ne d (by omega), hdep.1] at h; cases h
  · intro d a wx hI hall
    obtain ⟨⟨x4, xs, rfl, hx, _, h9'⟩, hkx, _⟩ := hI
    obtain ⟨b, c5, rfl, hbb, hbl, hc5, hcl⟩ := h9' (hall 9 (by simp))
    obtain ⟨k8, t8, n8, l8, a8, m8, c8, e8, h8⟩ := hcl (hall 10 (by simp))
    injection e8 with e8
    subst e8
    have f0 := hbl.cell 0; have f1 := hbl.cell 1; have f2 := hbl.cell 2; have f3 := hbl.cell 3; have f4 := hbl.cell 4
    have HKX := hide hkx; have H8 := hide h8
    have HB2X := hide (HB2.out.keep hkx id)
    clear hx h9' hall hcl hkx h8 hbl
    have hp2 := HB2X.out.lt
    have HP2 := hide hp2
    clear hp2
    go_wp2_with
      first
      | (go_at_call 18
         have hka : Keeps NoB wx (wx.alloc (.cells #[.int .u8 k8, .string t8, .int .i64 n8, .int .i64 l8, .slice a8 m8 c8] 29)) := (Keeps.refl NoB wx).alloc _
         have hs1 : SIn (wx.alloc (.cells #[.int .u8 k8, .string t8, .int .i64 n8, .int .i64 l8, .slice a8 m8 c8] 29)) (fun k => k ≠ w.heap.size + 1) [clauseT e] (.slice (some ⟨wx.heap.size, 0, none⟩) 1 1) := SIn.of_blk (css := [[.int .u8 k8, .string t8, .int .i64 n8, .int .i64 l8, .slice a8 m8 c8]]) (Blk.new wx 29 _) (NodesIn.one (NodeIn.keep hka (fun _ _ => id) _ _ (NodeIn.more (fun k _ h => h.2) _ _ H8.out))) (by have := HP2.out; show wx.heap.size ≠ w.heap.size + 1; omega) (Roomy.small (by simp) (by omega))
         obtain ⟨_, _, _, css1, es1, r1, r2, r3, r4⟩ := hs1
         injection es1 with es1 es2 es3
         subst es1 es2 es3
         have hkb : Keeps NoB (wx.alloc (.cells #[.int .u8 k8, .string t8, .int .i64 n8, .int .i64 l8, .slice a8 m8 c8] 29)) ((wx.alloc (.cells #[.int .u8 k8, .string t8, .int .i64 n8, .int .i64 l8, .slice a8 m8 c8] 29)).alloc (.cells #[.int .u8 21, .string ⟨#[102]⟩, .int .i64 1, .int .i64 0, .slice (some ⟨wx.heap.size, 0, none⟩) 1 1] 29)) := (Keeps.refl NoB _).alloc _
         have hb5 := Blk.new (wx.alloc (.cells #[.int .u8 k8, .string t8, .int .i64 n8, .int .i64 l8, .slice a8 m8 c8] 29)) 29 #[.int .u8 21, .string ⟨#[102]⟩, .int .i64 1, .int .i64 0, .slice (some ⟨wx.heap.size, 0, none⟩) 1 1]
         have es : (wx.alloc (.cells #[.int .u8 k8, .string t8, .int .i64 n8, .int .i64 l8, .slice a8 m8 c8] 29)).heap.size = wx.heap.size + 1 := by simp
         rw [es] at hb5
         have HS2 := hide (SIn.of_blk (B := fun k => k ≠ w.heap.size + 1) (ts := [functionT e]) (css := [[.int .u8 21, .string ⟨#[102]⟩, .int .i64 1, .int .i64 0, .slice (some ⟨wx.heap.size, 0, none⟩) 1 1]]) hb5 (NodesIn.one (by unfold functionT NodeIn; exact ⟨_, _, _, css1, rfl, ⟨r4, r3⟩, r1.keep hkb (fun _ _ => id), NodesIn.keep hkb (fun _ _ => id) _ _ r2⟩)) (by have := HP2.out; show wx.heap.size + 1 ≠ w.heap.size + 1; omega) (Roomy.small (by simp) (by omega)))
         have hkc : Keeps NoB wx ((wx.alloc (.cells #[.int .u8 k8, .string t8, .int .i64 n8, .int .i64 l8, .slice a8 m8 c8] 29)).alloc (.cells #[.int .u8 21, .string ⟨#[102]⟩, .int .i64 1, .int .i64 0, .slice (some ⟨wx.heap.size, 0, none⟩) 1 1] 29)) := hka.alloc _
         clear hka hkb hb5 es r1 r2 r3 r4
         refine (node_new 22 ByteArray.empty _ _ _ _).mono ?_
         rintro en w5 ⟨rfl, hk⟩
         have HX5 := hide ((HS2.out.keep hk).node 22 ByteArray.empty)
         have HK5 := hide (HKX.out.trans' (hkc.trans' hk (fun _ _ => id) (fun _ _ => id) : Keeps NoB wx w5) (fun _ _ => id) (fun _ _ => id) : Keeps NoB ((w2.alloc (.cells #[.int .u8 3, .string ⟨#[88]⟩, .int .i64 0, .int .i64 0, .slice none 0 0] 29))).drew w5)
         have hb2 := (HB2X.out.keep hkc id).keep hk id
         have z0 := hb2.free 0; have z1 := hb2.free 1; have z2 := hb2.free 2; have z3 := hb2.free 3; have z4 := hb2.free 4
         have d0 := hb2.cell 0; have d1 := hb2.cell 1; have d2 := hb2.cell 2; have d3 := hb2.cell 3; have d4 := hb2.cell 4
         have HB5 := hide hb2
         clear hk hkc hb2)
      | fail
    have hks : Keeps (fun k => k = w.heap.size + 1) w5 (((((w5.setCell ⟨w.heap.size + 1, 0, none⟩ (.int .u8 22)).setCell ⟨w.heap.size + 1, 1, none⟩ (.string ByteArray.empty)).setCell ⟨w.heap.size + 1, 2, none⟩ (.int .i64 0)).setCell ⟨w.heap.size + 1, 3, none⟩ (.int .i64 0)).setCell ⟨w.heap.size + 1, 4, none⟩ (.slice (some ⟨wx.heap.size + 1, 0, none⟩) 1 1)) :=
      ((((((Keeps.refl (fun k => k = w.heap.size + 1) w5).setCell (p := ⟨w.heap.size + 1, 0, none⟩) (.inl rfl) _).setCell (p := ⟨w.heap.size + 1, 1, none⟩) (.inl rfl) _).setCell (p := ⟨w.heap.size + 1, 2, none⟩) (.inl rfl) _).setCell (p := ⟨w.heap.size + 1, 3, none⟩) (.inl rfl) _).setCell (p := ⟨w.heap.size + 1, 4, none⟩) (.inl rfl) _)
    have hbs : Blk (((((w5.setCell ⟨w.heap.size + 1, 0, none⟩ (.int .u8 22)).setCell ⟨w.heap.size + 1, 1, none⟩ (.string ByteArray.empty)).setCell ⟨w.heap.size + 1, 2, none⟩ (.int .i64 0)).setCell ⟨w.heap.size + 1, 3, none⟩ (.int .i64 0)).setCell ⟨w.heap.size + 1, 4, none⟩ (.slice (some ⟨wx.heap.size + 1, 0, none⟩) 1 1)) (w.heap.size + 1) 29 #[.int .u8 22, .string ByteArray.empty, .int .i64 0, .int .i64 0, .slice (some ⟨wx.heap.size + 1, 0, none⟩) 1 1] := ((((HB5.out.put 0 _).put 1 _).put 2 _).put 3 _).put 4 _
    have g0 := hbs.cell 0; have g1 := hbs.cell 1; have g2 := hbs.cell 2; have g3 := hbs.cell 3; have g4 := hbs.cell 4
    refine bodyPost_ret (v := .agg #[.int .u8 22, .string ByteArray.empty, .int .i64 0, .int .i64 0, .slice (some ⟨wx.heap.size + 1, 0, none⟩) 1 1]) (by simp [results, Tryd.results17, go_sem, g0, g1, g2, g3, g4]) rfl ?_
    exact ⟨(HKW.out.trans' HK5.out (fun _ _ => id) (fun _ _ => id) : Keeps NoB w w5).trans' hks (fun _ _ => id) (fun i hi e => by omega), _, rfl, (HX5.out.keep' hks (fun k h e => h e)).more (fun _ _ _ => trivial)⟩
end Go.Proofs.YtincajfanhanjaaDoor
