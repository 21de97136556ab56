/- Both boxes, told by their letters: what each call leaves. -/
import Derived.Test.YtmkidkfofbnjgaaLike
namespace Go.Proofs.Ytmkidkfofbnjgaa
open Go.RowKit

/-- Both boxes: their letters, their looks; and blocks that are neither's (P), which may be turned freely. -/
def PInv (w wr : World) (b r : Nat) (us vs : List Tm) (i j : Nat) (P : Nat → Prop) : Prop :=
  ∃ sv L A c css, Pair w wr b sv L i r A c css vs j ∧ L.map (·.t) = us ∧ ∀ k, P k → w.heap.size ≤ k ∧ k < wr.heap.size ∧ ¬ boxFp b sv k ∧ ¬ refFp r A k ∧ ∀ x ∈ L, x.misses k

section
variable {w wr w' : World} {b r i j : Nat} {us vs : List Tm} {P P' : Nat → Prop}
theorem PInv.fresh (h : PInv w wr b r us vs i j P) (k : Keeps NoB wr w') : PInv w w' b r us vs i j P := by
  obtain ⟨sv, L, A, c, css, h1, h2, h3⟩ := h
  exact ⟨sv, L, A, c, css, h1.fresh k, h2, fun x hx => ⟨(h3 x hx).1, Nat.lt_of_lt_of_le (h3 x hx).2.1 k.size, (h3 x hx).2.2⟩⟩
theorem PInv.less (h : PInv w wr b r us vs i j P) (hP : ∀ k, P' k → P k) : PInv w wr b r us vs i j P' := by
  obtain ⟨sv, L, A, c, css, h1, h2, h3⟩ := h
  exact ⟨sv, L, A, c, css, h1, h2, fun x hx => h3 x (hP x hx)⟩
/-- What is new is neither's. -/
theorem PInv.more (h : PInv w wr b r us vs i j P) (k : Keeps NoB wr w') : PInv w w' b r us vs i j (fun k => P k ∨ wr.heap.size ≤ k ∧ k < w'.heap.size) := by
  obtain ⟨sv, L, A, c, css, h1, h2, h3⟩ := h
  have hs := h1.one.keep.size
  refine ⟨sv, L, A, c, css, h1.fresh k, h2, fun x hx => ?_⟩
  rcases hx with hx | ⟨h4, h5⟩
  · exact ⟨(h3 x hx).1, Nat.lt_of_lt_of_le (h3 x hx).2.1 k.size, (h3 x hx).2.2⟩
  · refine ⟨by omega, h5, fun e => ?_, fun e => ?_, fun y hy => ?_⟩
    · have := h1.one.lt x e; omega
    · have := h1.ref.lt x e; omega
    · have := (h1.one.box.ok y hy).2.2; exact .inr (by omega)
/-- What is neither's may be turned. -/
theorem PInv.turn (h : PInv w wr b r us vs i j P) (k : Keeps P wr w') : PInv w w' b r us vs i j P := by
  obtain ⟨sv, L, A, c, css, h1, h2, h3⟩ := h
  refine ⟨sv, L, A, c, css, ⟨⟨h1.one.box.keep k (fun e => (h3 _ e).2.2.1 (.inl rfl)) (fun g hg e => (h3 _ e).2.2.1 (.inr hg)) (fun x hx k e => (h3 _ e).2.2.2.2 x hx), h1.one.keep.trans' k (fun _ _ => id) (fun k hk e => by have := (h3 k e).1; omega), h1.one.hb, h1.one.hg⟩, h1.ref.keep k (fun k hk e => (h3 k e).2.2.2.1 hk) (fun k hk e => by have := (h3 k e).1; omega), h1.hr, h1.hA, h1.sep, h1.off, h1.low⟩, h2, fun x hx => ⟨(h3 x hx).1, Nat.lt_of_lt_of_le (h3 x hx).2.1 k.size, (h3 x hx).2.2⟩⟩
theorem PInv.keep (h : PInv w wr b r us vs i j P) : Keeps NoB w wr := by
  obtain ⟨sv, L, A, c, css, h1, _⟩ := h; exact h1.one.keep
theorem PInv.lt (h : PInv w wr b r us vs i j P) {k : Nat} (hk : P k) : k < wr.heap.size := by
  obtain ⟨sv, L, A, c, css, h1, _, h3⟩ := h; exact (h3 k hk).2.1
theorem PInv.rcell (h : PInv w wr b r us vs i j P) : ∃ A c, wr.cell? ⟨r, 0, none⟩ = some (.slice A vs.length c) ∧ wr.cell? ⟨r, 1, none⟩ = some (.int .i64 j) ∧ wr.frozen? ⟨r, 1, none⟩ = false := by
  obtain ⟨sv, L, A, c, css, h1, _⟩ := h
  exact ⟨A, c, by rw [← h1.ref.len]; exact h1.ref.blk.cell 0, h1.ref.blk.cell 1, h1.ref.blk.free 1⟩
end

/-- What a step leaves: the answer, both boxes, and what is neither's as it was. -/
def Left (w wr : World) (b r : Nat) (us vs : List Tm) (i j : Nat) (P : Nat → Prop) (v : Value) (e : Ending) (w' : World) : Prop :=
  e = .returned v ∧ PInv w w' b r us vs i j P ∧ Keeps (fun k => ¬ P k) wr w'

section
variable {w wr w' : World} {b r i j : Nat} {us vs : List Tm} {P : Nat → Prop}
theorem put_p (h : PInv w wr b r us vs i j P) (hl : us.length < 1024) {kd nm : Int} {ng : Bool} {la ia ta : Option Addr} {ln lc im ic tn tc : Nat} {tx : ByteArray} {t : Tm} {B : Nat → Prop} {F : Bool} (ht : TermIn wr B F [.int .u8 kd, .bool ng, .slice la ln lc, .string tx, .int .i64 nm, .slice ia im ic, .slice ta tn tc] t) :
    Calls Try.prog 10 #[.pointer (some ⟨b, 0, none⟩), .agg #[.int .u8 kd, .bool ng, .slice la ln lc, .string tx, .int .i64 nm, .slice ia im ic, .slice ta tn tc]] wr (Left w wr b r (us ++ [t]) vs i j P (.int .i64 0)) := by
  obtain ⟨sv, L, A, c, css, h1, rfl, h3⟩ := h
  refine (put_yes b sv L i wr h1.one.box (by simpa using hl) kd ng la ln lc tx nm ia im ic ta tn tc t B F ht).mono ?_
  rintro e w' ⟨sv', x, rfl, hxt, hlo, hbox, hk, hown⟩
  have hL : ∀ y ∈ L ++ [x], y ∈ L ∨ wr.heap.size ≤ y.lo := fun y hy => by
    rcases List.mem_append.1 hy with hy | hy
    · exact .inl hy
    · rw [List.mem_singleton] at hy; subst hy; exact .inr hlo
  have hp := h1.box hk hbox hown hL
  refine ⟨rfl, ⟨sv', L ++ [x], A, c, css, hp, by rw [List.map_append, List.map_singleton, hxt], fun k hk2 => ?_⟩, hk.mono (fun k _ hf hp => (h3 k hp).2.2.1 hf)⟩
  obtain ⟨p1, p2, p3, p4, p5⟩ := h3 k hk2
  refine ⟨p1, Nat.lt_of_lt_of_le p2 hk.size, fun hf => ?_, p4, fun y hy => ?_⟩
  · rcases hf with e | hf
    · exact p3 (.inl e)
    · rcases hown with e | ⟨g, e, hg⟩
      · exact p3 (.inr (e ▸ hf))
      · rw [e] at hf; injection hf with hf; omega
  · rcases hL y hy with hy | hy
    · exact p5 y hy
    · exact .inl (by omega)
theorem ref_put_p (h : PInv w wr b r us vs i j P) (hl : vs.length < 1024) {kd nm : Int} {ng : Bool} {la ia ta : Option Addr} {ln lc im ic tn tc : Nat} {tx : ByteArray} {t : Tm} {F : Bool} (ht : TermIn wr (fun k => k < w.heap.size) F [.int .u8 kd, .bool ng, .slice la ln lc, .string tx, .int .i64 nm, .slice ia im ic, .slice ta tn tc] t) :
    Calls Try.prog 11 #[.pointer (some ⟨r, 0, none⟩), .agg #[.int .u8 kd, .bool ng, .slice la ln lc, .string tx, .int .i64 nm, .slice ia im ic, .slice ta tn tc]] wr (Left w wr b r us (vs ++ [t]) i j P (.int .i64 0)) := by
  obtain ⟨sv, L, A, c, css, h1, h2, h3⟩ := h
  refine (ref_put r A c css vs _ j wr h1.ref (by rw [h1.ref.len]; exact hl) h1.refB kd ng la ln lc tx nm ia im ic ta tn tc t F ht).mono ?_
  rintro e w' ⟨A', c', rfl, hr, hk, hm⟩
  refine ⟨rfl, ⟨sv, L, A', c', _, h1.doc hk hr hm, h2, fun k hk2 => ?_⟩, hk.mono (fun k _ hf hp => (h3 k hp).2.2.2.1 hf)⟩
  obtain ⟨p1, p2, p3, p4, p5⟩ := h3 k hk2
  refine ⟨p1, Nat.lt_of_lt_of_le p2 hk.size, p3, fun hf => ?_, p5⟩
  rcases hf with e | hf
  · exact p4 (.inl e)
  · rcases hm k hf with e | e
    · exact p4 (.inr e)
    · omega

/-- Skip's answer. -/
def SkipAt (us : List Tm) (i : Nat) (code : Int) (i' : Nat) : Prop := (code = 0 ∧ i < us.length ∧ i' = i + 1) ∨ (code = 6 ∧ us.length ≤ i ∧ i' = i)
theorem skipAt_any (us : List Tm) (i : Nat) : ∃ code i', SkipAt us i code i' := by
  by_cases h : i < us.length
  · exact ⟨0, i + 1, .inl ⟨rfl, h, rfl⟩⟩
  · exact ⟨6, i, .inr ⟨rfl, by omega, rfl⟩⟩
theorem skip_p (h : PInv w wr b r us vs i j P) (hl : us.length ≤ 1024) {code : Int} {i' : Nat} (hs : SkipAt us i code i') :
    Calls Try.prog 14 #[.pointer (some ⟨b, 0, none⟩)] wr (Left w wr b r us vs i' j P (.int .i64 code)) := by
  obtain ⟨sv, L, A, c, css, h1, rfl, h3⟩ := h
  rcases hs with ⟨rfl, hi, rfl⟩ | ⟨rfl, hi, rfl⟩
  · refine (skip_yes b sv L i wr h1.one.box (by simpa using hi) (by simpa using hl)).mono ?_
    rintro e w' ⟨rfl, hbox, hk⟩
    have hk2 := hk.mono (fp' := boxFp b sv) (fun _ _ e => .inl e)
    exact ⟨rfl, ⟨sv, L, A, c, css, h1.box hk2 hbox (.inl rfl) (fun x hx => .inl hx), rfl, fun k hk => ⟨(h3 k hk).1, Nat.lt_of_lt_of_le (h3 k hk).2.1 hk2.size, (h3 k hk).2.2⟩⟩, hk2.mono (fun k _ hf hp => (h3 k hp).2.2.1 hf)⟩
  · refine (skip_no b sv L i' wr h1.one.box (by simpa using hi)).mono ?_
    rintro e w' ⟨rfl, hk⟩
    exact ⟨rfl, (show PInv w wr b r _ vs i' j P from ⟨sv, L, A, c, css, h1, rfl, h3⟩).fresh hk, hk.mono (fun _ _ h => h.elim)⟩
theorem ref_skip_p (h : PInv w wr b r us vs i j P) (hl : vs.length ≤ 1024) {code : Int} {j' : Nat} (hs : SkipAt vs j code j') :
    Calls Try.prog 15 #[.pointer (some ⟨r, 0, none⟩)] wr (Left w wr b r us vs i j' P (.int .i64 code)) := by
  obtain ⟨sv, L, A, c, css, h1, h2, h3⟩ := h
  rcases hs with ⟨rfl, hi, rfl⟩ | ⟨rfl, hi, rfl⟩
  · refine (ref_skip_yes r A c css vs _ j wr h1.ref (by rw [h1.ref.len]; exact hi) (by rw [h1.ref.len]; omega) (by have := h1.hr; omega)).mono ?_
    rintro e w' ⟨rfl, hr, hk⟩
    have hk2 := hk.mono (fp' := refFp r A) (fun _ _ e => .inl e)
    exact ⟨rfl, ⟨sv, L, A, c, css, h1.doc hk2 hr (Moved.same _ _), h2, fun k hk => ⟨(h3 k hk).1, Nat.lt_of_lt_of_le (h3 k hk).2.1 hk2.size, (h3 k hk).2.2⟩⟩, hk2.mono (fun k _ hf hp => (h3 k hp).2.2.2.1 hf)⟩
  · refine (ref_skip_no r A c css vs _ j' wr h1.ref (by rw [h1.ref.len]; exact hi)).mono ?_
    rintro e w' ⟨rfl, hk⟩
    exact ⟨rfl, (show PInv w wr b r us vs i j' P from ⟨sv, L, A, c, css, h1, h2, h3⟩).fresh hk, hk.mono (fun _ _ h => h.elim)⟩

theorem begin_p (h : PInv w wr b r us vs i j P) :
    Calls Try.prog 23 #[.pointer (some ⟨b, 0, none⟩)] wr (Left w wr b r us vs 0 j P (.tuple #[])) := by
  obtain ⟨sv, L, A, c, css, h1, h2, h3⟩ := h
  refine (begin_box b sv L i wr h1.one.box).mono ?_
  rintro e w' ⟨rfl, hbox, hk⟩
  have hk2 := hk.mono (fp' := boxFp b sv) (fun _ _ e => .inl e)
  exact ⟨rfl, ⟨sv, L, A, c, css, h1.box hk2 hbox (.inl rfl) (fun x hx => .inl hx), h2, fun k hk => ⟨(h3 k hk).1, Nat.lt_of_lt_of_le (h3 k hk).2.1 hk2.size, (h3 k hk).2.2⟩⟩, hk2.mono (fun k _ hf hp => (h3 k hp).2.2.1 hf)⟩

/-- Take's answer. -/
def TakeAt (us : List Tm) (i : Nat) (t : Tm) (code : Int) (us' : List Tm) (i' : Nat) : Prop := (code = 0 ∧ us[i]? = some t ∧ us' = us.eraseIdx i ∧ i' = 0) ∨ (code = 6 ∧ us.length ≤ i ∧ t = zTm ∧ us' = us ∧ i' = i)
theorem takeAt_any (us : List Tm) (i : Nat) : ∃ t code us' i', TakeAt us i t code us' i' := by
  by_cases h : i < us.length
  · exact ⟨us[i], 0, _, 0, .inl ⟨rfl, List.getElem?_eq_getElem h, rfl, rfl⟩⟩
  · exact ⟨zTm, 6, us, i, .inr ⟨rfl, by omega, rfl, rfl, rfl⟩⟩
theorem map_erase {α β : Type} (f : α → β) : ∀ (L : List α) (i : Nat), (L.eraseIdx i).map f = (L.map f).eraseIdx i
  | [], _ => rfl
  | _ :: _, 0 => rfl
  | x :: L, i + 1 => by simp [map_erase f L i]
theorem apart_erase {L : List Lt} {i : Nat} {x y : Lt} (h : L.Pairwise fun x y => x.hi ≤ y.lo) (hx : L[i]? = some x) (hy : y ∈ L.eraseIdx i) : x.hi ≤ y.lo ∨ y.hi ≤ x.lo := by
  obtain ⟨k, hk, hy⟩ := List.mem_eraseIdx_iff_getElem?.1 hy
  obtain ⟨h1, e1⟩ := List.getElem?_eq_some_iff.1 hx
  obtain ⟨h2, e2⟩ := List.getElem?_eq_some_iff.1 hy
  have hp := List.pairwise_iff_getElem.1 h
  rcases Nat.lt_or_gt_of_ne hk with h3 | h3
  · have := hp k i h2 h1 h3; rw [e1, e2] at this; exact .inr this
  · have := hp i k h1 h2 h3; rw [e1, e2] at this; exact .inl this
def LeftT (w wr : World) (b r : Nat) (us vs : List Tm) (i j : Nat) (P : Nat → Prop) (t : Tm) (code : Int) (e : Ending) (w' : World) : Prop :=
  ∃ kd ng la ln lc tx nm ia im ic ta tn tc T, e = .returned (.tuple #[.agg #[.int .u8 kd, .bool ng, .slice la ln lc, .string tx, .int .i64 nm, .slice ia im ic, .slice ta tn tc], .int .i64 code]) ∧ TermIn w' T true [.int .u8 kd, .bool ng, .slice la ln lc, .string tx, .int .i64 nm, .slice ia im ic, .slice ta tn tc] t ∧ PInv w w' b r us vs i j (fun k => P k ∨ T k) ∧ Keeps (fun k => ¬ P k) wr w' ∧ ∀ k, T k → ¬ P k
theorem take_p (h : PInv w wr b r us vs i j P) (hl : us.length ≤ 1024) {t : Tm} {code : Int} {us' : List Tm} {i' : Nat} (hs : TakeAt us i t code us' i') :
    Calls Try.prog 16 #[.pointer (some ⟨b, 0, none⟩)] wr (LeftT w wr b r us' vs i' j P t code) := by
  obtain ⟨sv, L, A, c, css, h1, rfl, h3⟩ := h
  rcases hs with ⟨rfl, ht, rfl, rfl⟩ | ⟨rfl, hi, rfl, rfl, rfl⟩
  · obtain ⟨x, hx, hxt⟩ := nth_term rfl ht
    have hi := (List.getElem?_eq_some_iff.1 hx).1
    refine (take_yes b sv L i (L.length - (i + 1)) x wr h1.one.box hx (by omega) (by simpa using hl)).mono ?_
    rintro e w' ⟨v0, v1, v2, v3, v4, v5, v6, sv', hcs, rfl, hbox, hk, hok, hown⟩
    have hT := hok.1
    rw [hcs, hxt] at hT
    obtain ⟨kd, ng, la, ln, lc, tx, nm, ia, im, ic, ta, tn, tc, e, _⟩ := hT.cells
    simp only [List.cons.injEq, and_true] at e
    obtain ⟨rfl, rfl, rfl, rfl, rfl, rfl, rfl⟩ := e
    have hxL : x ∈ L := by obtain ⟨_, e⟩ := List.getElem?_eq_some_iff.1 hx; exact e ▸ List.getElem_mem _
    refine ⟨kd, ng, la, ln, lc, tx, nm, ia, im, ic, ta, tn, tc, fun k => x.lo ≤ k ∧ k < x.hi, rfl, hT, ⟨sv', L.eraseIdx i, A, c, css, h1.box hk hbox (.inl hown) (fun y hy => .inl (List.mem_of_mem_eraseIdx hy)), map_erase _ _ _, fun k hk2 => ?_⟩, hk.mono (fun k _ hf hp => (h3 k hp).2.2.1 hf), fun k ⟨hk1, hk2⟩ hp => by rcases (h3 k hp).2.2.2.2 x hxL with h | h <;> omega⟩
    rcases hk2 with hk2 | ⟨hk2, hk3⟩
    · obtain ⟨p1, p2, p3, p4, p5⟩ := h3 k hk2
      exact ⟨p1, Nat.lt_of_lt_of_le p2 hk.size, fun hf => hf.elim (fun e => p3 (.inl e)) (fun e => p3 (.inr (hown ▸ e))), p4, fun y hy => p5 y (List.mem_of_mem_eraseIdx hy)⟩
    · have q1 := h1.low x hxL
      have q2 := hok.2.2
      have q3 := h1.one.box.off x hxL
      refine ⟨by omega, by omega, fun hf => ?_, fun hf => ?_, fun y hy => ?_⟩
      · rcases hf with rfl | hf
        · rcases q3.1 with h | h <;> omega
        · rcases q3.2 k (hown ▸ hf) with h | h <;> omega
      · rcases h1.off x hxL k hf with h | h <;> omega
      · rcases apart_erase h1.one.box.apart hx hy with h | h
        · exact .inl (by omega)
        · exact .inr (by omega)
  · refine (take_no b sv L i' wr h1.one.box (by simpa using hi)).mono ?_
    rintro e w' ⟨rfl, hk⟩
    exact ⟨0, false, none, 0, 0, ⟨#[]⟩, 0, none, 0, 0, none, 0, 0, fun _ => False, rfl, flat_in _ _ _ _ _ _, ((show PInv w wr b r _ vs i' j P from ⟨sv, L, A, c, css, h1, rfl, h3⟩).fresh hk).less (fun k h => h.elim id (fun h => h.elim)), hk.mono (fun _ _ h => h.elim), fun _ h => h.elim⟩
def LeftR (w wr : World) (b r : Nat) (us vs : List Tm) (i j : Nat) (P : Nat → Prop) (t : Tm) (code : Int) (e : Ending) (w' : World) : Prop :=
  ∃ kd ng la ln lc tx nm ia im ic ta tn tc, e = .returned (.tuple #[.agg #[.int .u8 kd, .bool ng, .slice la ln lc, .string tx, .int .i64 nm, .slice ia im ic, .slice ta tn tc], .int .i64 code]) ∧ TermIn w' (fun k => k < w.heap.size) false [.int .u8 kd, .bool ng, .slice la ln lc, .string tx, .int .i64 nm, .slice ia im ic, .slice ta tn tc] t ∧ PInv w w' b r us vs i j P ∧ Keeps (fun k => ¬ P k) wr w'
theorem ref_take_p (h : PInv w wr b r us vs i j P) (hl : vs.length ≤ 1024) {t : Tm} {code : Int} {vs' : List Tm} {j' : Nat} (hs : TakeAt vs j t code vs' j') :
    Calls Try.prog 17 #[.pointer (some ⟨r, 0, none⟩)] wr (LeftR w wr b r us vs' i j' P t code) := by
  obtain ⟨sv, L, A, c, css, h1, h2, h3⟩ := h
  rcases hs with ⟨rfl, ht, rfl, rfl⟩ | ⟨rfl, hi, rfl, rfl, rfl⟩
  · refine (ref_take_yes r A c css vs t _ j wr h1.ref (by rw [h1.ref.len]; exact (List.getElem?_eq_some_iff.1 ht).1) ht (by rw [h1.ref.len]; exact hl) (by have := h1.hr; omega)).mono ?_
    rintro e w' ⟨kd, ng, la, ln, lc, tx, nm, ia, im, ic, ta, tn, tc, A', c', rfl, hT, hr, hk, hA⟩
    have hk2 := hk.mono (fp' := refFp r A) (fun _ _ e => .inl e)
    refine ⟨kd, ng, la, ln, lc, tx, nm, ia, im, ic, ta, tn, tc, rfl, hT, ⟨sv, L, A', c', _, h1.doc hk2 hr (Moved.new hA), h2, fun k hk3 => ?_⟩, hk2.mono (fun k _ hf hp => (h3 k hp).2.2.2.1 hf)⟩
    obtain ⟨p1, p2, p3, p4, p5⟩ := h3 k hk3
    exact ⟨p1, Nat.lt_of_lt_of_le p2 hk.size, p3, fun hf => hf.elim (fun e => p4 (.inl e)) (fun e => by have := hA k e; omega), p5⟩
  · refine (ref_take_no r A c css vs' _ j' wr h1.ref (by rw [h1.ref.len]; exact hi)).mono ?_
    rintro e w' ⟨rfl, hk⟩
    exact ⟨0, false, none, 0, 0, ⟨#[]⟩, 0, none, 0, 0, none, 0, 0, rfl, flat_in _ _ _ _ _ _, (show PInv w wr b r us vs' i j' P from ⟨sv, L, A, c, css, h1, h2, h3⟩).fresh hk, hk.mono (fun _ _ h => h.elim)⟩
theorem like_p (h : PInv w wr b r us us i i P) (hl : us.length ≤ 1024) :
    Calls Try.prog 18 #[.pointer (some ⟨b, 0, none⟩), .pointer (some ⟨r, 0, none⟩)] wr fun e w' => e = .returned (.bool true) ∧ PInv w w' b r us us i i P ∧ Keeps NoB wr w' := by
  obtain ⟨sv, L, A, c, css, h1, h2, h3⟩ := h
  refine (like_any b sv L i r A c css us w wr h1 h2 (by rw [← List.length_map (·.t), h2]; exact hl)).mono ?_
  rintro e w' ⟨rfl, hk⟩
  exact ⟨rfl, (show PInv w wr b r us us i i P from ⟨sv, L, A, c, css, h1, h2, h3⟩).fresh hk, hk⟩
end
end Go.Proofs.Ytmkidkfofbnjgaa
