/- The document's rows of pairs, and whom each one is linked with. Plain lemmas. -/
import Derived.Test.YtjmljjmnamfljaaGreatLaw
namespace Go.Proofs.YtjmljjmnamfljaaGreat
set_option maxRecDepth 100000
open Go.RowKit Go.Maps

abbrev Pr := Int × Int
def pairOf (a b : Int) : Pr := (min a b, max a b)
theorem pairOf_comm (a b : Int) : pairOf a b = pairOf b a := by unfold pairOf; rw [Int.min_comm, Int.max_comm]
structure Rel (Ps : List Pr) (L : LK) : Prop where
  once : Ps.Nodup
  mem : ∀ x y, (x, y) ∈ Ps ↔ x < y ∧ y ∈ L x
theorem Rel.none : Rel [] (fun _ => []) := ⟨List.nodup_nil, fun _ _ => by simp⟩
section
variable {Ps : List Pr} {L : LK} {a b : Int}
theorem Rel.lt (h : Rel Ps L) {p : Pr} (hp : p ∈ Ps) : p.1 < p.2 := ((h.mem p.1 p.2).1 hp).1
theorem Rel.pair (h : Rel Ps L) (g : Good L) (hab : a ≠ b) : pairOf a b ∈ Ps ↔ b ∈ L a := by
  unfold pairOf
  rw [h.mem]
  rcases Int.lt_or_gt_of_ne hab with hl | hl
  · rw [Int.min_eq_left (by omega), Int.max_eq_right (by omega)]; exact ⟨fun e => e.2, fun e => ⟨hl, e⟩⟩
  · rw [Int.min_eq_right (by omega), Int.max_eq_left (by omega)]; exact ⟨fun e => g.sym _ _ e.2, fun e => ⟨hl, g.sym _ _ e⟩⟩
theorem Rel.self (h : Rel Ps L) : pairOf a a ∉ Ps := by
  unfold pairOf; intro e
  have := h.lt e
  rw [Int.min_self, Int.max_self] at this
  exact Int.lt_irrefl _ this
theorem pairOf_eq {x y : Int} (hxy : x < y) (hab : a ≠ b) : (x, y) = pairOf a b ↔ (x = a ∧ y = b) ∨ (x = b ∧ y = a) := by
  unfold pairOf
  rcases Int.lt_or_gt_of_ne hab with hl | hl
  · rw [Int.min_eq_left (by omega), Int.max_eq_right (by omega)]
    constructor
    · intro e; injection e with e1 e2; exact .inl ⟨e1, e2⟩
    · rintro (⟨e1, e2⟩ | ⟨e1, e2⟩)
      · rw [e1, e2]
      · omega
  · rw [Int.min_eq_right (by omega), Int.max_eq_left (by omega)]
    constructor
    · intro e; injection e with e1 e2; exact .inr ⟨e1, e2⟩
    · rintro (⟨e1, e2⟩ | ⟨e1, e2⟩)
      · omega
      · rw [e1, e2]
theorem Rel.link (h : Rel Ps L) (g : Good L) (hab : a ≠ b) (hno : b ∉ L a) : Rel (Ps ++ [pairOf a b]) (linkL a b L) := by
  have hnp : pairOf a b ∉ Ps := fun e => hno ((h.pair g hab).1 e)
  refine ⟨List.nodup_append.2 ⟨h.once, by simp, fun x hx y hy e => by simp at hy; subst hy; exact hnp (e ▸ hx)⟩, fun x y => ?_⟩
  rw [List.mem_append, List.mem_singleton, h.mem, mem_linkL]
  constructor
  · rintro (⟨h1, h2⟩ | e)
    · exact ⟨h1, .inr (.inr h2)⟩
    · have hxy : x < y := by
        unfold pairOf at e; injection e with e1 e2
        rcases Int.lt_or_gt_of_ne hab with hl | hl
        · rw [Int.min_eq_left (by omega)] at e1; rw [Int.max_eq_right (by omega)] at e2; omega
        · rw [Int.min_eq_right (by omega)] at e1; rw [Int.max_eq_left (by omega)] at e2; omega
      refine ⟨hxy, ?_⟩
      rcases (pairOf_eq hxy hab).1 e with ⟨e1, e2⟩ | ⟨e1, e2⟩
      · exact .inl ⟨e1, e2⟩
      · exact .inr (.inl ⟨e1, fun e3 => hab (e3.symm.trans e1), e2⟩)
  · rintro ⟨hxy, ⟨e1, e2⟩ | ⟨e1, _, e2⟩ | h2⟩
    · exact .inr ((pairOf_eq hxy hab).2 (.inl ⟨e1, e2⟩))
    · exact .inr ((pairOf_eq hxy hab).2 (.inr ⟨e1, e2⟩))
    · exact .inl ⟨hxy, h2⟩
theorem mem_eraseOnce {i : Nat} {p q : Pr} (hn : Ps.Nodup) (h : Ps[i]? = some p) : q ∈ Ps.eraseIdx i ↔ q ∈ Ps ∧ q ≠ p := by
  induction Ps generalizing i with
  | nil => simp at h
  | cons c Ps ih =>
    obtain ⟨hc, hn2⟩ := List.nodup_cons.1 hn
    cases i with
    | zero =>
      obtain rfl : c = p := by simpa using h
      simp only [List.eraseIdx_cons_zero, List.mem_cons]
      constructor
      · intro hq; exact ⟨.inr hq, fun e => hc (e ▸ hq)⟩
      · rintro ⟨rfl | hq, hne⟩
        · exact absurd rfl hne
        · exact hq
    | succ i =>
      have hp : p ∈ Ps := List.mem_of_getElem? (by simpa using h : Ps[i]? = some p)
      simp only [List.eraseIdx_cons_succ, List.mem_cons, ih hn2 (by simpa using h)]
      constructor
      · rintro (rfl | ⟨h1, h2⟩)
        · exact ⟨.inl rfl, fun e => hc (e ▸ hp)⟩
        · exact ⟨.inr h1, h2⟩
      · rintro ⟨rfl | h1, h2⟩
        · exact .inl rfl
        · exact .inr ⟨h1, h2⟩
theorem Rel.unlink (h : Rel Ps L) (g : Good L) (hab : a ≠ b) {i : Nat} (hi : Ps[i]? = some (pairOf a b)) : Rel (Ps.eraseIdx i) (unlinkL a b L) := by
  refine ⟨h.once.sublist (List.eraseIdx_sublist _ _), fun x y => ?_⟩
  rw [mem_eraseOnce h.once hi, h.mem, mem_unlinkL]
  constructor
  · rintro ⟨⟨hxy, hy⟩, hne⟩
    exact ⟨hxy, hy, fun ⟨e1, e2⟩ => hne ((pairOf_eq hxy hab).2 (.inl ⟨e1, e2⟩)), fun ⟨e1, _, e2⟩ => hne ((pairOf_eq hxy hab).2 (.inr ⟨e1, e2⟩))⟩
  · rintro ⟨hxy, hy, h1, h2⟩
    refine ⟨⟨hxy, hy⟩, fun e => ?_⟩
    rcases (pairOf_eq hxy hab).1 e with ⟨e1, e2⟩ | ⟨e1, e2⟩
    · exact h1 ⟨e1, e2⟩
    · exact h2 ⟨e1, fun e3 => hab (e3.symm.trans e1), e2⟩

/-- The document's Of. -/
def other (a : Int) (p : Pr) : Option Int := if p.1 = a then some p.2 else if p.2 = a then some p.1 else none
def inO (a : Int) (out : List Int) (p : Pr) : List Int := match other a p with
  | some o => insI o out
  | none => out
def ofR (a : Int) (Ps : List Pr) : List Int := Ps.foldl (inO a) []
theorem ofR_take {i : Nat} {p : Pr} (h : Ps[i]? = some p) : ofR a (Ps.take (i + 1)) = inO a (ofR a (Ps.take i)) p := by
  unfold ofR; rw [List.take_add_one, h]; simp
theorem fold_in (a : Int) : ∀ (Ps : List Pr) (out : List Int), Ps.Nodup → (∀ p ∈ Ps, p.1 < p.2) → Rise out → (∀ p ∈ Ps, ∀ o, other a p = some o → o ∉ out) →
    Rise (Ps.foldl (inO a) out) ∧ ∀ z, z ∈ Ps.foldl (inO a) out ↔ z ∈ out ∨ ∃ p ∈ Ps, other a p = some z
  | [], out, _, _, h, _ => ⟨h, fun z => by simp⟩
  | p :: Ps, out, hn, hl, h, hno => by
    obtain ⟨hp, hn2⟩ := List.nodup_cons.1 hn
    have hlt := hl p List.mem_cons_self
    show Rise (Ps.foldl (inO a) (inO a out p)) ∧ _
    cases e : other a p with
    | none =>
      have e2 : inO a out p = out := by unfold inO; rw [e]
      rw [e2]
      obtain ⟨r1, r2⟩ := fold_in a Ps out hn2 (fun q hq => hl q (List.mem_cons_of_mem _ hq)) h (fun q hq => hno q (List.mem_cons_of_mem _ hq))
      refine ⟨r1, fun z => ?_⟩
      rw [show (p :: Ps).foldl (inO a) out = Ps.foldl (inO a) out from by rw [List.foldl_cons, e2], r2]
      constructor
      · rintro (h1 | ⟨q, hq, h2⟩)
        · exact .inl h1
        · exact .inr ⟨q, List.mem_cons_of_mem _ hq, h2⟩
      · rintro (h1 | ⟨q, hq, h2⟩)
        · exact .inl h1
        · rcases List.mem_cons.1 hq with rfl | hq
          · rw [e] at h2; cases h2
          · exact .inr ⟨q, hq, h2⟩
    | some o =>
      have e2 : inO a out p = insI o out := by unfold inO; rw [e]
      rw [e2]
      have ho := hno p List.mem_cons_self o e
      obtain ⟨r1, r2⟩ := fold_in a Ps (insI o out) hn2 (fun q hq => hl q (List.mem_cons_of_mem _ hq)) (rise_insI h ho) (fun q hq o2 e3 hm => by
        rcases mem_insI.1 hm with rfl | hm
        · have hq2 := hl q (List.mem_cons_of_mem _ hq)
          refine hp (?_ : p ∈ Ps)
          have : p = q := by
            obtain ⟨p1, p2⟩ := p; obtain ⟨q1, q2⟩ := q
            unfold other at e e3
            simp only at e e3 hlt hq2
            split at e <;> split at e3
            · injection e with e; injection e3 with e3; subst_vars; rfl
            · split at e3
              · injection e with e; injection e3 with e3; subst_vars; omega
              · cases e3
            · split at e
              · injection e with e; injection e3 with e3; subst_vars; omega
              · cases e
            · split at e
              · split at e3
                · injection e with e; injection e3 with e3; subst_vars; rfl
                · cases e3
              · cases e
          rw [this]; exact hq
        · exact hno q (List.mem_cons_of_mem _ hq) o2 e3 hm)
      refine ⟨r1, fun z => ?_⟩
      rw [show (p :: Ps).foldl (inO a) out = Ps.foldl (inO a) (insI o out) from by rw [List.foldl_cons, e2], r2, mem_insI]
      constructor
      · rintro ((rfl | h1) | ⟨q, hq, h2⟩)
        · exact .inr ⟨p, List.mem_cons_self, e⟩
        · exact .inl h1
        · exact .inr ⟨q, List.mem_cons_of_mem _ hq, h2⟩
      · rintro (h1 | ⟨q, hq, h2⟩)
        · exact .inl (.inr h1)
        · rcases List.mem_cons.1 hq with rfl | hq
          · rw [e] at h2; injection h2 with h2; exact .inl (.inl h2.symm)
          · exact .inr ⟨q, hq, h2⟩
theorem other_some {p : Pr} {z : Int} (h : other a p = some z) : p = (a, z) ∨ p = (z, a) := by
  obtain ⟨p1, p2⟩ := p
  unfold other at h
  simp only at h
  split at h
  · injection h with h; left; subst_vars; rfl
  · split at h
    · injection h with h; right; subst_vars; rfl
    · cases h
theorem ofR_eq (h : Rel Ps L) (g : Good L) (a : Int) : ofR a Ps = L a := by
  obtain ⟨r1, r2⟩ := fold_in a Ps [] h.once (fun p hp => h.lt hp) List.Pairwise.nil (fun _ _ _ _ hm => by cases hm)
  refine rise_ext r1 (g.rise a) fun z => ?_
  show z ∈ Ps.foldl (inO a) [] ↔ _
  rw [r2]
  constructor
  · rintro (h1 | ⟨p, hp, e⟩)
    · cases h1
    · rcases other_some e with rfl | rfl
      · exact ((h.mem _ _).1 hp).2
      · exact g.sym _ _ ((h.mem _ _).1 hp).2
  · intro hz
    have hne : a ≠ z := fun e => g.irr a (e ▸ hz)
    rcases Int.lt_or_gt_of_ne hne with hl | hl
    · exact .inr ⟨(a, z), (h.mem _ _).2 ⟨hl, hz⟩, by simp [other]⟩
    · exact .inr ⟨(z, a), (h.mem _ _).2 ⟨hl, g.sym _ _ hz⟩, by unfold other; simp; omega⟩
/-- The part that stands ahead: it rises, and what comes next is not in it. -/
theorem ofR_rise (h : Rel Ps L) (a : Int) (i : Nat) : Rise (ofR a (Ps.take i)) :=
  (fold_in a (Ps.take i) [] (h.once.sublist (List.take_sublist _ _)) (fun p hp => h.lt (List.mem_of_mem_take hp)) List.Pairwise.nil (fun _ _ _ _ hm => by cases hm)).1
end
/-- Where the document lays a number: behind all that are not above it. -/
theorem insI_at {x : Int} : ∀ {l : List Int} {at' : Nat}, Rise l → at' ≤ l.length → (∀ (j : Nat) (y : Int), l[j]? = some y → at' ≤ j → x < y) → (∀ (y : Int), 0 < at' → l[at' - 1]? = some y → ¬ x < y) → insI x l = l.take at' ++ x :: l.drop at'
  | [], at', _, h1, _, _ => by
    obtain rfl : at' = 0 := by simpa using h1
    rfl
  | y :: l, 0, _, _, h2, _ => by
    have := h2 0 y rfl (Nat.zero_le _)
    show (if x < y then x :: y :: l else y :: insI x l) = _
    rw [if_pos this]; rfl
  | y :: l, at' + 1, hr, h1, h2, h3 => by
    obtain ⟨r1, r2⟩ := List.pairwise_cons.1 hr
    have hxy : ¬ x < y := by
      cases at' with
      | zero => exact h3 y (by omega) rfl
      | succ k =>
        obtain ⟨z, hz⟩ : ∃ z, (y :: l)[k + 1 + 1 - 1]? = some z := ⟨_, List.getElem?_eq_getElem (by simp only [List.length_cons] at h1 ⊢; omega)⟩
        have h4 := h3 z (by omega) hz
        have h5 := r1 z (List.mem_of_getElem? (by simpa using hz : l[k]? = some z))
        omega
    show (if x < y then x :: y :: l else y :: insI x l) = _
    rw [if_neg hxy, insI_at (at' := at') r2 (by simp at h1; omega) (fun j z hj hle => h2 (j + 1) z (by simpa using hj) (by omega)) (fun z h0 hz => by
      refine h3 z (by omega) ?_
      obtain ⟨k, rfl⟩ : ∃ k, at' = k + 1 := ⟨at' - 1, by omega⟩
      simpa using hz)]
    rfl
end Go.Proofs.YtjmljjmnamfljaaGreat
