/- The document's names: what put, take, end come to, place by place. Plain lemmas. -/
import Derived.Test.YthoaaihghgabcaaGreatAll
namespace Go.Proofs.YthoaaihghgabcaaGreat
open Go.RowKit Go.Maps

/-- Of the first i, at of them come ahead. -/
structure CutAt (R : List Nm) (s : ByteArray) (i at' : Nat) : Prop where
  le : at' ≤ i
  lo : ∀ j x, j < at' → R[j]? = some x → key x.1 < key s
  hi : ∀ j x, at' ≤ j → j < i → R[j]? = some x → ¬ key x.1 < key s
theorem CutAt.zero (R : List Nm) (s : ByteArray) : CutAt R s 0 0 := ⟨Nat.le_refl _, fun j x h => by omega, fun j x h h2 => by omega⟩
theorem up_at {R : List Nm} (h : Up R) {i j : Nat} {x y : Nm} (hij : i < j) (hx : R[i]? = some x) (hy : R[j]? = some y) : key x.1 < key y.1 := by
  obtain ⟨h1, e1⟩ := List.getElem?_eq_some_iff.1 hx
  obtain ⟨h2, e2⟩ := List.getElem?_eq_some_iff.1 hy
  have := List.pairwise_iff_getElem.1 h i j h1 h2 hij
  rwa [e1, e2] at this
theorem CutAt.up {R : List Nm} {s : ByteArray} {i at' : Nat} {x : Nm} (h : CutAt R s i at') (hu : Up R) (hx : R[i]? = some x) (hl : key x.1 < key s) : CutAt R s (i + 1) (i + 1) :=
  ⟨Nat.le_refl _, fun j y hj hy => by
    rcases Nat.lt_succ_iff_lt_or_eq.1 hj with h1 | rfl
    · exact lt_trans' (up_at hu h1 hy hx) hl
    · rw [hx] at hy; cases hy; exact hl, fun j y h1 h2 => by omega⟩
theorem CutAt.stay {R : List Nm} {s : ByteArray} {i at' : Nat} {x : Nm} (h : CutAt R s i at') (hx : R[i]? = some x) (hl : ¬ key x.1 < key s) : CutAt R s (i + 1) at' :=
  ⟨Nat.le_succ_of_le h.le, h.lo, fun j y h1 h2 hy => by
    rcases Nat.lt_succ_iff_lt_or_eq.1 h2 with h3 | rfl
    · exact h.hi j y h1 h3 hy
    · rw [hx] at hy; cases hy; exact hl⟩
theorem ins_cut {s : ByteArray} {p : Int} : ∀ {R : List Nm} {at' : Nat}, CutAt R s R.length at' → s ∉ names R → ins (s, p) R = R.take at' ++ (s, p) :: R.drop at'
  | [], at', _, _ => by simp [ins]
  | y :: R, 0, h, hn => by
    have hne : ¬ key y.1 < key s := h.hi 0 y (Nat.le_refl _) (by simp) rfl
    have hys : key s < key y.1 := lt_total hne (fun e => hn (by rw [← key_inj e]; simp [names]))
    unfold ins
    rw [if_pos hys]; rfl
  | y :: R, at' + 1, h, hn => by
    have hl : key y.1 < key s := h.lo 0 y (by omega) rfl
    have hns : ¬ key s < key y.1 := fun e => absurd (lt_trans' hl e) (lt_irrefl' _)
    have ih := ins_cut (s := s) (p := p) (R := R) (at' := at') ⟨by have := h.le; simp at this; omega, fun j x hj hx => h.lo (j + 1) x (by omega) (by simpa using hx), fun j x h1 h2 hx => h.hi (j + 1) x (by omega) (by simp; omega) (by simpa using hx)⟩ (fun hm => hn (by unfold names at hm ⊢; rw [List.map_cons]; exact List.mem_cons_of_mem _ hm))
    unfold ins
    rw [if_neg hns, ih]; rfl

/-- Where the name is, that one is struck. -/
theorem drop_at {s : ByteArray} : ∀ {R : List Nm} {k : Nat} {x : Nm}, Up R → R[k]? = some x → x.1 = s → dropName s R = R.eraseIdx k
  | [], _, _, _, h, _ => by simp at h
  | y :: R, 0, x, hu, h, e => by
    obtain rfl : y = x := by simpa using h
    obtain ⟨h1, _⟩ := List.pairwise_cons.1 hu
    unfold dropName
    rw [List.filter_cons_of_neg (by simp [e]), List.eraseIdx_cons_zero, List.filter_eq_self]
    intro z hz
    simp only [decide_eq_true_eq]
    exact fun e2 => absurd (h1 z hz) (by rw [e, e2]; exact lt_irrefl' _)
  | y :: R, k + 1, x, hu, h, e => by
    obtain ⟨h1, h2⟩ := List.pairwise_cons.1 hu
    have hx : R[k]? = some x := by simpa using h
    have hne : y.1 ≠ s := fun e2 => absurd (h1 x (List.mem_of_getElem? hx)) (by rw [e, e2]; exact lt_irrefl' _)
    have ih := drop_at h2 hx e
    unfold dropName at ih ⊢
    rw [List.filter_cons_of_pos (by simpa using hne), ih, List.eraseIdx_cons_succ]
theorem drop_no {s : ByteArray} {R : List Nm} (h : s ∉ names R) : dropName s R = R := by
  unfold dropName
  rw [List.filter_eq_self]
  intro z hz
  simp only [decide_eq_true_eq]
  exact fun e => h (List.mem_map.2 ⟨z, hz, e⟩)
theorem nms_take : ∀ (L : List Nm) (k : Nat), nms (L.take k) = (nms L).take (k * 2)
  | [], k => by simp [nms]
  | x :: L, 0 => by simp [nms]
  | x :: L, k + 1 => by
    have ih := nms_take L k
    have e : nms (x :: L) = .string x.1 :: .int .i64 x.2 :: nms L := rfl
    rw [List.take_succ_cons, e, show (k + 1) * 2 = k * 2 + 1 + 1 from by omega, List.take_succ_cons, List.take_succ_cons, ← ih]; rfl
theorem nms_drop : ∀ (L : List Nm) (k : Nat), nms (L.drop k) = (nms L).drop (k * 2)
  | [], k => by simp [nms]
  | x :: L, 0 => by simp
  | x :: L, k + 1 => by
    have ih := nms_drop L k
    have e : nms (x :: L) = .string x.1 :: .int .i64 x.2 :: nms L := rfl
    rw [List.drop_succ_cons, e, show (k + 1) * 2 = k * 2 + 1 + 1 from by omega, List.drop_succ_cons, List.drop_succ_cons, ← ih]
theorem erase_nms (L : List Nm) (i : Nat) : nms (L.eraseIdx i) = (nms L).take (i * 2) ++ (nms L).drop ((i + 1) * 2) := by
  rw [← nms_take, ← nms_drop, ← nms_append, List.eraseIdx_eq_take_drop_succ]
/-- What Put comes to. -/
def PutsTo (R : List Nm) (s : ByteArray) (p : Int) (ok : Bool) (R' : List Nm) : Prop := (hasN s R = false ∧ hasP p R = false ∧ ok = true ∧ R' = ins (s, p) R) ∨ ((hasN s R = true ∨ hasP p R = true) ∧ ok = false ∧ R' = R)
theorem putsTo_any (R : List Nm) (s : ByteArray) (p : Int) : ∃ ok R', PutsTo R s p ok R' := by
  cases h1 : hasN s R with
  | true => exact ⟨_, _, .inr ⟨.inl h1, rfl, rfl⟩⟩
  | false =>
    cases h2 : hasP p R with
    | true => exact ⟨_, _, .inr ⟨.inr h2, rfl, rfl⟩⟩
    | false => exact ⟨_, _, .inl ⟨h1, h2, rfl, rfl⟩⟩
theorem hasN_at {R : List Nm} {s : ByteArray} {k : Nat} {x : Nm} (hx : R[k]? = some x) (e : x.1 = s) : hasN s R = true := hasN_iff.2 (List.mem_map.2 ⟨x, List.mem_of_getElem? hx, e⟩)
theorem hasP_at {R : List Nm} {p : Int} {k : Nat} {x : Nm} (hx : R[k]? = some x) (e : x.2 = p) : hasP p R = true := hasP_iff.2 (List.mem_map.2 ⟨x, List.mem_of_getElem? hx, e⟩)
theorem hasN_all {R : List Nm} {s : ByteArray} (h : ∀ j x, j < R.length → R[j]? = some x → x.1 ≠ s) : hasN s R = false := by
  cases e : hasN s R with
  | false => rfl
  | true =>
    obtain ⟨x, hx, e2⟩ := List.mem_map.1 (hasN_iff.1 e)
    obtain ⟨k, hk, e3⟩ := List.mem_iff_getElem.1 hx
    exact absurd e2 (h k x hk (by rw [List.getElem?_eq_getElem hk, e3]))
theorem hasP_all {R : List Nm} {p : Int} (h : ∀ j x, j < R.length → R[j]? = some x → x.2 ≠ p) : hasP p R = false := by
  cases e : hasP p R with
  | false => rfl
  | true =>
    obtain ⟨x, hx, e2⟩ := List.mem_map.1 (hasP_iff.1 e)
    obtain ⟨k, hk, e3⟩ := List.mem_iff_getElem.1 hx
    exact absurd e2 (h k x hk (by rw [List.getElem?_eq_getElem hk, e3]))
/-- What End comes to. -/
def EndsTo (R : List Nm) (p : Int) (xs : List ByteArray) (R' : List Nm) : Prop := (∃ s, (s, p) ∈ R ∧ xs = [s] ∧ R' = dropName s R) ∨ (hasP p R = false ∧ xs = [] ∧ R' = R)
theorem endsTo_any (R : List Nm) (p : Int) : ∃ xs R', EndsTo R p xs R' := by
  cases h : hasP p R with
  | false => exact ⟨_, _, .inr ⟨h, rfl, rfl⟩⟩
  | true =>
    obtain ⟨⟨s, q⟩, hx, rfl⟩ := List.mem_map.1 (hasP_iff.1 h)
    exact ⟨_, _, .inl ⟨s, hx, rfl, rfl⟩⟩
end Go.Proofs.YthoaaihghgabcaaGreat
